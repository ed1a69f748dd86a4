/-
  Part 11 of a proof: ShC, NdB, SqG, SqH, SqJ.
-/
import Derived.Test.YtkfciapeikkmfaaDoorST10
set_option linter.unusedVariables false
set_option linter.unusedSimpArgs false
set_option maxRecDepth 100000
namespace Go.Proofs.YtkfciapeikkmfaaDoor
attribute [go_sem] ev0 ev1 ev2 ev3 ev4 evA zhx.eq_1 zhx.eq_2 zhw.eq_1 zhw.eq_2 okV valV fzV okF valF okBld zfq mxOk.eq_1 mxOk.eq_2 y3k.eq_1 y3k.eq_2 z1s.eq_1 z1s.eq_2 z1s.eq_3 z4n.eq_1 z4n.eq_2 z4n.eq_3 upd_at AV.flatB AV.flatBs zu1 binIV zu0 binSV z2d.eq_1 z2d.eq_2 z26.eq_1 z26.eq_2 z09.eq_1 z09.eq_2 objZ.eq_1 objZ.eq_2 z1b.eq_1 z1b.eq_2 zlc zd4.eq_1 zd4.eq_2 zd4.eq_3 z0w.eq_1 z0w.eq_2 z0w.eq_3 z8t.eq_1 z8t.eq_2 z8t.eq_3 z8t.eq_4 z3t.eq_1 z3t.eq_2 z3t.eq_3 z3t.eq_4 faOk.eq_1 faOk.eq_2 faOk.eq_3 zmd.eq_1 zmd.eq_2 zmd.eq_3 iaOk.eq_1 iaOk.eq_2 iaOk.eq_3 zm1.eq_1 zm1.eq_2 zm1.eq_3 z2j.eq_1 z2j.eq_2 z2j.eq_3 z2j.eq_4 bdOk.eq_1 bdOk.eq_2 z6m.eq_1 z6m.eq_2 z5g.eq_1 z5g.eq_2 z5g.eq_3 z5g.eq_4 z5g.eq_5 zhz.eq_1 zhz.eq_2 zhz.eq_3 z41.eq_1 z41.eq_2 z41.eq_3 z41.eq_4 zvy.eq_1 zvy.eq_2 loK.eq_1 loK.eq_2 loK.eq_3 zcw.eq_1 zcw.eq_2 zcw.eq_3 byOk.eq_1 byOk.eq_2 byOk.eq_3 byOk.eq_4 byOk.eq_5 byOk.eq_6 byOk.eq_7 byOk.eq_8 z1c.eq_1 z1c.eq_2 z1c.eq_3 byFz.eq_1 byFz.eq_2 byFz.eq_3 z5b z19 z6l zmx z6x.eq_1 z6x.eq_2 z1d.eq_1 z1d.eq_2 stOk.eq_1 stOk.eq_2 zn2.eq_1 zn2.eq_2 stSt.eq_1 stSt.eq_2 AV.patch z8p gB.eq_1 gB.eq_2 gB.eq_3 gIs.eq_1 gIs.eq_2 gIs.eq_3 retV resV zwr z06 z2q St.byval List.getD_cons_zero List.getD_cons_succ List.getD_nil List.map_cons List.map_nil List.length_cons List.length_nil List.take_succ_cons List.take_zero List.drop_succ_cons List.drop_zero List.headD_cons List.set_cons_zero List.append_nil List.nil_append List.cons_append List.contains_cons List.contains_nil List.elem_cons List.elem_nil List.all_cons List.all_nil List.getElem?_cons_zero List.getElem?_cons_succ List.filterMap_cons List.filterMap_nil Option.isSome_some Option.isSome_none Option.map_some Option.map_none Option.some.injEq AV.int.injEq AV.bool.injEq AV.str.injEq AV.tup.injEq AV.agg.injEq AV.sl.injEq List.cons.injEq Bool.false_eq_true Bool.true_eq_false Bool.not_true Bool.not_false Bool.and_true Bool.true_and Bool.or_false Bool.or_true Bool.false_or Bool.true_or Bool.or_self Bool.and_self Bool.not_eq_true' Bool.not_eq_false' Bool.not_not beq_self_eq_true true_and and_true false_and and_false and_self not_true_eq_false not_false_eq_true forall_const true_implies false_implies implies_true imp_self Nat.lt_add_one Nat.le_refl Nat.zero_le Nat.add_zero Nat.zero_add decide_true decide_false decide_eq_true_eq decide_eq_false_iff_not exists_eq_left exists_eq_left' ge_iff_le gt_iff_lt zdc z8v zv8.eq_1 zv8.eq_2 z9m.eq_1 z9m.eq_2 AV.isSl.eq_1 z9l.eq_1 z9l.eq_2 apSt.eq_1 y2i.eq_1 y2i.eq_2 y2h.eq_1 y2h.eq_2 apSt2.eq_1 zf1.eq_1 zf1.eq_2 slOf.eq_1 y3v List.mem_cons List.not_mem_nil Bool.false_and Bool.and_false z1z.eq_1 z1z.eq_2 z1z.eq_3 z1z.eq_4 z1z.eq_5 z0o.eq_1 z0o.eq_2 z0o.eq_3 z0o.eq_4 z0o.eq_5 mOk.eq_1 mOk.eq_2 mVal.eq_1 mVal.eq_2 mFz.eq_1 mFz.eq_2 mOks zvb mFzs z9o.eq_1 z9o.eq_2 mFn.eq_1 mFn.eq_2 zvc.eq_1 zvc.eq_2 ckOk.eq_1 ckOk.eq_2 cloOk.eq_1 ptrAt.eq_1 sh.eq_1 sh.eq_2 sh.eq_3 sh.eq_4 sh.eq_5 sh.eq_6 retM zi1 evM z0l.eq_1 z0l.eq_2 ents.eq_1 ents.eq_2 kI.eq_1 mpOk.eq_1 mpR.eq_1 lkV.eq_1 lkV.eq_2 remp.eq_2 evP pvOk.eq_1 pvOk.eq_2 zv2.eq_1 zv2.eq_2 plOk.eq_1 plOk.eq_2 plOk.eq_3 plV.eq_1 plV.eq_2 plF.eq_1 plF.eq_2 zn5.eq_1 zn5.eq_2 plFz.eq_1 plFz.eq_2 lpOk.eq_1 lpOk.eq_2 y0t.eq_1 y0t.eq_2 lpFz.eq_1 lpFz.eq_2 zn1.eq_1 zn1.eq_2 zf2.eq_1 zf2.eq_2 zhv.eq_1 zn8.eq_1 zn8.eq_2 evCl
section
open Go.RowKit
attribute [local go_sem ↓] z1m z0h
def zue:List ROp:=[⟨.box 10 27 (.t 0),some 3,none,[4],[]⟩,⟨.box 3 29 (.t 1),some 4,none,[],[]⟩,⟨.mv (.c (.str ⟨#[]⟩)),some 6,none,[],[]⟩]
def y74:Reg:=⟨[],zue,[3,4],[],false⟩
def y73:Reg:=⟨[],[⟨.mv (.c (.str ⟨#[]⟩)),some 7,none,[],[]⟩],[],[],false⟩
def y72:Reg:=⟨[],[⟨.mv (.c (.int .i64 0)),some 8,none,[],[]⟩],[],[],false⟩
def zud:List ROp:=[⟨.mv (.t 8),some 10,none,[],[]⟩,⟨.mv (.t 2),some 11,none,[],[]⟩,⟨.bin .lss (.t 10) (.t 11),some 12,none,[],[]⟩,⟨.mv (.t 12),some 13,none,[],[]⟩,⟨.mv (.t 8),some 14,(some (13,true)),[],[]⟩,⟨.bin .lss (.t 14) (.c (.int .i64 100)),some 15,(some (13,true)),[],[]⟩,⟨.pick (.t 13) (.t 15) (.c (.bool false)),some 16,none,[],[]⟩]
def y71:Reg:=⟨[],zud,[],[],false⟩
def zuc:List ROp:=[⟨.mv (.t 7),some 19,none,[],[]⟩,⟨.bin .add (.t 19) (.c (.str ⟨#[32,32]⟩)),some 20,none,[],[]⟩,⟨.mv (.t 20),some 7,none,[],[]⟩]
def y70:Reg:=⟨[],zuc,[],[],false⟩
def zub:List ROp:=[⟨.mv (.t 8),some 17,none,[],[]⟩,⟨.bin .add (.t 17) (.c (.int .i64 1)),some 18,none,[],[]⟩,⟨.mv (.t 18),some 8,none,[],[]⟩]
def y6z:Reg:=⟨[],zub,[],[],false⟩
def zy0:IR:=(.seq (.seq (.reg y71)
 (.cond (.t 16) .skip
 (.exit 0)))
 (.seq (.block 1 (.reg y70))
 (.reg y6z)))
def zve:List ROp:=[⟨.mv (.t 7),some 21,none,[24,28],[]⟩,⟨.faddr 0 (.t 3),some 22,none,[24,28],[]⟩,⟨.load 1 false (.t 22),some 23,none,[24,28],[]⟩,⟨.callv (.c (.clo 12 [] [])) [(.t 23)],some 24,none,[28],[]⟩,⟨.bin .add (.t 24) (.c (.str ⟨#[32]⟩)),some 25,none,[28],[]⟩,⟨.faddr 0 (.t 4),some 26,none,[24,28],[]⟩,⟨.load 1 false (.t 26),some 27,none,[24,28],[]⟩,⟨.callv (.c (.clo 13 [] [])) [(.t 27)],some 28,none,[],[]⟩,⟨.bin .add (.t 25) (.t 28),some 29,none,[],[]⟩,⟨.bin .add (.t 29) (.c (.str ⟨#[46,46]⟩)),some 30,none,[],[]⟩]
def y6y:Reg:=⟨zve,[⟨.bin .add (.t 21) (.t 30),some 31,none,[],[]⟩,⟨.mv (.t 31),some 7,none,[],[]⟩],[24,28],[],true⟩
def y6x:Reg:=⟨[],[⟨.faddr 2 (.t 4),some 32,none,[],[]⟩,⟨.load 1 false (.t 32),some 33,none,[],[]⟩],[],[],false⟩
def zua:List ROp:=[⟨.mv (.t 7),some 34,none,[],[]⟩,⟨.bin .add (.t 34) (.c (.str ⟨#[42]⟩)),some 35,none,[],[]⟩,⟨.mv (.t 35),some 7,none,[],[]⟩]
def y6w:Reg:=⟨[],zua,[],[],false⟩
def zgo:List ROp:=[⟨.mv (.t 7),some 36,none,[39],[]⟩,⟨.faddr 1 (.t 4),some 37,none,[39],[]⟩,⟨.load 1 false (.t 37),some 38,none,[39],[]⟩,⟨.callv (.c (.clo 13 [] [])) [(.t 38)],some 39,none,[],[]⟩,⟨.bin .add (.t 36) (.t 39),some 40,none,[],[]⟩,⟨.mv (.t 40),some 7,none,[],[]⟩]
def zy9:Reg:=⟨[],zgo,[39],[],false⟩
def zgn:List ROp:=[⟨.faddr 1 (.t 3),some 41,none,[],[]⟩,⟨.load 1 false (.t 41),some 42,none,[],[]⟩,⟨.bin .neq (.t 42) (.c (.int .i64 0)),some 43,none,[],[]⟩]
def zy8:Reg:=⟨[],zgn,[],[],false⟩
def zm3:List ROp:=[⟨.mv (.t 7),some 44,none,[49,55],[]⟩,⟨.bin .add (.t 44) (.c (.str ⟨#[32,107,105,100,115,32]⟩)),some 45,none,[49,55],[]⟩,⟨.faddr 3 (.t 3),some 46,none,[49,55],[]⟩,⟨.load 1 false (.t 46),some 47,none,[49,55],[]⟩,⟨.len false (.t 47),some 48,none,[49,55],[]⟩,⟨.callv (.c (.clo 12 [] [])) [(.t 48)],some 49,none,[55],[]⟩,⟨.bin .add (.t 45) (.t 49),some 50,none,[55],[]⟩,⟨.bin .add (.t 50) (.c (.str ⟨#[32,109,115,103,115,32]⟩)),some 51,none,[55],[]⟩,⟨.faddr 8 (.t 3),some 52,none,[49,55],[]⟩,⟨.load 1 false (.t 52),some 53,none,[49,55],[]⟩,⟨.len false (.t 53),some 54,none,[49,55],[]⟩,⟨.callv (.c (.clo 12 [] [])) [(.t 54)],some 55,none,[],[]⟩]
def zy7:Reg:=⟨zm3,[⟨.bin .add (.t 51) (.t 55),some 56,none,[],[]⟩,⟨.mv (.t 56),some 6,none,[],[]⟩],[49,55],[],true⟩
def zgm:List ROp:=[⟨.mv (.t 7),some 57,none,[61],[]⟩,⟨.faddr 9 (.t 3),some 58,none,[61],[]⟩,⟨.load 1 false (.t 58),some 59,none,[61],[]⟩,⟨.len false (.t 59),some 60,none,[61],[]⟩,⟨.callv (.c (.clo 12 [] [])) [(.t 60)],some 61,none,[],[]⟩,⟨.bin .add (.c (.str ⟨#[32,114,111,119,115,32]⟩)) (.t 61),some 62,none,[],[]⟩,⟨.bin .add (.t 57) (.t 62),some 63,none,[],[]⟩,⟨.mv (.t 63),some 7,none,[],[]⟩]
def zy6:Reg:=⟨[],zgm,[61],[],false⟩
def zy5:Reg:=⟨[],[⟨.mv (.c (.int .i64 0)),some 9,none,[],[]⟩],[],[],false⟩
def zgl:List ROp:=[⟨.mv (.t 9),some 64,none,[],[]⟩,⟨.faddr 9 (.t 3),some 65,none,[],[]⟩,⟨.load 1 false (.t 65),some 66,none,[],[]⟩,⟨.len false (.t 66),some 67,none,[],[]⟩,⟨.bin .lss (.t 64) (.t 67),some 68,none,[],[]⟩]
def zy4:Reg:=⟨[],zgl,[],[],false⟩
def zgk:List ROp:=[⟨.mv (.t 7),some 71,none,[78],[]⟩,⟨.faddr 9 (.t 3),some 72,none,[78],[]⟩,⟨.load 1 false (.t 72),some 73,none,[78],[]⟩,⟨.mv (.t 9),some 74,none,[78],[]⟩,⟨.iaddr 2 (.t 73) (.t 74),some 75,none,[78],[]⟩,⟨.faddr 0 (.t 75),some 76,none,[78],[]⟩,⟨.load 1 false (.t 76),some 77,none,[78],[]⟩,⟨.callv (.c (.clo 13 [] [])) [(.t 77)],some 78,none,[],[]⟩,⟨.bin .add (.c (.str ⟨#[32]⟩)) (.t 78),some 79,none,[],[]⟩,⟨.bin .add (.t 71) (.t 79),some 80,none,[],[]⟩,⟨.mv (.t 80),some 7,none,[],[]⟩]
def zy3:Reg:=⟨[],zgk,[78],[],false⟩
def zgj:List ROp:=[⟨.mv (.t 9),some 69,none,[],[]⟩,⟨.bin .add (.t 69) (.c (.int .i64 1)),some 70,none,[],[]⟩,⟨.mv (.t 70),some 9,none,[],[]⟩]
def zy2:Reg:=⟨[],zgj,[],[],false⟩
def z4k:IR:=(.seq (.seq (.reg zy4)
 (.cond (.t 68) .skip
 (.exit 2)))
 (.seq (.block 3 (.reg zy3))
 (.reg zy2)))
def zy1:Reg:=⟨[],[⟨.mv (.t 7),some 81,none,[],[]⟩,⟨.mv (.t 81),some 6,none,[],[]⟩],[],[],false⟩
def ir_rShp:IR:=(.seq (.reg y74)
 (.seq (.reg y73)
 (.seq (.seq (.reg y72)
 (.block 0 (.loop zy0)))
 (.seq (.reg y6y)
 (.seq (.seq (.reg y6x)
 (.cond (.t 33) (.reg y6w)
 (.reg zy9)))
 (.seq (.seq (.reg zy8)
 (.cond (.t 43) (.seq (.reg zy7)
 .ret)
 .skip))
 (.seq (.reg zy6)
 (.seq (.seq (.reg zy5)
 (.block 2 (.loop z4k)))
 (.seq (.reg zy1)
 .ret)))))))))
def y6n:List RDesc:=[(.tmp 6)]
theorem e_rShp_0:EqR y74 zue [3,4]:=fun _ _ _=>rfl
theorem e_rShp_1:EqR y73 [⟨.mv (.c (.str ⟨#[]⟩)),some 7,none,[],[]⟩] []:=fun _ _ _=>rfl
theorem e_rShp_2:EqR y72 [⟨.mv (.c (.int .i64 0)),some 8,none,[],[]⟩] []:=fun _ _ _=>rfl
theorem e_rShp_3:EqR y71 zud []:=fun _ _ _=>rfl
theorem e_rShp_4:EqR y70 zuc []:=fun _ _ _=>rfl
theorem e_rShp_5:EqR y6z zub []:=fun _ _ _=>rfl
theorem e_rShp_7 (C:FuncId->List AV->AV->Prop) (σ:St) (K:St->Prop):z0m C y6y σ K = z07 C [] [⟨.bin .add (.t 21) (.t 30),some 31,none,[],[]⟩,⟨.mv (.t 31),some 7,none,[],[]⟩] zve (σ.kills [24,28]) K:=rfl
theorem e_rShp_8:EqR y6x [⟨.faddr 2 (.t 4),some 32,none,[],[]⟩,⟨.load 1 false (.t 32),some 33,none,[],[]⟩] []:=fun _ _ _=>rfl
theorem e_rShp_9:EqR y6w zua []:=fun _ _ _=>rfl
theorem e_rShp_10:EqR zy9 zgo [39]:=fun _ _ _=>rfl
theorem e_rShp_11:EqR zy8 zgn []:=fun _ _ _=>rfl
theorem e_rShp_12 (C:FuncId->List AV->AV->Prop) (σ:St) (K:St->Prop):z0m C zy7 σ K = z07 C [] [⟨.bin .add (.t 51) (.t 55),some 56,none,[],[]⟩,⟨.mv (.t 56),some 6,none,[],[]⟩] zm3 (σ.kills [49,55]) K:=rfl
theorem e_rShp_13:EqR zy6 zgm [61]:=fun _ _ _=>rfl
theorem e_rShp_14:EqR zy5 [⟨.mv (.c (.int .i64 0)),some 9,none,[],[]⟩] []:=fun _ _ _=>rfl
theorem e_rShp_15:EqR zy4 zgl []:=fun _ _ _=>rfl
theorem e_rShp_16:EqR zy3 zgk [78]:=fun _ _ _=>rfl
theorem e_rShp_17:EqR zy2 zgj []:=fun _ _ _=>rfl
theorem e_rShp_19:EqR zy1 [⟨.mv (.t 7),some 81,none,[],[]⟩,⟨.mv (.t 81),some 6,none,[],[]⟩] []:=fun _ _ _=>rfl
theorem fn_rShp {args:List AV} {r:AV} (ha:args.length.ble Tryd.f9.ntmps = true) (h:run (AFn Tryd.prog) ir_rShp (endQ y6n r) (z0a args)):AFn Tryd.prog 9 args r :=
 AFn.of_code (pv:=false) (hint:=fun _=>[]) (c:=Tryd.f9.body.getD .skip) (by kernel_rfl) (by kernel_rfl) Tryd.func9 (by kernel_rfl) (by kernel_rfl) (by kernel_rfl) (of_decide_eq_true (by kernel_rfl)) (Nat.le_of_ble_eq_true ha) (Nat.le_of_ble_eq_true (by kernel_rfl)) (z0b h)
attribute [local go_sem ↓] ir_rShp
attribute [local go_sem] y6n e_rShp_0 zue e_rShp_1 e_rShp_2 e_rShp_3 zud e_rShp_4 zuc e_rShp_5 zub e_rShp_7 zve e_rShp_8 e_rShp_9 zua e_rShp_10 zgo e_rShp_11 zgn e_rShp_12 zm3 e_rShp_13 zgm e_rShp_14 e_rShp_15 zgl e_rShp_16 zgk e_rShp_17 zgj e_rShp_19
def dpInv (n:Nd) (s:Spn) (d:Int) (k:Nat) (σ:St):Prop :=
 ∃ j:Nat,j≤z2c d∧k = z2c d - j∧σ.T 2 = .int .i64 d∧σ.T 3 = .ptr 3 0 0∧σ.T 4 = .ptr 4 0 0∧σ.H 3 = some ⟨10,27,[n.a],0⟩∧σ.H 4 = some ⟨3,29,[s.a],0⟩∧σ.T 7 = .str (padF j)∧σ.T 8 = .int .i64 j
def drInv (n:Nd) (s:Spn) (d:Int) (k:Nat) (σ:St):Prop :=
 ∃ j:Nat,j≤n.rows.length∧k = n.rows.length - j∧σ.T 3 = .ptr 3 0 0∧σ.H 3 = some ⟨10,27,[n.a],0⟩∧σ.T 7 = .str (shpR n s d j)∧σ.T 9 = .int .i64 j
theorem y9a (n:Nd) (s:Spn) (d:Int) (h:s.op = true):padF (z2c d) ++ (decS n.slot ++ (⟨#[32]⟩:ByteArray) ++ z1e s.lo ++ (⟨#[46,46]⟩:ByteArray)) ++ (⟨#[42]⟩:ByteArray) = z6a n d ++ (⟨#[32]⟩:ByteArray) ++ z5i s:=by
 unfold z6a z5i
 rw [if_pos h]
 apply z4a
 simp only [ByteArray.data_append,Array.toList_append,List.append_assoc]
 rfl
theorem y99 (n:Nd) (s:Spn) (d:Int) (h:s.op = false):padF (z2c d) ++ (decS n.slot ++ (⟨#[32]⟩:ByteArray) ++ z1e s.lo ++ (⟨#[46,46]⟩:ByteArray)) ++ z1e s.hi = z6a n d ++ (⟨#[32]⟩:ByteArray) ++ z5i s:=by
 unfold z6a z5i
 rw [if_neg (by rw [h]; simp)]
 apply z4a
 simp only [ByteArray.data_append,Array.toList_append,List.append_assoc]
set_option maxHeartbeats 4000000 in
theorem rShp_ok (n:Nd) (s:Spn) (d:Int) (h:n.Thin) (h1:s.lo.size≤2000) (h2:s.hi.size≤2000):AFn Tryd.prog 9 [n.a,s.a,.int .i64 d] (.str (n.shp s d)):=by
 refine fn_rShp rfl ?_
 have a2:=zfl d
 have hrow:=h.nrow
 have hkid:=h.nkid
 have hmsg:=h.nmsg
 have q1:=z0k s.lo
 have q2:=z0k s.hi
 have a3:=z13 n.slot h.slot.1 h.slot.2
 have a4:=z13 n.rows.length (by omega) (by omega)
 have a5:=z13 n.kids.length (by omega) (by omega)
 have a6:=z13 n.msgs.length (by omega) (by omega)
 have a7:=ztq n d h
 have a8:=ztw s h1 h2
 have c1:=zl7 n.slot h.slot
 have c2:=z3s s.lo (by omega)
 have c3:=z3s s.hi (by omega)
 have c4:=zl7 n.rows.length ⟨by omega,by omega⟩
 have c5:=zl7 n.kids.length ⟨by omega,by omega⟩
 have c6:=zl7 n.msgs.length ⟨by omega,by omega⟩
 have e1:(⟨#[32]⟩:ByteArray).size = 1:=rfl
 have e2:(⟨#[46,46]⟩:ByteArray).size = 2:=rfl
 have e3:(⟨#[32,32]⟩:ByteArray).size = 2:=rfl
 have e4:(⟨#[42]⟩:ByteArray).size = 1:=rfl
 have e5:(⟨#[32,107,105,100,115,32]⟩:ByteArray).size = 6:=rfl
 have e6:(⟨#[32,109,115,103,115,32]⟩:ByteArray).size = 6:=rfl
 have e7:(⟨#[32,114,111,119,115,32]⟩:ByteArray).size = 6:=rfl
 simp (maxSteps:=9^7) only [go_sem,↓reduceIte,reduceCtorEq,Nat.reduceEqDiff,Nat.reduceBEq,Nat.reduceAdd,Nat.reduceSub,Nat.reduceMul,Nat.reduceLT,Nat.reduceLeDiff,Nat.reduceBNe,Int.reduceBEq,Int.reduceBNe,Int.reduceLT,Int.reduceLE,Nd.a,Par.a,Spn.a]
 refine z08 (dpInv n s d) (k:=z2c d) ⟨0,by omega,rfl,?_,?_,?_,?_,?_,?_,?_⟩ ?_ <;> try (simp (maxSteps:=9^7) only [go_sem,↓reduceIte,reduceCtorEq,Nat.reduceEqDiff,Nat.reduceBEq,Nat.reduceAdd,Nat.reduceSub,Nat.reduceMul,Nat.reduceLT,Nat.reduceLeDiff,Nat.reduceBNe,Int.reduceBEq,Int.reduceBNe,Int.reduceLT,Int.reduceLE,Nd.a,Par.a,Spn.a,padF])
 ·rfl
 rintro k σ ⟨j,hj,rfl,t2,t3,t4,o3,o4,t7,t8⟩
 simp only [zy0]
 have pj:=z9k j
 by_cases hlt:j < z2c d
 ·have g1:(j:Int) < d:=by unfold z2c at hlt; omega
  have g2:(j:Int) < 100:=by omega
  have hw:=z1j (j:=j) (by omega)
  have hp:padF j ++ (⟨#[32,32]⟩:ByteArray) = padF (j + 1):=rfl
  simp (maxSteps:=9^7) only [go_sem,↓reduceIte,reduceCtorEq,Nat.reduceEqDiff,Nat.reduceBEq,Nat.reduceAdd,Nat.reduceSub,Nat.reduceMul,Nat.reduceLT,Nat.reduceLeDiff,Nat.reduceBNe,Int.reduceBEq,Int.reduceBNe,Int.reduceLT,Int.reduceLE,Nd.a,Par.a,Spn.a,t2,t7,t8,g1,g2,hw,hp,e3,pj]
  refine ⟨by omega,z2c d - (j + 1),by omega,j + 1,by omega,rfl,?_,?_,?_,?_,?_,?_,?_⟩ <;>
   (simp (maxSteps:=9^7) only [go_sem,↓reduceIte,reduceCtorEq,Nat.reduceEqDiff,Nat.reduceBEq,Nat.reduceAdd,Nat.reduceSub,Nat.reduceMul,Nat.reduceLT,Nat.reduceLeDiff,Nat.reduceBNe,Int.reduceBEq,Int.reduceBNe,Int.reduceLT,Int.reduceLE,Nd.a,Par.a,Spn.a,t2,t3,t4,o3,o4,t7,t8,hw])
 obtain rfl:j = z2c d:=by omega
 by_cases h0:n.level = 0
 case neg =>
  have b0:(n.level == 0) = false:=by simp [h0]
  have b1:(n.level != 0) = true:=by simp [bne,h0]
  have es:=(shp_kids n s d h0).symm
  cases ho:s.op with
  | true =>
   have ed:=y9a n s d ho
   by_cases g1:((z2c d:Nat):Int) < d
   ·have g2:¬ ((z2c d:Nat):Int) < 100:=by unfold z2c at g1 ⊢; omega
    (repeat (first | simp (maxSteps:=9^7) only [go_sem,↓reduceIte,reduceCtorEq,Nat.reduceEqDiff,Nat.reduceBEq,Nat.reduceAdd,Nat.reduceSub,Nat.reduceMul,Nat.reduceLT,Nat.reduceLeDiff,Nat.reduceBNe,Int.reduceBEq,Int.reduceBNe,Int.reduceLT,Int.reduceLE,Nd.a,Par.a,Spn.a,t2,t3,t4,o3,o4,t7,t8,g1,g2,ho,ed,e1,e2,e4,pj,ByteArray.size_append,List.length_map,es,b1,e5,e6] | refine z01 (c1) ?_ | refine z00 (c1) ?_ | refine z01 (c2) ?_ | refine z00 (c2) ?_ | refine z01 (c3) ?_ | refine z00 (c3) ?_ | refine z01 (c5) ?_ | refine z00 (c5) ?_ | refine z01 (c6) ?_ | refine z00 (c6) ?_ | refine And.intro (by omega) ?_ | refine And.intro (fun d hd=>by (repeat (rcases hd with rfl | hd; · exact ⟨rfl,rfl⟩)); cases hd) ?_))
    all_goals omega
   ·(repeat (first | simp (maxSteps:=9^7) only [go_sem,↓reduceIte,reduceCtorEq,Nat.reduceEqDiff,Nat.reduceBEq,Nat.reduceAdd,Nat.reduceSub,Nat.reduceMul,Nat.reduceLT,Nat.reduceLeDiff,Nat.reduceBNe,Int.reduceBEq,Int.reduceBNe,Int.reduceLT,Int.reduceLE,Nd.a,Par.a,Spn.a,t2,t3,t4,o3,o4,t7,t8,g1,ho,ed,e1,e2,e4,pj,ByteArray.size_append,List.length_map,es,b1,e5,e6] | refine z01 (c1) ?_ | refine z00 (c1) ?_ | refine z01 (c2) ?_ | refine z00 (c2) ?_ | refine z01 (c3) ?_ | refine z00 (c3) ?_ | refine z01 (c5) ?_ | refine z00 (c5) ?_ | refine z01 (c6) ?_ | refine z00 (c6) ?_ | refine And.intro (by omega) ?_ | refine And.intro (fun d hd=>by (repeat (rcases hd with rfl | hd; · exact ⟨rfl,rfl⟩)); cases hd) ?_))
    all_goals omega
  | false =>
   have ed:=y99 n s d ho
   by_cases g1:((z2c d:Nat):Int) < d
   ·have g2:¬ ((z2c d:Nat):Int) < 100:=by unfold z2c at g1 ⊢; omega
    (repeat (first | simp (maxSteps:=9^7) only [go_sem,↓reduceIte,reduceCtorEq,Nat.reduceEqDiff,Nat.reduceBEq,Nat.reduceAdd,Nat.reduceSub,Nat.reduceMul,Nat.reduceLT,Nat.reduceLeDiff,Nat.reduceBNe,Int.reduceBEq,Int.reduceBNe,Int.reduceLT,Int.reduceLE,Nd.a,Par.a,Spn.a,t2,t3,t4,o3,o4,t7,t8,g1,g2,ho,ed,e1,e2,e4,pj,ByteArray.size_append,List.length_map,es,b1,e5,e6] | refine z01 (c1) ?_ | refine z00 (c1) ?_ | refine z01 (c2) ?_ | refine z00 (c2) ?_ | refine z01 (c3) ?_ | refine z00 (c3) ?_ | refine z01 (c5) ?_ | refine z00 (c5) ?_ | refine z01 (c6) ?_ | refine z00 (c6) ?_ | refine And.intro (by omega) ?_ | refine And.intro (fun d hd=>by (repeat (rcases hd with rfl | hd; · exact ⟨rfl,rfl⟩)); cases hd) ?_))
    all_goals omega
   ·(repeat (first | simp (maxSteps:=9^7) only [go_sem,↓reduceIte,reduceCtorEq,Nat.reduceEqDiff,Nat.reduceBEq,Nat.reduceAdd,Nat.reduceSub,Nat.reduceMul,Nat.reduceLT,Nat.reduceLeDiff,Nat.reduceBNe,Int.reduceBEq,Int.reduceBNe,Int.reduceLT,Int.reduceLE,Nd.a,Par.a,Spn.a,t2,t3,t4,o3,o4,t7,t8,g1,ho,ed,e1,e2,e4,pj,ByteArray.size_append,List.length_map,es,b1,e5,e6] | refine z01 (c1) ?_ | refine z00 (c1) ?_ | refine z01 (c2) ?_ | refine z00 (c2) ?_ | refine z01 (c3) ?_ | refine z00 (c3) ?_ | refine z01 (c5) ?_ | refine z00 (c5) ?_ | refine z01 (c6) ?_ | refine z00 (c6) ?_ | refine And.intro (by omega) ?_ | refine And.intro (fun d hd=>by (repeat (rcases hd with rfl | hd; · exact ⟨rfl,rfl⟩)); cases hd) ?_))
    all_goals omega
 have b1:(n.level != 0) = false:=by simp [bne,h0]
 have eal:=shpR_all n s d h0
 have e0:z6a n d ++ (⟨#[32]⟩:ByteArray) ++ z5i s ++ ((⟨#[32,114,111,119,115,32]⟩:ByteArray) ++ decS n.rows.length) = shpR n s d 0:=(z6w _ _ _).symm.trans (shpR_zero n s d).symm
 cases ho:s.op with
 | true =>
  have ed:=y9a n s d ho
  by_cases g1:((z2c d:Nat):Int) < d
  ·have g2:¬ ((z2c d:Nat):Int) < 100:=by unfold z2c at g1 ⊢; omega
   (repeat (first | simp (maxSteps:=9^7) only [go_sem,↓reduceIte,reduceCtorEq,Nat.reduceEqDiff,Nat.reduceBEq,Nat.reduceAdd,Nat.reduceSub,Nat.reduceMul,Nat.reduceLT,Nat.reduceLeDiff,Nat.reduceBNe,Int.reduceBEq,Int.reduceBNe,Int.reduceLT,Int.reduceLE,Nd.a,Par.a,Spn.a,t2,t3,t4,o3,o4,t7,t8,g1,g2,ho,ed,e1,e2,e4,pj,ByteArray.size_append,List.length_map,b1,e7] | refine z01 (c1) ?_ | refine z00 (c1) ?_ | refine z01 (c2) ?_ | refine z00 (c2) ?_ | refine z01 (c3) ?_ | refine z00 (c3) ?_ | refine z01 (c4) ?_ | refine z00 (c4) ?_ | refine And.intro (by omega) ?_ | refine And.intro (fun d hd=>by (repeat (rcases hd with rfl | hd; · exact ⟨rfl,rfl⟩)); cases hd) ?_))
   refine z08 (drInv n s d) (k:=n.rows.length) ⟨0,by omega,rfl,?_,?_,?_,?_⟩ ?_
   iterate 3 focus ((simp (maxSteps:=9^7) only [go_sem,↓reduceIte,reduceCtorEq,Nat.reduceEqDiff,Nat.reduceBEq,Nat.reduceAdd,Nat.reduceSub,Nat.reduceMul,Nat.reduceLT,Nat.reduceLeDiff,Nat.reduceBNe,Int.reduceBEq,Int.reduceBNe,Int.reduceLT,Int.reduceLE,Nd.a,Par.a,Spn.a,t2,t3,t4,o3,o4,t7,t8,g1,g2,ho,ed,e1,e2,e4,pj,ByteArray.size_append,List.length_map,e0]) <;> rfl)
   ·simp (maxSteps:=9^7) only [go_sem,↓reduceIte,reduceCtorEq,Nat.reduceEqDiff,Nat.reduceBEq,Nat.reduceAdd,Nat.reduceSub,Nat.reduceMul,Nat.reduceLT,Nat.reduceLeDiff,Nat.reduceBNe,Int.reduceBEq,Int.reduceBNe,Int.reduceLT,Int.reduceLE,Nd.a,Par.a,Spn.a]
    try rfl
   rintro k σ ⟨j,hj,rfl,t3,o3,t7,t9⟩
   simp only [z4k]
   have sj:=z9c n s d j h h0 h1 h2
   by_cases hlt:j < n.rows.length
   ·have hlt':(j:Int) < (n.rows.length:Int):=by omega
    obtain ⟨x,hx⟩:=z0f hlt
    have hgj:=z0j (f:=Par.a) hx
    simp only [Par.a] at hgj
    have hw:=z1j (j:=j) (by omega)
    have s1:=h.rws x (List.mem_of_getElem? hx)
    have q8:=z0k x.key
    have c8:=z3s x.key (by omega)
    have hn:shpR n s d j ++ ((⟨#[32]⟩:ByteArray) ++ z1e x.key) = shpR n s d (j + 1):=by rw [z9d n s d hx,z6w]
    (repeat (first | simp (maxSteps:=9^7) only [go_sem,↓reduceIte,reduceCtorEq,Nat.reduceEqDiff,Nat.reduceBEq,Nat.reduceAdd,Nat.reduceSub,Nat.reduceMul,Nat.reduceLT,Nat.reduceLeDiff,Nat.reduceBNe,Int.reduceBEq,Int.reduceBNe,Int.reduceLT,Int.reduceLE,Nd.a,Par.a,Spn.a,t3,o3,t7,t9,hlt',hgj,hlt,hn,e1,ByteArray.size_append,List.length_map,Int.toNat_natCast] | refine z01 (c8) ?_ | refine z00 (c8) ?_ | refine And.intro (by omega) ?_ | refine And.intro (fun d hd=>by (repeat (rcases hd with rfl | hd; · exact ⟨rfl,rfl⟩)); cases hd) ?_))
    refine ⟨n.rows.length - (j + 1),by omega,j + 1,by omega,rfl,?_,?_,?_,?_⟩ <;>
     (simp (maxSteps:=9^7) only [go_sem,↓reduceIte,reduceCtorEq,Nat.reduceEqDiff,Nat.reduceBEq,Nat.reduceAdd,Nat.reduceSub,Nat.reduceMul,Nat.reduceLT,Nat.reduceLeDiff,Nat.reduceBNe,Int.reduceBEq,Int.reduceBNe,Int.reduceLT,Int.reduceLE,Nd.a,Par.a,Spn.a,t3,o3,t7,t9,hw,hn])
   ·have hlt':¬ (j:Int) < (n.rows.length:Int):=by omega
    obtain rfl:j = n.rows.length:=by omega
    simp (maxSteps:=9^7) only [go_sem,↓reduceIte,reduceCtorEq,Nat.reduceEqDiff,Nat.reduceBEq,Nat.reduceAdd,Nat.reduceSub,Nat.reduceMul,Nat.reduceLT,Nat.reduceLeDiff,Nat.reduceBNe,Int.reduceBEq,Int.reduceBNe,Int.reduceLT,Int.reduceLE,Nd.a,Par.a,Spn.a,t3,o3,t7,t9,hlt',eal,List.length_map]
  ·(repeat (first | simp (maxSteps:=9^7) only [go_sem,↓reduceIte,reduceCtorEq,Nat.reduceEqDiff,Nat.reduceBEq,Nat.reduceAdd,Nat.reduceSub,Nat.reduceMul,Nat.reduceLT,Nat.reduceLeDiff,Nat.reduceBNe,Int.reduceBEq,Int.reduceBNe,Int.reduceLT,Int.reduceLE,Nd.a,Par.a,Spn.a,t2,t3,t4,o3,o4,t7,t8,g1,ho,ed,e1,e2,e4,pj,ByteArray.size_append,List.length_map,b1,e7] | refine z01 (c1) ?_ | refine z00 (c1) ?_ | refine z01 (c2) ?_ | refine z00 (c2) ?_ | refine z01 (c3) ?_ | refine z00 (c3) ?_ | refine z01 (c4) ?_ | refine z00 (c4) ?_ | refine And.intro (by omega) ?_ | refine And.intro (fun d hd=>by (repeat (rcases hd with rfl | hd; · exact ⟨rfl,rfl⟩)); cases hd) ?_))
   refine z08 (drInv n s d) (k:=n.rows.length) ⟨0,by omega,rfl,?_,?_,?_,?_⟩ ?_
   iterate 3 focus ((simp (maxSteps:=9^7) only [go_sem,↓reduceIte,reduceCtorEq,Nat.reduceEqDiff,Nat.reduceBEq,Nat.reduceAdd,Nat.reduceSub,Nat.reduceMul,Nat.reduceLT,Nat.reduceLeDiff,Nat.reduceBNe,Int.reduceBEq,Int.reduceBNe,Int.reduceLT,Int.reduceLE,Nd.a,Par.a,Spn.a,t2,t3,t4,o3,o4,t7,t8,g1,ho,ed,e1,e2,e4,pj,ByteArray.size_append,List.length_map,e0]) <;> rfl)
   ·simp (maxSteps:=9^7) only [go_sem,↓reduceIte,reduceCtorEq,Nat.reduceEqDiff,Nat.reduceBEq,Nat.reduceAdd,Nat.reduceSub,Nat.reduceMul,Nat.reduceLT,Nat.reduceLeDiff,Nat.reduceBNe,Int.reduceBEq,Int.reduceBNe,Int.reduceLT,Int.reduceLE,Nd.a,Par.a,Spn.a]
    try rfl
   rintro k σ ⟨j,hj,rfl,t3,o3,t7,t9⟩
   simp only [z4k]
   have sj:=z9c n s d j h h0 h1 h2
   by_cases hlt:j < n.rows.length
   ·have hlt':(j:Int) < (n.rows.length:Int):=by omega
    obtain ⟨x,hx⟩:=z0f hlt
    have hgj:=z0j (f:=Par.a) hx
    simp only [Par.a] at hgj
    have hw:=z1j (j:=j) (by omega)
    have s1:=h.rws x (List.mem_of_getElem? hx)
    have q8:=z0k x.key
    have c8:=z3s x.key (by omega)
    have hn:shpR n s d j ++ ((⟨#[32]⟩:ByteArray) ++ z1e x.key) = shpR n s d (j + 1):=by rw [z9d n s d hx,z6w]
    (repeat (first | simp (maxSteps:=9^7) only [go_sem,↓reduceIte,reduceCtorEq,Nat.reduceEqDiff,Nat.reduceBEq,Nat.reduceAdd,Nat.reduceSub,Nat.reduceMul,Nat.reduceLT,Nat.reduceLeDiff,Nat.reduceBNe,Int.reduceBEq,Int.reduceBNe,Int.reduceLT,Int.reduceLE,Nd.a,Par.a,Spn.a,t3,o3,t7,t9,hlt',hgj,hlt,hn,e1,ByteArray.size_append,List.length_map,Int.toNat_natCast] | refine z01 (c8) ?_ | refine z00 (c8) ?_ | refine And.intro (by omega) ?_ | refine And.intro (fun d hd=>by (repeat (rcases hd with rfl | hd; · exact ⟨rfl,rfl⟩)); cases hd) ?_))
    refine ⟨n.rows.length - (j + 1),by omega,j + 1,by omega,rfl,?_,?_,?_,?_⟩ <;>
     (simp (maxSteps:=9^7) only [go_sem,↓reduceIte,reduceCtorEq,Nat.reduceEqDiff,Nat.reduceBEq,Nat.reduceAdd,Nat.reduceSub,Nat.reduceMul,Nat.reduceLT,Nat.reduceLeDiff,Nat.reduceBNe,Int.reduceBEq,Int.reduceBNe,Int.reduceLT,Int.reduceLE,Nd.a,Par.a,Spn.a,t3,o3,t7,t9,hw,hn])
   ·have hlt':¬ (j:Int) < (n.rows.length:Int):=by omega
    obtain rfl:j = n.rows.length:=by omega
    simp (maxSteps:=9^7) only [go_sem,↓reduceIte,reduceCtorEq,Nat.reduceEqDiff,Nat.reduceBEq,Nat.reduceAdd,Nat.reduceSub,Nat.reduceMul,Nat.reduceLT,Nat.reduceLeDiff,Nat.reduceBNe,Int.reduceBEq,Int.reduceBNe,Int.reduceLT,Int.reduceLE,Nd.a,Par.a,Spn.a,t3,o3,t7,t9,hlt',eal,List.length_map]
 | false =>
  have ed:=y99 n s d ho
  by_cases g1:((z2c d:Nat):Int) < d
  ·have g2:¬ ((z2c d:Nat):Int) < 100:=by unfold z2c at g1 ⊢; omega
   (repeat (first | simp (maxSteps:=9^7) only [go_sem,↓reduceIte,reduceCtorEq,Nat.reduceEqDiff,Nat.reduceBEq,Nat.reduceAdd,Nat.reduceSub,Nat.reduceMul,Nat.reduceLT,Nat.reduceLeDiff,Nat.reduceBNe,Int.reduceBEq,Int.reduceBNe,Int.reduceLT,Int.reduceLE,Nd.a,Par.a,Spn.a,t2,t3,t4,o3,o4,t7,t8,g1,g2,ho,ed,e1,e2,e4,pj,ByteArray.size_append,List.length_map,b1,e7] | refine z01 (c1) ?_ | refine z00 (c1) ?_ | refine z01 (c2) ?_ | refine z00 (c2) ?_ | refine z01 (c3) ?_ | refine z00 (c3) ?_ | refine z01 (c4) ?_ | refine z00 (c4) ?_ | refine And.intro (by omega) ?_ | refine And.intro (fun d hd=>by (repeat (rcases hd with rfl | hd; · exact ⟨rfl,rfl⟩)); cases hd) ?_))
   refine z08 (drInv n s d) (k:=n.rows.length) ⟨0,by omega,rfl,?_,?_,?_,?_⟩ ?_
   iterate 3 focus ((simp (maxSteps:=9^7) only [go_sem,↓reduceIte,reduceCtorEq,Nat.reduceEqDiff,Nat.reduceBEq,Nat.reduceAdd,Nat.reduceSub,Nat.reduceMul,Nat.reduceLT,Nat.reduceLeDiff,Nat.reduceBNe,Int.reduceBEq,Int.reduceBNe,Int.reduceLT,Int.reduceLE,Nd.a,Par.a,Spn.a,t2,t3,t4,o3,o4,t7,t8,g1,g2,ho,ed,e1,e2,e4,pj,ByteArray.size_append,List.length_map,e0]) <;> rfl)
   ·simp (maxSteps:=9^7) only [go_sem,↓reduceIte,reduceCtorEq,Nat.reduceEqDiff,Nat.reduceBEq,Nat.reduceAdd,Nat.reduceSub,Nat.reduceMul,Nat.reduceLT,Nat.reduceLeDiff,Nat.reduceBNe,Int.reduceBEq,Int.reduceBNe,Int.reduceLT,Int.reduceLE,Nd.a,Par.a,Spn.a]
    try rfl
   rintro k σ ⟨j,hj,rfl,t3,o3,t7,t9⟩
   simp only [z4k]
   have sj:=z9c n s d j h h0 h1 h2
   by_cases hlt:j < n.rows.length
   ·have hlt':(j:Int) < (n.rows.length:Int):=by omega
    obtain ⟨x,hx⟩:=z0f hlt
    have hgj:=z0j (f:=Par.a) hx
    simp only [Par.a] at hgj
    have hw:=z1j (j:=j) (by omega)
    have s1:=h.rws x (List.mem_of_getElem? hx)
    have q8:=z0k x.key
    have c8:=z3s x.key (by omega)
    have hn:shpR n s d j ++ ((⟨#[32]⟩:ByteArray) ++ z1e x.key) = shpR n s d (j + 1):=by rw [z9d n s d hx,z6w]
    (repeat (first | simp (maxSteps:=9^7) only [go_sem,↓reduceIte,reduceCtorEq,Nat.reduceEqDiff,Nat.reduceBEq,Nat.reduceAdd,Nat.reduceSub,Nat.reduceMul,Nat.reduceLT,Nat.reduceLeDiff,Nat.reduceBNe,Int.reduceBEq,Int.reduceBNe,Int.reduceLT,Int.reduceLE,Nd.a,Par.a,Spn.a,t3,o3,t7,t9,hlt',hgj,hlt,hn,e1,ByteArray.size_append,List.length_map,Int.toNat_natCast] | refine z01 (c8) ?_ | refine z00 (c8) ?_ | refine And.intro (by omega) ?_ | refine And.intro (fun d hd=>by (repeat (rcases hd with rfl | hd; · exact ⟨rfl,rfl⟩)); cases hd) ?_))
    refine ⟨n.rows.length - (j + 1),by omega,j + 1,by omega,rfl,?_,?_,?_,?_⟩ <;>
     (simp (maxSteps:=9^7) only [go_sem,↓reduceIte,reduceCtorEq,Nat.reduceEqDiff,Nat.reduceBEq,Nat.reduceAdd,Nat.reduceSub,Nat.reduceMul,Nat.reduceLT,Nat.reduceLeDiff,Nat.reduceBNe,Int.reduceBEq,Int.reduceBNe,Int.reduceLT,Int.reduceLE,Nd.a,Par.a,Spn.a,t3,o3,t7,t9,hw,hn])
   ·have hlt':¬ (j:Int) < (n.rows.length:Int):=by omega
    obtain rfl:j = n.rows.length:=by omega
    simp (maxSteps:=9^7) only [go_sem,↓reduceIte,reduceCtorEq,Nat.reduceEqDiff,Nat.reduceBEq,Nat.reduceAdd,Nat.reduceSub,Nat.reduceMul,Nat.reduceLT,Nat.reduceLeDiff,Nat.reduceBNe,Int.reduceBEq,Int.reduceBNe,Int.reduceLT,Int.reduceLE,Nd.a,Par.a,Spn.a,t3,o3,t7,t9,hlt',eal,List.length_map]
  ·(repeat (first | simp (maxSteps:=9^7) only [go_sem,↓reduceIte,reduceCtorEq,Nat.reduceEqDiff,Nat.reduceBEq,Nat.reduceAdd,Nat.reduceSub,Nat.reduceMul,Nat.reduceLT,Nat.reduceLeDiff,Nat.reduceBNe,Int.reduceBEq,Int.reduceBNe,Int.reduceLT,Int.reduceLE,Nd.a,Par.a,Spn.a,t2,t3,t4,o3,o4,t7,t8,g1,ho,ed,e1,e2,e4,pj,ByteArray.size_append,List.length_map,b1,e7] | refine z01 (c1) ?_ | refine z00 (c1) ?_ | refine z01 (c2) ?_ | refine z00 (c2) ?_ | refine z01 (c3) ?_ | refine z00 (c3) ?_ | refine z01 (c4) ?_ | refine z00 (c4) ?_ | refine And.intro (by omega) ?_ | refine And.intro (fun d hd=>by (repeat (rcases hd with rfl | hd; · exact ⟨rfl,rfl⟩)); cases hd) ?_))
   refine z08 (drInv n s d) (k:=n.rows.length) ⟨0,by omega,rfl,?_,?_,?_,?_⟩ ?_
   iterate 3 focus ((simp (maxSteps:=9^7) only [go_sem,↓reduceIte,reduceCtorEq,Nat.reduceEqDiff,Nat.reduceBEq,Nat.reduceAdd,Nat.reduceSub,Nat.reduceMul,Nat.reduceLT,Nat.reduceLeDiff,Nat.reduceBNe,Int.reduceBEq,Int.reduceBNe,Int.reduceLT,Int.reduceLE,Nd.a,Par.a,Spn.a,t2,t3,t4,o3,o4,t7,t8,g1,ho,ed,e1,e2,e4,pj,ByteArray.size_append,List.length_map,e0]) <;> rfl)
   ·simp (maxSteps:=9^7) only [go_sem,↓reduceIte,reduceCtorEq,Nat.reduceEqDiff,Nat.reduceBEq,Nat.reduceAdd,Nat.reduceSub,Nat.reduceMul,Nat.reduceLT,Nat.reduceLeDiff,Nat.reduceBNe,Int.reduceBEq,Int.reduceBNe,Int.reduceLT,Int.reduceLE,Nd.a,Par.a,Spn.a]
    try rfl
   rintro k σ ⟨j,hj,rfl,t3,o3,t7,t9⟩
   simp only [z4k]
   have sj:=z9c n s d j h h0 h1 h2
   by_cases hlt:j < n.rows.length
   ·have hlt':(j:Int) < (n.rows.length:Int):=by omega
    obtain ⟨x,hx⟩:=z0f hlt
    have hgj:=z0j (f:=Par.a) hx
    simp only [Par.a] at hgj
    have hw:=z1j (j:=j) (by omega)
    have s1:=h.rws x (List.mem_of_getElem? hx)
    have q8:=z0k x.key
    have c8:=z3s x.key (by omega)
    have hn:shpR n s d j ++ ((⟨#[32]⟩:ByteArray) ++ z1e x.key) = shpR n s d (j + 1):=by rw [z9d n s d hx,z6w]
    (repeat (first | simp (maxSteps:=9^7) only [go_sem,↓reduceIte,reduceCtorEq,Nat.reduceEqDiff,Nat.reduceBEq,Nat.reduceAdd,Nat.reduceSub,Nat.reduceMul,Nat.reduceLT,Nat.reduceLeDiff,Nat.reduceBNe,Int.reduceBEq,Int.reduceBNe,Int.reduceLT,Int.reduceLE,Nd.a,Par.a,Spn.a,t3,o3,t7,t9,hlt',hgj,hlt,hn,e1,ByteArray.size_append,List.length_map,Int.toNat_natCast] | refine z01 (c8) ?_ | refine z00 (c8) ?_ | refine And.intro (by omega) ?_ | refine And.intro (fun d hd=>by (repeat (rcases hd with rfl | hd; · exact ⟨rfl,rfl⟩)); cases hd) ?_))
    refine ⟨n.rows.length - (j + 1),by omega,j + 1,by omega,rfl,?_,?_,?_,?_⟩ <;>
     (simp (maxSteps:=9^7) only [go_sem,↓reduceIte,reduceCtorEq,Nat.reduceEqDiff,Nat.reduceBEq,Nat.reduceAdd,Nat.reduceSub,Nat.reduceMul,Nat.reduceLT,Nat.reduceLeDiff,Nat.reduceBNe,Int.reduceBEq,Int.reduceBNe,Int.reduceLT,Int.reduceLE,Nd.a,Par.a,Spn.a,t3,o3,t7,t9,hw,hn])
   ·have hlt':¬ (j:Int) < (n.rows.length:Int):=by omega
    obtain rfl:j = n.rows.length:=by omega
    simp (maxSteps:=9^7) only [go_sem,↓reduceIte,reduceCtorEq,Nat.reduceEqDiff,Nat.reduceBEq,Nat.reduceAdd,Nat.reduceSub,Nat.reduceMul,Nat.reduceLT,Nat.reduceLeDiff,Nat.reduceBNe,Int.reduceBEq,Int.reduceBNe,Int.reduceLT,Int.reduceLE,Nd.a,Par.a,Spn.a,t3,o3,t7,t9,hlt',eal,List.length_map]
end
section
open Go.RowKit
attribute [local go_sem ↓] z1m z0h
def sumN {α:Type} (f:α->Nat):List α->Nat
 | []=>0
 | x :: l=>f x + sumN f l
theorem sumN_at {α:Type} {f:α->Nat} {l:List α} {j:Nat} {x:α} (h:l[j]? = some x):sumN f (l.drop j) = f x + sumN f (l.drop (j + 1)):=by
 rw [z0c h]; rfl
theorem zf8 {α:Type} {f:α->Nat}:∀ {l:List α} {x:α},x ∈ l->f x≤sumN f l
 | y :: l,x,h=>by
  show _≤f y + sumN f l
  rcases List.mem_cons.1 h with rfl | h
  ·omega
  ·have:=zf8 (f:=f) h; omega
theorem zf9 {α:Type} {f:α->Nat} (hf:∀ x,1≤f x):∀ l:List α,l.length≤sumN f l
 | []=>Nat.le_refl _
 | x :: l=>by
  have:=zf9 hf l
  have:=hf x
  show l.length + 1≤f x + sumN f l
  omega
def Par.bulk (p:Par):Nat:=1 + p.key.size + p.val.size
def Msg.bulkN (m:Msg):Nat:=1 + m.key.size + m.hi.size + m.val.size
def z2s (s:ByteArray):Nat:=s.size + 1
def longInv (l:List AV) (most:Int) (rest:Nat->Nat) (r:Bool) (k:Nat) (σ:St):Prop :=
 ∃ (j n:Nat),j≤l.length∧k = l.length - j∧σ.T 0 = .sl l∧σ.T 1 = .int .i64 most∧σ.T 5 = .int .i64 n∧σ.T 6 = .int .i64 j∧n≤900000000000000∧decide (((n + rest j:Nat):Int)≤most) = r
def zqw:Reg:=⟨[],[⟨.mv (.c (.bool false)),some 4,none,[],[]⟩],[],[],false⟩
def zqv:Reg:=⟨[],[⟨.mv (.c (.int .i64 0)),some 5,none,[],[]⟩],[],[],false⟩
def zqu:Reg:=⟨[],[⟨.mv (.c (.int .i64 0)),some 6,none,[],[]⟩],[],[],false⟩
def zbr:List ROp:=[⟨.mv (.t 6),some 7,none,[],[]⟩,⟨.mv (.t 0),some 8,none,[],[]⟩,⟨.len false (.t 8),some 9,none,[],[]⟩,⟨.bin .lss (.t 7) (.t 9),some 10,none,[],[]⟩,⟨.mv (.t 10),some 11,none,[],[]⟩,⟨.mv (.t 5),some 12,(some (11,true)),[],[]⟩,⟨.mv (.t 1),some 13,(some (11,true)),[],[]⟩,⟨.bin .leq (.t 12) (.t 13),some 14,(some (11,true)),[],[]⟩,⟨.pick (.t 11) (.t 14) (.c (.bool false)),some 15,none,[],[]⟩]
def zqt:Reg:=⟨[],zbr,[],[],false⟩
def zdl:List ROp:=[⟨.mv (.t 5),some 18,none,[],[]⟩,⟨.mv (.t 0),some 19,none,[],[]⟩,⟨.mv (.t 6),some 20,none,[],[]⟩,⟨.iaddr 2 (.t 19) (.t 20),some 21,none,[],[]⟩,⟨.faddr 0 (.t 21),some 22,none,[],[]⟩,⟨.load 1 false (.t 22),some 23,none,[],[]⟩,⟨.len true (.t 23),some 24,none,[],[]⟩,⟨.bin .add (.c (.int .i64 1)) (.t 24),some 25,none,[],[]⟩,⟨.mv (.t 0),some 26,none,[],[]⟩,⟨.mv (.t 6),some 27,none,[],[]⟩,⟨.iaddr 2 (.t 26) (.t 27),some 28,none,[],[]⟩,⟨.faddr 1 (.t 28),some 29,none,[],[]⟩,⟨.load 1 false (.t 29),some 30,none,[],[]⟩,⟨.len true (.t 30),some 31,none,[],[]⟩,⟨.bin .add (.t 25) (.t 31),some 32,none,[],[]⟩]
def zqs:Reg:=⟨zdl,[⟨.bin .add (.t 18) (.t 32),some 33,none,[],[]⟩,⟨.mv (.t 33),some 5,none,[],[]⟩],[],[],true⟩
def zbq:List ROp:=[⟨.mv (.t 6),some 16,none,[],[]⟩,⟨.bin .add (.t 16) (.c (.int .i64 1)),some 17,none,[],[]⟩,⟨.mv (.t 17),some 6,none,[],[]⟩]
def zqr:Reg:=⟨[],zbq,[],[],false⟩
def zk5:IR:=(.seq (.seq (.reg zqt)
 (.cond (.t 15) .skip
 (.exit 0)))
 (.seq (.block 1 (.reg zqs))
 (.reg zqr)))
def zbp:List ROp:=[⟨.mv (.t 5),some 34,none,[],[]⟩,⟨.mv (.t 1),some 35,none,[],[]⟩,⟨.bin .leq (.t 34) (.t 35),some 36,none,[],[]⟩,⟨.mv (.t 36),some 4,none,[],[]⟩]
def zqq:Reg:=⟨[],zbp,[],[],false⟩
def y1a:IR:=(.seq (.reg zqw)
 (.seq (.reg zqv)
 (.seq (.seq (.reg zqu)
 (.block 0 (.loop zk5)))
 (.seq (.reg zqq)
 .ret))))
def znv:List RDesc:=[(.tmp 4)]
theorem e_rLong9_0:EqR zqw [⟨.mv (.c (.bool false)),some 4,none,[],[]⟩] []:=fun _ _ _=>rfl
theorem e_rLong9_1:EqR zqv [⟨.mv (.c (.int .i64 0)),some 5,none,[],[]⟩] []:=fun _ _ _=>rfl
theorem e_rLong9_2:EqR zqu [⟨.mv (.c (.int .i64 0)),some 6,none,[],[]⟩] []:=fun _ _ _=>rfl
theorem e_rLong9_3:EqR zqt zbr []:=fun _ _ _=>rfl
theorem e_rLong9_4 (C:FuncId->List AV->AV->Prop) (σ:St) (K:St->Prop):z0m C zqs σ K = z07 C [] [⟨.bin .add (.t 18) (.t 32),some 33,none,[],[]⟩,⟨.mv (.t 33),some 5,none,[],[]⟩] zdl (σ.kills []) K:=rfl
theorem e_rLong9_5:EqR zqr zbq []:=fun _ _ _=>rfl
theorem e_rLong9_7:EqR zqq zbp []:=fun _ _ _=>rfl
theorem fn_rLong9 {args:List AV} {r:AV} (ha:args.length.ble Tryd.f18.ntmps = true) (h:run (AFn Tryd.prog) y1a (endQ znv r) (z0a args)):AFn Tryd.prog 18 args r :=
 AFn.of_code (pv:=false) (hint:=fun _=>[]) (c:=Tryd.f18.body.getD .skip) (by kernel_rfl) (by kernel_rfl) Tryd.func18 (by kernel_rfl) (by kernel_rfl) (by kernel_rfl) (of_decide_eq_true (by kernel_rfl)) (Nat.le_of_ble_eq_true ha) (Nat.le_of_ble_eq_true (by kernel_rfl)) (z0b h)
def zza:Reg:=⟨[],[⟨.mv (.c (.bool false)),some 4,none,[],[]⟩],[],[],false⟩
def zz9:Reg:=⟨[],[⟨.mv (.c (.int .i64 0)),some 5,none,[],[]⟩],[],[],false⟩
def zz8:Reg:=⟨[],[⟨.mv (.c (.int .i64 0)),some 6,none,[],[]⟩],[],[],false⟩
def zh6:List ROp:=[⟨.mv (.t 6),some 7,none,[],[]⟩,⟨.mv (.t 0),some 8,none,[],[]⟩,⟨.len false (.t 8),some 9,none,[],[]⟩,⟨.bin .lss (.t 7) (.t 9),some 10,none,[],[]⟩,⟨.mv (.t 10),some 11,none,[],[]⟩,⟨.mv (.t 5),some 12,(some (11,true)),[],[]⟩,⟨.mv (.t 1),some 13,(some (11,true)),[],[]⟩,⟨.bin .leq (.t 12) (.t 13),some 14,(some (11,true)),[],[]⟩,⟨.pick (.t 11) (.t 14) (.c (.bool false)),some 15,none,[],[]⟩]
def zz7:Reg:=⟨[],zh6,[],[],false⟩
def zm7:List ROp:=[⟨.mv (.t 5),some 18,none,[],[]⟩,⟨.mv (.t 0),some 19,none,[],[]⟩,⟨.mv (.t 6),some 20,none,[],[]⟩,⟨.iaddr 6 (.t 19) (.t 20),some 21,none,[],[]⟩,⟨.faddr 2 (.t 21),some 22,none,[],[]⟩,⟨.load 1 false (.t 22),some 23,none,[],[]⟩,⟨.len true (.t 23),some 24,none,[],[]⟩,⟨.bin .add (.c (.int .i64 1)) (.t 24),some 25,none,[],[]⟩,⟨.mv (.t 0),some 26,none,[],[]⟩,⟨.mv (.t 6),some 27,none,[],[]⟩,⟨.iaddr 6 (.t 26) (.t 27),some 28,none,[],[]⟩,⟨.faddr 3 (.t 28),some 29,none,[],[]⟩,⟨.load 1 false (.t 29),some 30,none,[],[]⟩,⟨.len true (.t 30),some 31,none,[],[]⟩,⟨.bin .add (.t 25) (.t 31),some 32,none,[],[]⟩,⟨.mv (.t 0),some 33,none,[],[]⟩,⟨.mv (.t 6),some 34,none,[],[]⟩,⟨.iaddr 6 (.t 33) (.t 34),some 35,none,[],[]⟩,⟨.faddr 5 (.t 35),some 36,none,[],[]⟩,⟨.load 1 false (.t 36),some 37,none,[],[]⟩,⟨.len true (.t 37),some 38,none,[],[]⟩,⟨.bin .add (.t 32) (.t 38),some 39,none,[],[]⟩]
def zz6:Reg:=⟨zm7,[⟨.bin .add (.t 18) (.t 39),some 40,none,[],[]⟩,⟨.mv (.t 40),some 5,none,[],[]⟩],[],[],true⟩
def zh5:List ROp:=[⟨.mv (.t 6),some 16,none,[],[]⟩,⟨.bin .add (.t 16) (.c (.int .i64 1)),some 17,none,[],[]⟩,⟨.mv (.t 17),some 6,none,[],[]⟩]
def zz5:Reg:=⟨[],zh5,[],[],false⟩
def zr5:IR:=(.seq (.seq (.reg zz7)
 (.cond (.t 15) .skip
 (.exit 0)))
 (.seq (.block 1 (.reg zz6))
 (.reg zz5)))
def zh4:List ROp:=[⟨.mv (.t 5),some 41,none,[],[]⟩,⟨.mv (.t 1),some 42,none,[],[]⟩,⟨.bin .leq (.t 41) (.t 42),some 43,none,[],[]⟩,⟨.mv (.t 43),some 4,none,[],[]⟩]
def zz4:Reg:=⟨[],zh4,[],[],false⟩
def y8p:IR:=(.seq (.reg zza)
 (.seq (.reg zz9)
 (.seq (.seq (.reg zz8)
 (.block 0 (.loop zr5)))
 (.seq (.reg zz4)
 .ret))))
def zwk:List RDesc:=[(.tmp 4)]
theorem e_rFewN_0:EqR zza [⟨.mv (.c (.bool false)),some 4,none,[],[]⟩] []:=fun _ _ _=>rfl
theorem e_rFewN_1:EqR zz9 [⟨.mv (.c (.int .i64 0)),some 5,none,[],[]⟩] []:=fun _ _ _=>rfl
theorem e_rFewN_2:EqR zz8 [⟨.mv (.c (.int .i64 0)),some 6,none,[],[]⟩] []:=fun _ _ _=>rfl
theorem e_rFewN_3:EqR zz7 zh6 []:=fun _ _ _=>rfl
theorem e_rFewN_4 (C:FuncId->List AV->AV->Prop) (σ:St) (K:St->Prop):z0m C zz6 σ K = z07 C [] [⟨.bin .add (.t 18) (.t 39),some 40,none,[],[]⟩,⟨.mv (.t 40),some 5,none,[],[]⟩] zm7 (σ.kills []) K:=rfl
theorem e_rFewN_5:EqR zz5 zh5 []:=fun _ _ _=>rfl
theorem e_rFewN_7:EqR zz4 zh4 []:=fun _ _ _=>rfl
theorem fn_rFewN {args:List AV} {r:AV} (ha:args.length.ble Tryd.f20.ntmps = true) (h:run (AFn Tryd.prog) y8p (endQ zwk r) (z0a args)):AFn Tryd.prog 20 args r :=
 AFn.of_code (pv:=false) (hint:=fun _=>[]) (c:=Tryd.f20.body.getD .skip) (by kernel_rfl) (by kernel_rfl) Tryd.func20 (by kernel_rfl) (by kernel_rfl) (by kernel_rfl) (of_decide_eq_true (by kernel_rfl)) (Nat.le_of_ble_eq_true ha) (Nat.le_of_ble_eq_true (by kernel_rfl)) (z0b h)
def zr3:Reg:=⟨[],[⟨.mv (.c (.int .i64 0)),some 4,none,[],[]⟩],[],[],false⟩
def zr2:Reg:=⟨[],[⟨.mv (.c (.int .i64 0)),some 5,none,[],[]⟩],[],[],false⟩
def zr1:Reg:=⟨[],[⟨.mv (.c (.int .i64 0)),some 6,none,[],[]⟩],[],[],false⟩
def zbu:List ROp:=[⟨.mv (.t 6),some 7,none,[],[]⟩,⟨.mv (.t 0),some 8,none,[],[]⟩,⟨.len false (.t 8),some 9,none,[],[]⟩,⟨.bin .lss (.t 7) (.t 9),some 10,none,[],[]⟩,⟨.mv (.t 10),some 11,none,[],[]⟩,⟨.mv (.t 5),some 12,(some (11,true)),[],[]⟩,⟨.mv (.t 1),some 13,(some (11,true)),[],[]⟩,⟨.bin .leq (.t 12) (.t 13),some 14,(some (11,true)),[],[]⟩,⟨.pick (.t 11) (.t 14) (.c (.bool false)),some 15,none,[],[]⟩]
def zr0:Reg:=⟨[],zbu,[],[],false⟩
def zbt:List ROp:=[⟨.mv (.t 5),some 18,none,[],[]⟩,⟨.mv (.t 0),some 19,none,[],[]⟩,⟨.mv (.t 6),some 20,none,[],[]⟩,⟨.iaddr 1 (.t 19) (.t 20),some 21,none,[],[]⟩,⟨.load 1 false (.t 21),some 22,none,[],[]⟩,⟨.len true (.t 22),some 23,none,[],[]⟩,⟨.bin .add (.t 23) (.c (.int .i64 1)),some 24,none,[],[]⟩,⟨.bin .add (.t 18) (.t 24),some 25,none,[],[]⟩,⟨.mv (.t 25),some 5,none,[],[]⟩]
def zqz:Reg:=⟨[],zbt,[],[],false⟩
def zbs:List ROp:=[⟨.mv (.t 6),some 16,none,[],[]⟩,⟨.bin .add (.t 16) (.c (.int .i64 1)),some 17,none,[],[]⟩,⟨.mv (.t 17),some 6,none,[],[]⟩]
def zqy:Reg:=⟨[],zbs,[],[],false⟩
def zk6:IR:=(.seq (.seq (.reg zr0)
 (.cond (.t 15) .skip
 (.exit 0)))
 (.seq (.block 1 (.reg zqz))
 (.reg zqy)))
def zqx:Reg:=⟨[],[⟨.mv (.t 5),some 26,none,[],[]⟩,⟨.mv (.t 26),some 4,none,[],[]⟩],[],[],false⟩
def y1b:IR:=(.seq (.reg zr3)
 (.seq (.reg zr2)
 (.seq (.seq (.reg zr1)
 (.block 0 (.loop zk6)))
 (.seq (.reg zqx)
 .ret))))
def znw:List RDesc:=[(.tmp 4)]
theorem e_rLong1_0:EqR zr3 [⟨.mv (.c (.int .i64 0)),some 4,none,[],[]⟩] []:=fun _ _ _=>rfl
theorem e_rLong1_1:EqR zr2 [⟨.mv (.c (.int .i64 0)),some 5,none,[],[]⟩] []:=fun _ _ _=>rfl
theorem e_rLong1_2:EqR zr1 [⟨.mv (.c (.int .i64 0)),some 6,none,[],[]⟩] []:=fun _ _ _=>rfl
theorem e_rLong1_3:EqR zr0 zbu []:=fun _ _ _=>rfl
theorem e_rLong1_4:EqR zqz zbt []:=fun _ _ _=>rfl
theorem e_rLong1_5:EqR zqy zbs []:=fun _ _ _=>rfl
theorem e_rLong1_7:EqR zqx [⟨.mv (.t 5),some 26,none,[],[]⟩,⟨.mv (.t 26),some 4,none,[],[]⟩] []:=fun _ _ _=>rfl
theorem fn_rLong1 {args:List AV} {r:AV} (ha:args.length.ble Tryd.f19.ntmps = true) (h:run (AFn Tryd.prog) y1b (endQ znw r) (z0a args)):AFn Tryd.prog 19 args r :=
 AFn.of_code (pv:=false) (hint:=fun _=>[]) (c:=Tryd.f19.body.getD .skip) (by kernel_rfl) (by kernel_rfl) Tryd.func19 (by kernel_rfl) (by kernel_rfl) (by kernel_rfl) (of_decide_eq_true (by kernel_rfl)) (Nat.le_of_ble_eq_true ha) (Nat.le_of_ble_eq_true (by kernel_rfl)) (z0b h)
attribute [local go_sem ↓] y1a
attribute [local go_sem] znv e_rLong9_0 e_rLong9_1 e_rLong9_2 e_rLong9_3 zbr e_rLong9_4 zdl e_rLong9_5 zbq e_rLong9_7 zbp
attribute [local go_sem ↓] y8p
attribute [local go_sem] zwk e_rFewN_0 e_rFewN_1 e_rFewN_2 e_rFewN_3 zh6 e_rFewN_4 zm7 e_rFewN_5 zh5 e_rFewN_7 zh4
attribute [local go_sem ↓] y1b
attribute [local go_sem] znw e_rLong1_0 e_rLong1_1 e_rLong1_2 e_rLong1_3 zbu e_rLong1_4 zbt e_rLong1_5 zbs e_rLong1_7
theorem rLong9_ok (l:List Par) (most:Int) (h1:0≤most) (h2:most≤1000000) (hs:∀ m,m ∈ l->m.key.size≤281474976710656∧m.val.size≤281474976710656) (hl:l.length≤281474976710656) :
  AFn Tryd.prog 18 [.sl (l.map Par.a),.int .i64 most] (.bool (decide ((sumN Par.bulk l:Int)≤most))):=by
 refine fn_rLong9 rfl ?_
 simp (maxSteps:=9^7) only [go_sem,↓reduceIte,reduceCtorEq,Nat.reduceEqDiff,Nat.reduceBEq,Nat.reduceAdd,Nat.reduceSub,Nat.reduceMul,Nat.reduceLT,Nat.reduceLeDiff,Nat.reduceBNe,Int.reduceBEq,Int.reduceBNe,Int.reduceLT,Int.reduceLE,Msg.a,Par.a,Nd.a]
 refine z08 (longInv (l.map Par.a) most (fun j=>sumN Par.bulk (l.drop j)) (decide ((sumN Par.bulk l:Int)≤most))) (k:=(l.map Par.a).length) ⟨0,0,by omega,rfl,rfl,rfl,rfl,rfl,by omega,?_⟩ ?_
 ·simp
 rintro k σ ⟨j,n,hj,rfl,t0,t1,t5,t6,hn2,hr⟩
 rw [List.length_map] at hj
 simp only [zk5]
 by_cases hlt:j < l.length
 ·have hlt':(j:Int) < (l.length:Int):=by omega
  by_cases hm:(n:Int)≤most
  ·obtain ⟨x,hx⟩:=z0f hlt
   have hgj:=z0j (f:=Par.a) hx
   simp only [Par.a] at hgj
   have hw:=z1j (j:=j) (by omega)
   obtain ⟨s1,s3⟩:=hs x (List.mem_of_getElem? hx)
   have w1:IntKind.i64.wrap (1 + (x.key.size:Int)) = 1 + (x.key.size:Int):=IntWalk.i64_in _ (by omega)
   have w3:IntKind.i64.wrap (1 + (x.key.size:Int) + (x.val.size:Int)) = 1 + (x.key.size:Int) + (x.val.size:Int):=IntWalk.i64_in _ (by omega)
   have w4:IntKind.i64.wrap ((n:Int) + (1 + (x.key.size:Int) + (x.val.size:Int))) = ((n + x.bulk:Nat):Int):=by
    rw [IntWalk.i64_in _ (by omega)]; unfold Par.bulk; omega
   simp only [sumN_at hx] at hr
   simp (maxSteps:=9^7) only [go_sem,↓reduceIte,reduceCtorEq,Nat.reduceEqDiff,Nat.reduceBEq,Nat.reduceAdd,Nat.reduceSub,Nat.reduceMul,Nat.reduceLT,Nat.reduceLeDiff,Nat.reduceBNe,Int.reduceBEq,Int.reduceBNe,Int.reduceLT,Int.reduceLE,Msg.a,Par.a,Nd.a,t0,t1,t5,t6,hlt',hm,hgj,List.length_map,Int.toNat_natCast,w1,w3,w4,hw]
   (repeat refine And.intro (by omega) ?_)
   refine ⟨l.length - (j + 1),by omega,j + 1,n + x.bulk,by rw [List.length_map]; omega,by rw [List.length_map],?_,?_,?_,?_,by unfold Par.bulk; omega,?_⟩
   iterate 4 focus ((simp (maxSteps:=9^7) only [go_sem,↓reduceIte,reduceCtorEq,Nat.reduceEqDiff,Nat.reduceBEq,Nat.reduceAdd,Nat.reduceSub,Nat.reduceMul,Nat.reduceLT,Nat.reduceLeDiff,Nat.reduceBNe,Int.reduceBEq,Int.reduceBNe,Int.reduceLT,Int.reduceLE,Msg.a,Par.a,Nd.a,t0,t1,t5,t6]) <;> rfl)
   ·rw [← hr,Nat.add_assoc]
  ·simp (maxSteps:=9^7) only [go_sem,↓reduceIte,reduceCtorEq,Nat.reduceEqDiff,Nat.reduceBEq,Nat.reduceAdd,Nat.reduceSub,Nat.reduceMul,Nat.reduceLT,Nat.reduceLeDiff,Nat.reduceBNe,Int.reduceBEq,Int.reduceBNe,Int.reduceLT,Int.reduceLE,Msg.a,Par.a,Nd.a,t0,t1,t5,t6,hlt',hm,List.length_map]
   have:¬ ((n + sumN Par.bulk (l.drop j):Nat):Int)≤most:=by omega
   simp only [decide_eq_false this] at hr
   exact of_decide_eq_false hr.symm
 ·have hlt':¬ (j:Int) < (l.length:Int):=by omega
  simp (maxSteps:=9^7) only [go_sem,↓reduceIte,reduceCtorEq,Nat.reduceEqDiff,Nat.reduceBEq,Nat.reduceAdd,Nat.reduceSub,Nat.reduceMul,Nat.reduceLT,Nat.reduceLeDiff,Nat.reduceBNe,Int.reduceBEq,Int.reduceBNe,Int.reduceLT,Int.reduceLE,Msg.a,Par.a,Nd.a,t0,t1,t5,t6,hlt',List.length_map]
  rw [← hr]
  show decide (((n + sumN Par.bulk (l.drop j):Nat):Int)≤most) = _
  rw [List.drop_eq_nil_of_le (by omega)]
  exact decide_eq_decide.2 Iff.rfl
theorem rFewN_ok (l:List Msg) (most:Int) (h1:0≤most) (h2:most≤1000000) (hs:∀ m,m ∈ l->m.key.size≤281474976710656∧m.hi.size≤281474976710656∧m.val.size≤281474976710656) (hl:l.length≤281474976710656) :
  AFn Tryd.prog 20 [.sl (l.map Msg.a),.int .i64 most] (.bool (decide ((sumN Msg.bulkN l:Int)≤most))):=by
 refine fn_rFewN rfl ?_
 simp (maxSteps:=9^7) only [go_sem,↓reduceIte,reduceCtorEq,Nat.reduceEqDiff,Nat.reduceBEq,Nat.reduceAdd,Nat.reduceSub,Nat.reduceMul,Nat.reduceLT,Nat.reduceLeDiff,Nat.reduceBNe,Int.reduceBEq,Int.reduceBNe,Int.reduceLT,Int.reduceLE,Msg.a,Par.a,Nd.a]
 refine z08 (longInv (l.map Msg.a) most (fun j=>sumN Msg.bulkN (l.drop j)) (decide ((sumN Msg.bulkN l:Int)≤most))) (k:=(l.map Msg.a).length) ⟨0,0,by omega,rfl,rfl,rfl,rfl,rfl,by omega,?_⟩ ?_
 ·simp
 rintro k σ ⟨j,n,hj,rfl,t0,t1,t5,t6,hn2,hr⟩
 rw [List.length_map] at hj
 simp only [zr5]
 by_cases hlt:j < l.length
 ·have hlt':(j:Int) < (l.length:Int):=by omega
  by_cases hm:(n:Int)≤most
  ·obtain ⟨x,hx⟩:=z0f hlt
   have hgj:=z0j (f:=Msg.a) hx
   simp only [Msg.a] at hgj
   have hw:=z1j (j:=j) (by omega)
   obtain ⟨s1,s2,s3⟩:=hs x (List.mem_of_getElem? hx)
   have w1:IntKind.i64.wrap (1 + (x.key.size:Int)) = 1 + (x.key.size:Int):=IntWalk.i64_in _ (by omega)
   have w2:IntKind.i64.wrap (1 + (x.key.size:Int) + (x.hi.size:Int)) = 1 + (x.key.size:Int) + (x.hi.size:Int):=IntWalk.i64_in _ (by omega)
   have w3:IntKind.i64.wrap (1 + (x.key.size:Int) + (x.hi.size:Int) + (x.val.size:Int)) = 1 + (x.key.size:Int) + (x.hi.size:Int) + (x.val.size:Int):=IntWalk.i64_in _ (by omega)
   have w4:IntKind.i64.wrap ((n:Int) + (1 + (x.key.size:Int) + (x.hi.size:Int) + (x.val.size:Int))) = ((n + x.bulkN:Nat):Int):=by
    rw [IntWalk.i64_in _ (by omega)]; unfold Msg.bulkN; omega
   simp only [sumN_at hx] at hr
   simp (maxSteps:=9^7) only [go_sem,↓reduceIte,reduceCtorEq,Nat.reduceEqDiff,Nat.reduceBEq,Nat.reduceAdd,Nat.reduceSub,Nat.reduceMul,Nat.reduceLT,Nat.reduceLeDiff,Nat.reduceBNe,Int.reduceBEq,Int.reduceBNe,Int.reduceLT,Int.reduceLE,Msg.a,Par.a,Nd.a,t0,t1,t5,t6,hlt',hm,hgj,List.length_map,Int.toNat_natCast,w1,w2,w3,w4,hw]
   (repeat refine And.intro (by omega) ?_)
   refine ⟨l.length - (j + 1),by omega,j + 1,n + x.bulkN,by rw [List.length_map]; omega,by rw [List.length_map],?_,?_,?_,?_,by unfold Msg.bulkN; omega,?_⟩
   iterate 4 focus ((simp (maxSteps:=9^7) only [go_sem,↓reduceIte,reduceCtorEq,Nat.reduceEqDiff,Nat.reduceBEq,Nat.reduceAdd,Nat.reduceSub,Nat.reduceMul,Nat.reduceLT,Nat.reduceLeDiff,Nat.reduceBNe,Int.reduceBEq,Int.reduceBNe,Int.reduceLT,Int.reduceLE,Msg.a,Par.a,Nd.a,t0,t1,t5,t6]) <;> rfl)
   ·rw [← hr,Nat.add_assoc]
  ·simp (maxSteps:=9^7) only [go_sem,↓reduceIte,reduceCtorEq,Nat.reduceEqDiff,Nat.reduceBEq,Nat.reduceAdd,Nat.reduceSub,Nat.reduceMul,Nat.reduceLT,Nat.reduceLeDiff,Nat.reduceBNe,Int.reduceBEq,Int.reduceBNe,Int.reduceLT,Int.reduceLE,Msg.a,Par.a,Nd.a,t0,t1,t5,t6,hlt',hm,List.length_map]
   have:¬ ((n + sumN Msg.bulkN (l.drop j):Nat):Int)≤most:=by omega
   simp only [decide_eq_false this] at hr
   exact of_decide_eq_false hr.symm
 ·have hlt':¬ (j:Int) < (l.length:Int):=by omega
  simp (maxSteps:=9^7) only [go_sem,↓reduceIte,reduceCtorEq,Nat.reduceEqDiff,Nat.reduceBEq,Nat.reduceAdd,Nat.reduceSub,Nat.reduceMul,Nat.reduceLT,Nat.reduceLeDiff,Nat.reduceBNe,Int.reduceBEq,Int.reduceBNe,Int.reduceLT,Int.reduceLE,Msg.a,Par.a,Nd.a,t0,t1,t5,t6,hlt',List.length_map]
  rw [← hr]
  show decide (((n + sumN Msg.bulkN (l.drop j):Nat):Int)≤most) = _
  rw [List.drop_eq_nil_of_le (by omega)]
  exact decide_eq_decide.2 Iff.rfl
def sGo (most:Int):Nat->List ByteArray->Nat
 | n,[]=>n
 | n,x :: l=>if (n:Int)≤most then sGo most (n + z2s x) l else n
theorem sGo_iff (most:Int):∀ (l:List ByteArray) (n:Nat),decide (most < (sGo most n l:Int)) = !decide (((n + sumN z2s l:Nat):Int)≤most)
 | [],n=>by
  show decide (most < (n:Int)) = !decide (((n + 0:Nat):Int)≤most)
  by_cases h:(n:Int)≤most
  ·rw [decide_eq_false (by omega),decide_eq_true (by omega)]; rfl
  ·rw [decide_eq_true (by omega),decide_eq_false (by omega)]; rfl
 | x :: l,n=>by
  rw [sGo]
  by_cases h:(n:Int)≤most
  ·rw [if_pos h,sGo_iff most l (n + z2s x),Nat.add_assoc]; rfl
  ·rw [if_neg h,decide_eq_true (by omega),decide_eq_false (by omega)]; rfl
def long1Inv (l:List ByteArray) (most:Int) (r:Nat) (k:Nat) (σ:St):Prop :=
 ∃ (j n:Nat),j≤l.length∧k = l.length - j∧σ.T 0 = .sl (l.map .str)∧σ.T 1 = .int .i64 most∧σ.T 5 = .int .i64 n∧σ.T 6 = .int .i64 j∧n≤900000000000000∧sGo most n (l.drop j) = r
theorem rLong1_ok (l:List ByteArray) (most:Int) (h1:0≤most) (h2:most≤1000000) (hs:∀ m,m ∈ l->m.size≤281474976710656) (hl:l.length≤281474976710656) :
  AFn Tryd.prog 19 [.sl (l.map .str),.int .i64 most] (.int .i64 (sGo most 0 l:Int)):=by
 refine fn_rLong1 rfl ?_
 simp (maxSteps:=9^7) only [go_sem,↓reduceIte,reduceCtorEq,Nat.reduceEqDiff,Nat.reduceBEq,Nat.reduceAdd,Nat.reduceSub,Nat.reduceMul,Nat.reduceLT,Nat.reduceLeDiff,Nat.reduceBNe,Int.reduceBEq,Int.reduceBNe,Int.reduceLT,Int.reduceLE,Msg.a,Par.a,Nd.a]
 refine z08 (long1Inv l most (sGo most 0 l)) (k:=l.length) ⟨0,0,by omega,rfl,rfl,rfl,rfl,rfl,by omega,?_⟩ ?_
 ·rfl
 rintro k σ ⟨j,n,hj,rfl,t0,t1,t5,t6,hn2,hr⟩
 simp only [zk6]
 by_cases hlt:j < l.length
 ·have hlt':(j:Int) < (l.length:Int):=by omega
  obtain ⟨x,hx⟩:=z0f hlt
  rw [z0c hx,sGo] at hr
  by_cases hm:(n:Int)≤most
  ·have hgj:=z0j (f:=AV.str) hx
   have hw:=z1j (j:=j) (by omega)
   have s1:=hs x (List.mem_of_getElem? hx)
   have w1:IntKind.i64.wrap ((x.size:Int) + 1) = (x.size:Int) + 1:=IntWalk.i64_in _ (by omega)
   have w4:IntKind.i64.wrap ((n:Int) + ((x.size:Int) + 1)) = ((n + z2s x:Nat):Int):=by
    rw [IntWalk.i64_in _ (by omega)]; unfold z2s; omega
   rw [if_pos hm] at hr
   simp (maxSteps:=9^7) only [go_sem,↓reduceIte,reduceCtorEq,Nat.reduceEqDiff,Nat.reduceBEq,Nat.reduceAdd,Nat.reduceSub,Nat.reduceMul,Nat.reduceLT,Nat.reduceLeDiff,Nat.reduceBNe,Int.reduceBEq,Int.reduceBNe,Int.reduceLT,Int.reduceLE,Msg.a,Par.a,Nd.a,t0,t1,t5,t6,hlt',hm,hgj,List.length_map,Int.toNat_natCast,w1,w4,hw]
   (repeat refine And.intro (by omega) ?_)
   refine ⟨l.length - (j + 1),by omega,j + 1,n + z2s x,by omega,rfl,?_,?_,?_,?_,by unfold z2s; omega,hr⟩ <;> (simp (maxSteps:=9^7) only [go_sem,↓reduceIte,reduceCtorEq,Nat.reduceEqDiff,Nat.reduceBEq,Nat.reduceAdd,Nat.reduceSub,Nat.reduceMul,Nat.reduceLT,Nat.reduceLeDiff,Nat.reduceBNe,Int.reduceBEq,Int.reduceBNe,Int.reduceLT,Int.reduceLE,Msg.a,Par.a,Nd.a,t0,t1,t5,t6])
  ·rw [if_neg hm] at hr
   simp (maxSteps:=9^7) only [go_sem,↓reduceIte,reduceCtorEq,Nat.reduceEqDiff,Nat.reduceBEq,Nat.reduceAdd,Nat.reduceSub,Nat.reduceMul,Nat.reduceLT,Nat.reduceLeDiff,Nat.reduceBNe,Int.reduceBEq,Int.reduceBNe,Int.reduceLT,Int.reduceLE,Msg.a,Par.a,Nd.a,t0,t1,t5,t6,hlt',hm,List.length_map,← hr]
 ·have hlt':¬ (j:Int) < (l.length:Int):=by omega
  rw [List.drop_eq_nil_of_le (by omega),sGo] at hr
  simp (maxSteps:=9^7) only [go_sem,↓reduceIte,reduceCtorEq,Nat.reduceEqDiff,Nat.reduceBEq,Nat.reduceAdd,Nat.reduceSub,Nat.reduceMul,Nat.reduceLT,Nat.reduceLeDiff,Nat.reduceBNe,Int.reduceBEq,Int.reduceBNe,Int.reduceLT,Int.reduceLE,Msg.a,Par.a,Nd.a,t0,t1,t5,t6,hlt',List.length_map,← hr]
def Nd.light (most:Int) (x:Nd):Bool:=decide ((sumN Par.bulk x.rows:Int)≤most) && decide ((sumN z2s x.pivots:Int)≤most) && decide ((x.kids.length:Int)≤most) && decide ((sumN Msg.bulkN x.msgs:Int)≤most) && decide ((x.high.size:Int)≤most)
def zlr (l:List Nd) (n most:Int):Bool:=decide ((l.length:Int)≤n) && l.all (Nd.light most)
def y09:Reg:=⟨[],[⟨.mv (.c (.bool false)),some 6,none,[],[]⟩],[],[],false⟩
def zhk:List ROp:=[⟨.mv (.t 0),some 8,none,[],[]⟩,⟨.len false (.t 8),some 9,none,[],[]⟩,⟨.mv (.t 1),some 10,none,[],[]⟩,⟨.bin .gtr (.t 9) (.t 10),some 11,none,[],[]⟩]
def y08:Reg:=⟨[],zhk,[],[],false⟩
def y07:Reg:=⟨[],[⟨.mv (.c (.bool false)),some 6,none,[],[]⟩],[],[],false⟩
def y06:Reg:=⟨[],[⟨.mv (.c (.int .i64 0)),some 7,none,[],[]⟩],[],[],false⟩
def zhj:List ROp:=[⟨.mv (.t 7),some 12,none,[],[]⟩,⟨.mv (.t 0),some 13,none,[],[]⟩,⟨.len false (.t 13),some 14,none,[],[]⟩,⟨.bin .lss (.t 12) (.t 14),some 15,none,[],[]⟩]
def y05:Reg:=⟨[],zhj,[],[],false⟩
def zhi:List ROp:=[⟨.mv (.t 0),some 18,none,[24,33,54],[]⟩,⟨.mv (.t 7),some 19,none,[24,33,54],[]⟩,⟨.iaddr 10 (.t 18) (.t 19),some 20,none,[24,33,54],[]⟩,⟨.faddr 9 (.t 20),some 21,none,[24,33,54],[]⟩,⟨.load 1 false (.t 21),some 22,none,[24,33,54],[]⟩,⟨.mv (.t 2),some 23,none,[24,33,54],[]⟩,⟨.callv (.c (.clo 18 [] [])) [(.t 22),(.t 23)],some 24,none,[33,54],[]⟩,⟨.un .not (.t 24),some 25,none,[33,54],[]⟩,⟨.mv (.t 25),some 26,none,[33,54],[]⟩,⟨.mv (.t 0),some 27,(some (26,false)),[33,54],[]⟩,⟨.mv (.t 7),some 28,(some (26,false)),[33,54],[]⟩,⟨.iaddr 10 (.t 27) (.t 28),some 29,(some (26,false)),[33,54],[]⟩,⟨.faddr 2 (.t 29),some 30,(some (26,false)),[33,54],[]⟩,⟨.load 1 false (.t 30),some 31,(some (26,false)),[33,54],[]⟩,⟨.mv (.t 2),some 32,(some (26,false)),[33,54],[]⟩,⟨.callv (.c (.clo 19 [] [])) [(.t 31),(.t 32)],some 33,(some (26,false)),[54],[]⟩,⟨.mv (.t 2),some 34,(some (26,false)),[54],[]⟩,⟨.bin .gtr (.t 33) (.t 34),some 35,(some (26,false)),[54],[]⟩,⟨.pick (.t 26) (.c (.bool true)) (.t 35),some 36,none,[54],[]⟩,⟨.mv (.t 36),some 37,none,[54],[]⟩,⟨.mv (.t 0),some 38,(some (37,false)),[54],[]⟩,⟨.mv (.t 7),some 39,(some (37,false)),[54],[]⟩,⟨.iaddr 10 (.t 38) (.t 39),some 40,(some (37,false)),[54],[]⟩,⟨.faddr 3 (.t 40),some 41,(some (37,false)),[54],[]⟩,⟨.load 1 false (.t 41),some 42,(some (37,false)),[54],[]⟩,⟨.len false (.t 42),some 43,(some (37,false)),[54],[]⟩,⟨.mv (.t 2),some 44,(some (37,false)),[54],[]⟩,⟨.bin .gtr (.t 43) (.t 44),some 45,(some (37,false)),[54],[]⟩,⟨.pick (.t 37) (.c (.bool true)) (.t 45),some 46,none,[54],[]⟩,⟨.mv (.t 46),some 47,none,[54],[]⟩,⟨.mv (.t 0),some 48,(some (47,false)),[54],[]⟩,⟨.mv (.t 7),some 49,(some (47,false)),[54],[]⟩,⟨.iaddr 10 (.t 48) (.t 49),some 50,(some (47,false)),[54],[]⟩,⟨.faddr 8 (.t 50),some 51,(some (47,false)),[54],[]⟩,⟨.load 1 false (.t 51),some 52,(some (47,false)),[54],[]⟩,⟨.mv (.t 2),some 53,(some (47,false)),[54],[]⟩,⟨.callv (.c (.clo 20 [] [])) [(.t 52),(.t 53)],some 54,(some (47,false)),[],[]⟩,⟨.un .not (.t 54),some 55,(some (47,false)),[],[]⟩,⟨.pick (.t 47) (.c (.bool true)) (.t 55),some 56,none,[],[]⟩,⟨.mv (.t 56),some 57,none,[],[]⟩,⟨.mv (.t 0),some 58,(some (57,false)),[],[]⟩,⟨.mv (.t 7),some 59,(some (57,false)),[],[]⟩,⟨.iaddr 10 (.t 58) (.t 59),some 60,(some (57,false)),[],[]⟩,⟨.faddr 4 (.t 60),some 61,(some (57,false)),[],[]⟩,⟨.load 1 false (.t 61),some 62,(some (57,false)),[],[]⟩,⟨.len true (.t 62),some 63,(some (57,false)),[],[]⟩,⟨.mv (.t 2),some 64,(some (57,false)),[],[]⟩,⟨.bin .gtr (.t 63) (.t 64),some 65,(some (57,false)),[],[]⟩,⟨.pick (.t 57) (.c (.bool true)) (.t 65),some 66,none,[],[]⟩]
def y04:Reg:=⟨[],zhi,[24,33,54],[],false⟩
def y03:Reg:=⟨[],[⟨.mv (.c (.bool false)),some 6,none,[],[]⟩],[],[],false⟩
def zhh:List ROp:=[⟨.mv (.t 7),some 16,none,[],[]⟩,⟨.bin .add (.t 16) (.c (.int .i64 1)),some 17,none,[],[]⟩,⟨.mv (.t 17),some 7,none,[],[]⟩]
def y02:Reg:=⟨[],zhh,[],[],false⟩
def zs6:IR:=(.seq (.seq (.reg y05)
 (.cond (.t 15) .skip
 (.exit 0)))
 (.seq (.block 1 (.seq (.reg y04)
 (.cond (.t 66) (.seq (.reg y03)
 .ret)
 .skip)))
 (.reg y02)))
def y01:Reg:=⟨[],[⟨.mv (.c (.bool true)),some 6,none,[],[]⟩],[],[],false⟩
def y8t:IR:=(.seq (.reg y09)
 (.seq (.seq (.reg y08)
 (.cond (.t 11) (.seq (.reg y07)
 .ret)
 .skip))
 (.seq (.seq (.reg y06)
 (.block 0 (.loop zs6)))
 (.seq (.reg y01)
 .ret))))
def zwo:List RDesc:=[(.tmp 6)]
theorem e_light_0:EqR y09 [⟨.mv (.c (.bool false)),some 6,none,[],[]⟩] []:=fun _ _ _=>rfl
theorem e_light_1:EqR y08 zhk []:=fun _ _ _=>rfl
theorem e_light_2:EqR y07 [⟨.mv (.c (.bool false)),some 6,none,[],[]⟩] []:=fun _ _ _=>rfl
theorem e_light_3:EqR y06 [⟨.mv (.c (.int .i64 0)),some 7,none,[],[]⟩] []:=fun _ _ _=>rfl
theorem e_light_4:EqR y05 zhj []:=fun _ _ _=>rfl
theorem e_light_5:EqR y04 zhi [24,33,54]:=fun _ _ _=>rfl
theorem e_light_6:EqR y03 [⟨.mv (.c (.bool false)),some 6,none,[],[]⟩] []:=fun _ _ _=>rfl
theorem e_light_7:EqR y02 zhh []:=fun _ _ _=>rfl
theorem e_light_9:EqR y01 [⟨.mv (.c (.bool true)),some 6,none,[],[]⟩] []:=fun _ _ _=>rfl
theorem fn_light {args:List AV} {r:AV} (ha:args.length.ble Tryd.f5.ntmps = true) (h:run (AFn Tryd.prog) y8t (endQ zwo r) (z0a args)):AFn Tryd.prog 5 args r :=
 AFn.of_code (pv:=false) (hint:=fun _=>[]) (c:=Tryd.f5.body.getD .skip) (by kernel_rfl) (by kernel_rfl) Tryd.func5 (by kernel_rfl) (by kernel_rfl) (by kernel_rfl) (of_decide_eq_true (by kernel_rfl)) (Nat.le_of_ble_eq_true ha) (Nat.le_of_ble_eq_true (by kernel_rfl)) (z0b h)
attribute [local go_sem ↓] y8t
attribute [local go_sem] zwo e_light_0 e_light_1 zhk e_light_2 e_light_3 e_light_4 zhj e_light_5 zhi e_light_6 e_light_7 zhh e_light_9
def lightInv (l:List Nd) (n most:Int) (r:Bool) (k:Nat) (σ:St):Prop :=
 ∃ j:Nat,j≤l.length∧k = l.length - j∧σ.T 0 = .sl (l.map Nd.a)∧σ.T 2 = .int .i64 most∧σ.T 7 = .int .i64 j∧(l.drop j).all (Nd.light most) = r
theorem light_ok (l:List Nd) (n most:Int) (h1:0≤most) (h2:most≤1000000) (hs:∀ x,x ∈ l->x.ok) (hl:l.length≤281474976710656) :
  AFn Tryd.prog 5 [.sl (l.map Nd.a),.int .i64 n,.int .i64 most] (.bool (zlr l n most)):=by
 refine fn_light rfl ?_
 unfold zlr
 by_cases hn:(l.length:Int)≤n
 case neg =>
  have hn':n < (l.length:Int):=by omega
  rw [decide_eq_false hn]
  simp (maxSteps:=9^7) only [go_sem,↓reduceIte,reduceCtorEq,Nat.reduceEqDiff,Nat.reduceBEq,Nat.reduceAdd,Nat.reduceSub,Nat.reduceMul,Nat.reduceLT,Nat.reduceLeDiff,Nat.reduceBNe,Int.reduceBEq,Int.reduceBNe,Int.reduceLT,Int.reduceLE,Msg.a,Par.a,Nd.a,hn',List.length_map,Bool.false_and]
 have hn':¬ n < (l.length:Int):=by omega
 rw [decide_eq_true hn]
 obtain ⟨R,hR⟩:∃ R,l.all (Nd.light most) = R:=⟨_,rfl⟩
 rw [hR]
 simp (maxSteps:=9^7) only [go_sem,↓reduceIte,reduceCtorEq,Nat.reduceEqDiff,Nat.reduceBEq,Nat.reduceAdd,Nat.reduceSub,Nat.reduceMul,Nat.reduceLT,Nat.reduceLeDiff,Nat.reduceBNe,Int.reduceBEq,Int.reduceBNe,Int.reduceLT,Int.reduceLE,Msg.a,Par.a,Nd.a,hn',List.length_map,Bool.true_and]
 refine z08 (lightInv l n most R) (k:=l.length) ⟨0,by omega,rfl,rfl,rfl,rfl,hR⟩ ?_
 clear hR
 rintro k σ ⟨j,hj,rfl,t0,t2,t7,hr⟩
 simp only [zs6]
 by_cases hlt:j < l.length
 ·have hlt':(j:Int) < (l.length:Int):=by omega
  obtain ⟨x,hx⟩:=z0f hlt
  have hgj:=z0j (f:=Nd.a) hx
  simp only [Nd.a] at hgj
  have hw:=z1j (j:=j) (by omega)
  have ok:=hs x (List.mem_of_getElem? hx)
  have c1:=rLong9_ok x.rows most h1 h2 (fun m hm=>⟨(ok.rows.2 m hm).key,(ok.rows.2 m hm).val⟩) ok.rows.1
  have c2:=rLong1_ok x.pivots most h1 h2 ok.pivots.2 ok.pivots.1
  have c3:=rFewN_ok x.msgs most h1 h2 (fun m hm=>⟨(ok.msgs.2 m hm).key,(ok.msgs.2 m hm).hi,(ok.msgs.2 m hm).val⟩) ok.msgs.1
  have e2:=sGo_iff most x.pivots 0
  rw [z0c hx,List.all_cons] at hr
  unfold Nd.light at hr
  rw [Nat.zero_add] at e2
  have z0:IntKind.i64.wrap (j:Int) = (j:Int):=IntWalk.i64_in _ (by omega)
  cases q1:decide ((sumN Par.bulk x.rows:Int)≤most) with
  | false =>
   rw [q1] at c1 hr
   simp only [Bool.false_and] at hr
   (repeat (first | simp (maxSteps:=9^7) only [go_sem,↓reduceIte,reduceCtorEq,Nat.reduceEqDiff,Nat.reduceBEq,Nat.reduceAdd,Nat.reduceSub,Nat.reduceMul,Nat.reduceLT,Nat.reduceLeDiff,Nat.reduceBNe,Int.reduceBEq,Int.reduceBNe,Int.reduceLT,Int.reduceLE,Msg.a,Par.a,Nd.a,t0,t2,t7,hlt',hgj,List.length_map,Int.toNat_natCast,← hr] | refine z01 (c1) ?_ | refine z00 (c1) ?_ | refine And.intro (by omega) ?_ | refine And.intro (fun d hd=>by (repeat (rcases hd with rfl | hd; · exact ⟨rfl,rfl⟩)); cases hd) ?_))
  | true =>
   rw [q1] at c1 hr
   cases q2:decide ((sumN z2s x.pivots:Int)≤most) with
   | false =>
    rw [q2] at e2 hr
    have e3:=of_decide_eq_true e2
    simp only [Bool.false_and,Bool.and_false] at hr
    (repeat (first | simp (maxSteps:=9^7) only [go_sem,↓reduceIte,reduceCtorEq,Nat.reduceEqDiff,Nat.reduceBEq,Nat.reduceAdd,Nat.reduceSub,Nat.reduceMul,Nat.reduceLT,Nat.reduceLeDiff,Nat.reduceBNe,Int.reduceBEq,Int.reduceBNe,Int.reduceLT,Int.reduceLE,Msg.a,Par.a,Nd.a,t0,t2,t7,hlt',hgj,List.length_map,Int.toNat_natCast,e3,← hr] | refine z01 (c1) ?_ | refine z00 (c1) ?_ | refine z01 (c2) ?_ | refine z00 (c2) ?_ | refine And.intro (by omega) ?_ | refine And.intro (fun d hd=>by (repeat (rcases hd with rfl | hd; · exact ⟨rfl,rfl⟩)); cases hd) ?_))
   | true =>
    rw [q2] at e2 hr
    have e3:=of_decide_eq_false e2
    by_cases q3:(x.kids.length:Int)≤most
    case neg =>
     rw [decide_eq_false q3] at hr
     have q3':most < (x.kids.length:Int):=by omega
     simp only [Bool.false_and,Bool.and_false] at hr
     (repeat (first | simp (maxSteps:=9^7) only [go_sem,↓reduceIte,reduceCtorEq,Nat.reduceEqDiff,Nat.reduceBEq,Nat.reduceAdd,Nat.reduceSub,Nat.reduceMul,Nat.reduceLT,Nat.reduceLeDiff,Nat.reduceBNe,Int.reduceBEq,Int.reduceBNe,Int.reduceLT,Int.reduceLE,Msg.a,Par.a,Nd.a,t0,t2,t7,hlt',hgj,List.length_map,Int.toNat_natCast,e3,q3',← hr] | refine z01 (c1) ?_ | refine z00 (c1) ?_ | refine z01 (c2) ?_ | refine z00 (c2) ?_ | refine And.intro (by omega) ?_ | refine And.intro (fun d hd=>by (repeat (rcases hd with rfl | hd; · exact ⟨rfl,rfl⟩)); cases hd) ?_))
     all_goals omega
    rw [decide_eq_true q3] at hr
    have q3':¬ most < (x.kids.length:Int):=by omega
    cases q4:decide ((sumN Msg.bulkN x.msgs:Int)≤most) with
    | false =>
     rw [q4] at c3 hr
     simp only [Bool.false_and,Bool.and_false] at hr
     (repeat (first | simp (maxSteps:=9^7) only [go_sem,↓reduceIte,reduceCtorEq,Nat.reduceEqDiff,Nat.reduceBEq,Nat.reduceAdd,Nat.reduceSub,Nat.reduceMul,Nat.reduceLT,Nat.reduceLeDiff,Nat.reduceBNe,Int.reduceBEq,Int.reduceBNe,Int.reduceLT,Int.reduceLE,Msg.a,Par.a,Nd.a,t0,t2,t7,hlt',hgj,List.length_map,Int.toNat_natCast,e3,q3',← hr] | refine z01 (c1) ?_ | refine z00 (c1) ?_ | refine z01 (c2) ?_ | refine z00 (c2) ?_ | refine z01 (c3) ?_ | refine z00 (c3) ?_ | refine And.intro (by omega) ?_ | refine And.intro (fun d hd=>by (repeat (rcases hd with rfl | hd; · exact ⟨rfl,rfl⟩)); cases hd) ?_))
    | true =>
     rw [q4] at c3 hr
     by_cases q5:(x.high.size:Int)≤most
     case neg =>
      rw [decide_eq_false q5] at hr
      have q5':most < (x.high.size:Int):=by omega
      simp only [Bool.false_and,Bool.and_false] at hr
      (repeat (first | simp (maxSteps:=9^7) only [go_sem,↓reduceIte,reduceCtorEq,Nat.reduceEqDiff,Nat.reduceBEq,Nat.reduceAdd,Nat.reduceSub,Nat.reduceMul,Nat.reduceLT,Nat.reduceLeDiff,Nat.reduceBNe,Int.reduceBEq,Int.reduceBNe,Int.reduceLT,Int.reduceLE,Msg.a,Par.a,Nd.a,t0,t2,t7,hlt',hgj,List.length_map,Int.toNat_natCast,e3,q3',q5',← hr] | refine z01 (c1) ?_ | refine z00 (c1) ?_ | refine z01 (c2) ?_ | refine z00 (c2) ?_ | refine z01 (c3) ?_ | refine z00 (c3) ?_ | refine And.intro (by omega) ?_ | refine And.intro (fun d hd=>by (repeat (rcases hd with rfl | hd; · exact ⟨rfl,rfl⟩)); cases hd) ?_))
      all_goals omega
     rw [decide_eq_true q5] at hr
     have q5':¬ most < (x.high.size:Int):=by omega
     simp only [Bool.true_and,Bool.and_true] at hr
     (repeat (first | simp (maxSteps:=9^7) only [go_sem,↓reduceIte,reduceCtorEq,Nat.reduceEqDiff,Nat.reduceBEq,Nat.reduceAdd,Nat.reduceSub,Nat.reduceMul,Nat.reduceLT,Nat.reduceLeDiff,Nat.reduceBNe,Int.reduceBEq,Int.reduceBNe,Int.reduceLT,Int.reduceLE,Msg.a,Par.a,Nd.a,t0,t2,t7,hlt',hgj,List.length_map,Int.toNat_natCast,e3,q3',q5',hw] | refine z01 (c1) ?_ | refine z00 (c1) ?_ | refine z01 (c2) ?_ | refine z00 (c2) ?_ | refine z01 (c3) ?_ | refine z00 (c3) ?_ | refine And.intro (by omega) ?_ | refine And.intro (fun d hd=>by (repeat (rcases hd with rfl | hd; · exact ⟨rfl,rfl⟩)); cases hd) ?_))
     refine ⟨l.length - (j + 1),by omega,j + 1,by omega,rfl,?_,?_,?_,hr⟩ <;> (simp (maxSteps:=9^7) only [go_sem,↓reduceIte,reduceCtorEq,Nat.reduceEqDiff,Nat.reduceBEq,Nat.reduceAdd,Nat.reduceSub,Nat.reduceMul,Nat.reduceLT,Nat.reduceLeDiff,Nat.reduceBNe,Int.reduceBEq,Int.reduceBNe,Int.reduceLT,Int.reduceLE,Msg.a,Par.a,Nd.a,t0,t2,t7,hw])
 ·have hlt':¬ (j:Int) < (l.length:Int):=by omega
  rw [List.drop_eq_nil_of_le (by omega)] at hr
  simp (maxSteps:=9^7) only [go_sem,↓reduceIte,reduceCtorEq,Nat.reduceEqDiff,Nat.reduceBEq,Nat.reduceAdd,Nat.reduceSub,Nat.reduceMul,Nat.reduceLT,Nat.reduceLeDiff,Nat.reduceBNe,Int.reduceBEq,Int.reduceBNe,Int.reduceLT,Int.reduceLE,Msg.a,Par.a,Nd.a,t0,t2,t7,hlt',List.length_map,← hr,List.all_nil]
end
section
open Go.RowKit
def onceP (l:List Msg):Prop:=∀ (i j:Nat) (m x:Msg),i < j->l[i]? = some m->l[j]? = some x->m.kind ≠ 4->(m.span.meet x.span).empty = true
end
section
open Go.RowKit
theorem maxS_comm (a b:ByteArray):maxS a b = maxS b a:=by
 unfold maxS
 cases h:lt a b <;> cases h2:lt b a
 ·have:=kp.less_total _ _ h h2
  rw [ByteArray.toList_eq,ByteArray.toList_eq] at this
  simp only [Bool.false_eq_true,if_false]
  cases a; cases b; congr 1; exact Array.ext' this
 ·simp
 ·simp
 ·rw [show lt b a = false from kp.less_asymm _ _ h] at h2; cases h2
theorem minS_comm (a b:ByteArray):minS a b = minS b a:=by
 unfold minS
 cases h:lt a b <;> cases h2:lt b a
 ·have:=kp.less_total _ _ h h2
  rw [ByteArray.toList_eq,ByteArray.toList_eq] at this
  simp only [Bool.false_eq_true,if_false]
  cases a; cases b; congr 1; exact Array.ext' this
 ·simp
 ·simp
 ·rw [show lt b a = false from kp.less_asymm _ _ h] at h2; cases h2
theorem y0q (a b:Spn):a.meet b = b.meet a:=by
 unfold Spn.meet Spn.cut
 rw [maxS_comm a.lo b.lo,minS_comm a.hi b.hi,Bool.and_comm a.op b.op]
 cases a.op <;> cases b.op <;> rfl
theorem zd6:∀ a b:List UInt8,Op.bytesLess a b = true->Op.bytesLess b (a ++ [0]) = false
 | _,[],h=>by rw [kp.less_nil] at h; cases h
 | [],y :: ys,_=>by
  simp only [List.nil_append,kp.less_cons,kp.less_nil,Bool.and_false,Bool.or_false,decide_eq_false_iff_not]
  simp [UInt8.lt_iff_toNat_lt]
 | x :: xs,y :: ys,h=>by
  simp only [kp.less_cons,Bool.or_eq_true,decide_eq_true_eq,Bool.and_eq_true,beq_iff_eq] at h
  simp only [List.cons_append,kp.less_cons,Bool.or_eq_false_iff,decide_eq_false_iff_not,Bool.and_eq_false_iff,beq_eq_false_iff_ne]
  rcases h with h | ⟨rfl,h⟩
  ·exact ⟨fun h'=>kp.u8_lt_irrefl _ (kp.u8_lt_trans h h'),.inl (fun e=>by subst e; exact kp.u8_lt_irrefl _ h)⟩
  ·exact ⟨kp.u8_lt_irrefl _,.inr (zd6 xs ys h)⟩
theorem zd5 (a:ByteArray):(a ++ (⟨#[0]⟩:ByteArray)).toList = a.toList ++ [0]:=by
 rw [ByteArray.toList_eq,ByteArray.toList_eq,ByteArray.data_append,Array.toList_append]
theorem z6s:Spn.none.empty = true:=by decide +kernel
theorem zl8 {a b:ByteArray} (h:(z2k a).touch (z2k b) = true):a = b:=by
 have key:∀ x y:ByteArray,lt x y = true->(z2k x).meet (z2k y) = Spn.none:=by
  intro x y hxy
  have h1:lt y (x ++ ⟨#[0]⟩) = false:=by
   unfold lt; rw [zd5]; exact zd6 _ _ hxy
  have h2:maxS x y = y:=by unfold maxS; rw [if_pos hxy]
  unfold Spn.meet Spn.norm
  have:((z2k x).cut (z2k y)).empty = true:=by
   unfold Spn.cut Spn.empty z2k
   simp only [h2,Bool.and_false,Bool.not_false,Bool.true_and,Bool.false_eq_true,if_false,Bool.not_eq_true']
   unfold minS
   split
   ·rename_i h3
    cases h4:lt y (y ++ ⟨#[0]⟩) with
    | false=>rfl
    | true =>
     have:=kp.less_trans _ _ _ h4 h3
     rw [show Op.bytesLess y.toList (x ++ ⟨#[0]⟩).toList = false from h1] at this; cases this
   ·exact h1
  rw [if_pos this]
 cases h1:lt a b with
 | true=>unfold Spn.touch at h; rw [key a b h1,z6s] at h; cases h
 | false =>
  cases h2:lt b a with
  | true=>unfold Spn.touch at h; rw [y0q,key b a h2,z6s] at h; cases h
  | false =>
   have:=kp.less_total _ _ h1 h2
   rw [ByteArray.toList_eq,ByteArray.toList_eq] at this
   cases a; cases b; congr 1; exact Array.ext' this
theorem z77 {p:Nat->Bool}:∀ {f j:Nat},z29 p f j = none->∀ k,j≤k->k < j + f->p k = false
 | 0,j,_,k,h1,h2=>by omega
 | f + 1,j,h,k,h1,h2=>by
  simp only [z29] at h
  by_cases hp:p j = true
  ·rw [if_pos hp] at h; cases h
  ·rw [if_neg hp] at h
   by_cases e:k = j
   ·subst e; simpa using hp
   ·exact z77 h k (by omega) (by omega)
theorem y3h {l:List Msg} {i:Nat} {m:Msg} (hm:l[i]? = some m) (h:z44 l i = none) {k:Nat} {x:Msg} (hk:i + 1≤k) (hx:l[k]? = some x):x.span.touch m.span = false:=by
 unfold z44 at h
 rw [hm] at h
 have hl:=(List.getElem?_eq_some_iff.1 hx).1
 have:=z77 h k hk (by omega)
 simpa [hx] using this
theorem z65 {l:List Msg} {i j:Nat} {m x:Msg} (hm:l[i]? = some m) (h:z44 l i = some j) (hx:l[j]? = some x):x.span.touch m.span = true:=by
 unfold z44 at h
 rw [hm] at h
 have:=(z4f h).2.2
 simpa [hx] using this
theorem on_kind (m:Msg) (k:ByteArray):(m.on k).kind ≠ 4:=by
 unfold Msg.on Eff.none
 split
 ·split
  ·rename_i h; simp only; omega
  ·split <;> simp
 ·simp
theorem thenC_kind {a b:Eff} (ha:a.kind ≠ 4) (hb:b.kind ≠ 4):(a.thenC b).kind ≠ 4:=by
 unfold Eff.thenC
 split
 ·exact ha
 ·split
  ·exact hb
  ·simp only; split <;> omega
theorem zlx {m x:Msg} (h1:m.kind ≠ 4) (h2:x.kind = 2) (ht:x.span.touch m.span = true):(z3a m x).2 = true∧(z3a m x).1.span = x.span∧(z3a m x).1.kind ≠ 4∧(z3a m x).1.hi = x.hi:=by
 have hx:x.span = z2k x.key:=by unfold Msg.span; rw [if_neg (by omega)]
 have hm:m.span = z2k m.key:=by unfold Msg.span; rw [if_neg h1]
 rw [hx,hm] at ht
 have hk:=zl8 ht
 have hj:z3a m x = ({ x with kind:=((m.on m.key).thenC (x.on x.key)).kind,val:=((m.on m.key).thenC (x.on x.key)).val },true):=by
  unfold z3a
  rw [if_neg (by omega),if_neg (by intro h; rcases h with h | h | h; exact h1 h; omega; exact h hk.symm)]
 rw [hj]
 have hne:=thenC_kind (on_kind m m.key) (on_kind x x.key)
 refine ⟨rfl,?_,hne,rfl⟩
 show Msg.span _ = _
 unfold Msg.span
 simp only
 rw [if_neg hne,if_neg (by omega)]
def Bd (m:Msg):Prop:=m.key.size≤281474976710656∧m.hi.size≤281474976710656∧m.val.size≤4611686018427387903
structure SQ (i:Nat) (rest out:List Msg):Prop where
 pair:onceP out
 ahead:∀ m,m ∈ out->m.kind ≠ 4->∀ k x,i≤k->rest[k]? = some x->x.span.touch m.span = false
 bdR:∀ m,m ∈ rest->Bd m
 bdO:∀ m,m ∈ out->Bd m
 len:out.length≤i
theorem SQ.skip {i:Nat} {rest out:List Msg} (h:SQ i rest out):SQ (i + 1) rest out:=⟨h.pair,fun m hm h4 k x hk hx=>h.ahead m hm h4 k x (by omega) hx,h.bdR,h.bdO,by have:=h.len; omega⟩
theorem SQ.add {i:Nat} {rest out:List Msg} (h:SQ i rest out) {m:Msg} (hm:rest[i]? = some m) (hn:m.kind ≠ 4->z44 rest i = none):SQ (i + 1) rest (out ++ [m]):=by
 refine ⟨fun p q a x hpq hp hq h4=>?_,fun a ha h4 k x hk hx=>?_,h.bdR,fun a ha=>?_,by rw [List.length_append]; have:=h.len; simp; omega⟩
 ·have hql:=(List.getElem?_eq_some_iff.1 hq).1
  rw [List.length_append] at hql
  simp at hql
  have hpl:p < out.length:=by omega
  rw [List.getElem?_append_left hpl] at hp
  rcases Nat.lt_or_ge q out.length with h1 | h1
  ·rw [List.getElem?_append_left h1] at hq
   exact h.pair p q a x hpq hp hq h4
  ·rw [List.getElem?_append_right h1] at hq
   have:q = out.length:=by omega
   subst this
   simp at hq
   subst hq
   have:=h.ahead a (List.mem_of_getElem? hp) h4 i m (Nat.le_refl _) hm
   unfold Spn.touch at this
   rw [y0q] at this
   simpa using this
 ·rcases List.mem_append.1 ha with ha | ha
  ·exact h.ahead a ha h4 k x (by omega) hx
  ·simp at ha; subst ha
   exact y3h hm (hn h4) hk hx
 ·rcases List.mem_append.1 ha with ha | ha
  ·exact h.bdO a ha
  ·simp at ha; subst ha
   exact h.bdR a (List.mem_of_getElem? hm)
end
section
open Go.RowKit
theorem lt_eq {a b:ByteArray} (h1:lt a b = false) (h2:lt b a = false):a = b:=by
 have:=kp.less_total _ _ h1 h2
 rw [ByteArray.toList_eq,ByteArray.toList_eq] at this
 cases a; cases b; congr 1; exact Array.ext' this
theorem lt_tr {a b c:ByteArray} (h1:lt a b = true) (h2:lt b c = true):lt a c = true:=kp.less_trans _ _ _ h1 h2
theorem lt_ir (a:ByteArray):lt a a = false:=kp.less_irrefl _
theorem le_lt {a b c:ByteArray} (h1:lt b a = false) (h2:lt b c = true):lt a c = true:=by
 cases h:lt a b with
 | true=>exact lt_tr h h2
 | false=>rw [lt_eq h h1]; exact h2
theorem lt_le {a b c:ByteArray} (h1:lt a b = true) (h2:lt c b = false):lt a c = true:=by
 cases h:lt b c with
 | true=>exact lt_tr h1 h
 | false=>rw [lt_eq h2 h]; exact h1
theorem lt_max (x a b:ByteArray):lt x (maxS a b) = (lt x a || lt x b):=by
 unfold maxS
 split
 ·rename_i h
  cases h1:lt x a with
  | false=>simp
  | true=>rw [lt_tr h1 h]; rfl
 ·rename_i h
  cases h1:lt x b with
  | false=>simp
  | true=>rw [lt_le h1 (by simpa using h)]; rfl
theorem lt_min (x a b:ByteArray):lt x (minS a b) = (lt x a && lt x b):=by
 unfold minS
 split
 ·rename_i h
  cases h1:lt x b with
  | false=>simp
  | true=>rw [lt_tr h1 h]; rfl
 ·rename_i h
  cases h1:lt x a with
  | false=>simp
  | true=>rw [lt_le h1 (by simpa using h)]; rfl
theorem y0w:∀ a:List UInt8,Op.bytesLess a (a ++ [0]) = true
 | []=>kp.nil_less _ _
 | x :: xs=>by
  simp only [List.cons_append,kp.less_cons,y0w xs]
  simp
theorem lt_next (k:ByteArray):lt k (k ++ ⟨#[0]⟩) = true:=by
 unfold lt; rw [zd5]; exact y0w _
theorem z3u (k x:ByteArray):(z2k k).has x = decide (x = k):=by
 unfold Spn.has z2k
 simp only [Bool.false_or]
 by_cases h:x = k
 ·subst h; simp [lt_ir,lt_next]
 ·rw [decide_eq_false h]
  cases h1:lt x k with
  | true=>rfl
  | false =>
   cases h2:lt k x with
   | false=>exact absurd (lt_eq h1 h2) h
   | true =>
    have:lt x (k ++ ⟨#[0]⟩) = false:=by unfold lt; rw [zd5]; exact zd6 _ _ h2
    simp [this]
theorem z6b {s:Spn} {x:ByteArray} (h:s.has x = true):s.empty = false:=by
 unfold Spn.has at h
 unfold Spn.empty
 simp only [Bool.and_eq_true,Bool.not_eq_true',Bool.or_eq_true] at h
 rcases h with ⟨h1,h2 | h2⟩
 ·rw [h2]; rfl
 ·rw [le_lt h1 h2]; simp
theorem none_has (x:ByteArray):Spn.none.has x = false:=by
 cases h:Spn.none.has x with
 | false=>rfl
 | true=>have:=z6b h; rw [z6s] at this; cases this
theorem y84 (s:Spn) (x:ByteArray):s.norm.has x = s.has x:=by
 unfold Spn.norm
 split
 ·rename_i h
  rw [none_has]
  cases h2:s.has x with
  | false=>rfl
  | true=>rw [z6b h2] at h; cases h
 ·split
  ·rename_i h h2
   simp [Spn.has,h2]
  ·rfl
theorem cut_has (a b:Spn) (x:ByteArray):(a.cut b).has x = (a.has x && b.has x):=by
 unfold Spn.has Spn.cut
 simp only [lt_max]
 cases ha:a.op <;> cases hb:b.op <;> simp [lt_min] <;> cases lt x a.lo <;> cases lt x b.lo <;> simp
theorem zva (a b:Spn) (x:ByteArray):(a.meet b).has x = (a.has x && b.has x):=by
 unfold Spn.meet
 rw [y84,cut_has]
theorem norm_norm (s:Spn):s.norm.norm = s.norm:=by
 unfold Spn.norm
 by_cases h:s.empty = true
 ·rw [if_pos h,if_pos z6s]
 ·rw [if_neg h]
  by_cases h2:s.op = true
  ·rw [if_pos h2]
   simp [Spn.empty]
  ·rw [if_neg h2,if_neg h,if_neg h2]
theorem meet_norm (a b:Spn):(a.meet b).norm = a.meet b:=norm_norm _
theorem within_eq (a b:Spn):a.within b = decide (a.meet b = a.norm):=by unfold Spn.within; rw [meet_norm]
theorem within_has {a b:Spn} {x:ByteArray} (h:a.within b = true) (hx:a.has x = true):b.has x = true:=by
 rw [within_eq,decide_eq_true_eq] at h
 have:=zva a b x
 rw [h,y84,hx] at this
 simpa using this.symm
theorem zvu {s:Spn} {k:ByteArray}:s.touch (z2k k) = s.has k:=by
 unfold Spn.touch
 cases h:s.has k with
 | true =>
  have:(s.meet (z2k k)).has k = true:=by rw [zva,h,z3u]; simp
  rw [z6b this]; rfl
 | false =>
  rw [← has_lo,Bool.not_not,zva,z3u]
  cases h2:s.has (s.meet (z2k k)).lo with
  | false=>rfl
  | true =>
   have:(s.meet (z2k k)).lo ≠ k:=fun e=>by rw [e,h] at h2; cases h2
   simp [this]
theorem bext {a b:ByteArray} (h:a.data.toList = b.data.toList):a = b:=by
 cases a; cases b; congr 1; exact Array.ext' h
theorem z2r (s:ByteArray):(z3p s).data.toList = s.data.toList.drop (s.data.toList.length - 16):=by
 unfold z3p
 have e:s.size = s.data.toList.length:=by rw [Array.length_toList]; rfl
 rw [ByteArray.data_extract,Array.toList_extract,e,List.extract_eq_take_drop,List.take_of_length_le (by rw [List.length_drop]; omega)]
theorem tail16_l (s t:ByteArray):z3p (z3p s ++ t) = z3p (s ++ t):=by
 apply bext
 rw [z2r,z2r,ByteArray.data_append,Array.toList_append,z2r,ByteArray.data_append,Array.toList_append]
 generalize s.data.toList = a
 generalize t.data.toList = b
 simp only [List.length_append,List.length_drop,List.drop_append,List.drop_drop]
 congr 2 <;> omega
theorem tail16_r (s t:ByteArray):z3p (s ++ z3p t) = z3p (s ++ t):=by
 apply bext
 rw [z2r,z2r,ByteArray.data_append,Array.toList_append,z2r,ByteArray.data_append,Array.toList_append]
 generalize s.data.toList = a
 generalize t.data.toList = b
 simp only [List.length_append,List.length_drop,List.drop_append,List.drop_drop]
 by_cases h:b.length≤16
 ·rw [show b.length - 16 = 0 by omega]; simp
 ·rw [List.drop_eq_nil_of_le (by omega:a.length≤_),List.drop_eq_nil_of_le (by omega:a.length≤_)]
  congr 2; omega
theorem z5k (e:Eff):e.thenR Eff.none = e:=by simp [Eff.thenR,Eff.none]
theorem zng (e b:Eff) (h0:b.kind ≠ 0) (h2:b.kind ≠ 2):e.thenR b = b:=by simp [Eff.thenR,h0,h2]
theorem then_assoc (e a b:Eff) (hb:b.kind = 2):(e.thenR a).thenR b = e.thenR (a.thenR b):=by
 by_cases ha:a.kind = 0
 ·rw [show e.thenR a = e by simp [Eff.thenR,ha],show a.thenR b = b by simp [Eff.thenR,ha,hb]]
 ·have h1:a.thenR b = ⟨if a.kind = 2 then 2 else 1,z3p (a.val ++ b.val)⟩:=by simp [Eff.thenR,ha,hb]
  by_cases ha2:a.kind = 2
  ·by_cases he:e.kind = 0
   ·rw [show e.thenR a = a by simp [Eff.thenR,he,ha2],h1]
    simp [Eff.thenR,he,ha2]
   ·rw [h1]
    simp only [Eff.thenR,ha2,he,hb]
    by_cases he2:e.kind = 2 <;> simp [he2,tail16_l,tail16_r,ByteArray.append_assoc]
  ·rw [show e.thenR a = a by simp [Eff.thenR,ha,ha2],h1]
   simp [Eff.thenR,ha2]
theorem on_del (m:Msg) (k:ByteArray):(m.on k).kind = 3->(m.on k).val = ⟨#[]⟩:=by
 unfold Msg.on Eff.none
 split
 ·split
  ·rename_i h; intro h3; simp only at h3; omega
  ·split <;> simp
 ·simp
theorem on_thenC (m:Msg) (k:ByteArray) (b:Eff):(m.on k).thenC b = (m.on k).thenR b:=then_same b (on_del m k)
theorem zt7 {m:Msg} {x:ByteArray} (h:m.span.has x = false):m.on x = Eff.none:=by simp [Msg.on,h]
theorem z2g {m:Msg} (h:m.kind ≠ 4):m.span = z2k m.key:=by simp [Msg.span,h]
def z2p (x:ByteArray) (e:Eff) (l:List Msg):Eff:=l.foldl (fun e m=>e.thenR (m.on x)) e
theorem z1n (x:ByteArray) (e:Eff) (m:Msg) (l:List Msg):z2p x e (m :: l) = z2p x (e.thenR (m.on x)) l:=rfl
theorem zfh (x:ByteArray) (e:Eff) (a b:List Msg):z2p x e (a ++ b) = z2p x (z2p x e a) b:=by simp [z2p]
theorem zdt {x:ByteArray}:∀ {l:List Msg} {b:Msg},b ∈ l->(b.on x).kind ≠ 0->(b.on x).kind ≠ 2->∀ e e',z2p x e l = z2p x e' l
 | [],b,h,_,_,_,_=>by cases h
 | m :: l,b,h,h0,h2,e,e'=>by
  rw [z1n,z1n]
  rcases List.mem_cons.1 h with rfl | h
  ·rw [zng _ _ h0 h2,zng _ _ h0 h2]
  ·exact zdt h h0 h2 _ _
theorem y1o {x:ByteArray} {b:Msg}:∀ {l:List Msg} {q:Nat} {a:Msg},l[q]? = some a->b.on x = a.on x->∀ e,z2p x e (l.set q b) = z2p x e l
 | [],q,a,h,_,_=>by simp at h
 | m :: l,0,a,h,hb,e=>by
  simp at h; subst h
  rw [List.set_cons_zero,z1n,z1n,hb]
 | m :: l,q + 1,a,h,hb,e=>by
  rw [List.set_cons_succ,z1n,z1n]
  exact y1o (by simpa using h) hb _
theorem y92 {x:ByteArray} {b:Msg} {M:Eff}:∀ {l:List Msg} {q:Nat} {a:Msg},l[q]? = some a->(∀ p z,p < q->l[p]? = some z->z.on x = Eff.none)->b.on x = M.thenR (a.on x)->(a.on x).kind = 2->∀ e,z2p x (e.thenR M) l = z2p x e (l.set q b)
 | [],q,a,h,_,_,_,_=>by simp at h
 | m :: l,0,a,h,_,hb,h2,e=>by
  simp at h; subst h
  rw [List.set_cons_zero,z1n,z1n,hb,then_assoc _ _ _ h2]
 | m :: l,q + 1,a,h,hp,hb,h2,e=>by
  rw [List.set_cons_succ,z1n,z1n,hp 0 m (by omega) rfl,z5k,z5k]
  exact y92 (by simpa using h) (fun p z hpq hz=>hp (p + 1) z (by omega) (by simpa using hz)) hb h2 _
def Msg.size (m:Msg):Nat:=if m.kind = 4 then 36 else 4 + m.key.size + m.val.size
def z38 (l:List Msg):Nat:=(l.map Msg.size).sum
theorem z2h (m:Msg) (l:List Msg):z38 (m :: l) = m.size + z38 l:=by simp [z38]
theorem z5x (a b:List Msg):z38 (a ++ b) = z38 a + z38 b:=by simp [z38]
theorem zvz {b:Msg}:∀ {l:List Msg} {q:Nat} {a:Msg},l[q]? = some a->z38 (l.set q b) + a.size = z38 l + b.size
 | [],q,a,h=>by simp at h
 | m :: l,0,a,h=>by
  simp at h; subst h
  rw [List.set_cons_zero,z2h,z2h]; omega
 | m :: l,q + 1,a,h=>by
  rw [List.set_cons_succ,z2h,z2h]
  have:=zvz (b:=b) (l:=l) (q:=q) (a:=a) (by simpa using h)
  omega
theorem z6e {p:Nat->Bool}:∀ {f j k:Nat},z29 p f j = some k->∀ i,j≤i->i < k->p i = false
 | 0,j,k,h,i,_,_=>by simp [z29] at h
 | f + 1,j,k,h,i,h1,h2=>by
  simp only [z29] at h
  by_cases hp:p j = true
  ·rw [if_pos hp] at h; cases h; omega
  ·rw [if_neg hp] at h
   by_cases e:i = j
   ·subst e; simpa using hp
   ·exact z6e h i (by omega) h2
theorem nextOf_mid {l:List Msg} {i j:Nat} {m:Msg} (hm:l[i]? = some m) (h:z44 l i = some j) {k:Nat} {x:Msg} (h1:i < k) (h2:k < j) (hx:l[k]? = some x):x.span.touch m.span = false:=by
 unfold z44 at h
 rw [hm] at h
 have:=z6e h k (by omega) h2
 simpa [hx] using this
theorem zly {m x:Msg} (h1:m.kind ≠ 4) (h2:x.kind = 2) (ht:x.span.touch m.span = true):m.key = x.key∧z3a m x = ({ x with kind:=((m.on m.key).thenR (x.on x.key)).kind,val:=((m.on m.key).thenR (x.on x.key)).val },true):=by
 rw [z2g h1,z2g (by omega:x.kind ≠ 4)] at ht
 have hk:=zl8 ht
 refine ⟨hk.symm,?_⟩
 unfold z3a
 rw [if_neg (by omega),if_neg (by intro h; rcases h with h | h | h; exact h1 h; omega; exact h hk.symm),on_thenC]
theorem y3f {x:Msg} (h2:x.kind = 2):x.on x.key = ⟨2,x.val⟩:=by
 have:x.span.has x.key = true:=by rw [z2g (by omega:x.kind ≠ 4),z3u]; simp
 simp [Msg.on,this,h2]
theorem z98 (a:Eff) (v:ByteArray):(a.thenR ⟨2,v⟩).kind = 1∨(a.thenR ⟨2,v⟩).kind = 2:=by
 unfold Eff.thenR
 by_cases h:a.kind = 0
 ·simp [h]
 ·by_cases h2:a.kind = 2 <;> simp [h,h2]
theorem join_on {m x:Msg} (h1:m.kind ≠ 4) (h2:x.kind = 2) (ht:x.span.touch m.span = true):(z3a m x).1.on x.key = (m.on x.key).thenR (x.on x.key)∧∀ y,y ≠ x.key->(z3a m x).1.on y = x.on y:=by
 obtain ⟨hk,hj⟩:=zly h1 h2 ht
 obtain ⟨_,hs,_,_⟩:=zlx h1 h2 ht
 have hxs:=z2g (m:=x) (by omega)
 refine ⟨?_,fun y hy=>?_⟩
 ·have hh:(z3a m x).1.span.has x.key = true:=by rw [hs,hxs,z3u]; simp
  unfold Msg.on
  rw [if_pos hh]
  change (if (z3a m x).1.kind = 1∨(z3a m x).1.kind = 2 then (⟨(z3a m x).1.kind,(z3a m x).1.val⟩:Eff) else _) = _
  rw [hj]
  rw [if_pos (by rw [y3f h2]; exact z98 _ _),hk]
  rfl
 ·have hh:x.span.has y = false:=by rw [hxs,z3u]; simp [hy]
  rw [zt7 hh,zt7 (by rw [hs]; exact hh)]
structure SK (f:ByteArray->Eff) (st:List Int) (n:Nat) (i:Nat) (rest out:List Msg):Prop where
 on:∀ y,z2p y Eff.none (out ++ rest.drop i) = f y
 wip:∀ a,a ∈ out->a.kind = 4->∀ k x,i≤k->rest[k]? = some x->x.kind = 4->a.span.within x.span = false
 pair:∀ (p q:Nat) (a x:Msg),p < q->out[p]? = some a->out[q]? = some x->a.kind = 4->x.kind = 4->a.span.within x.span = false
 size:z38 (out ++ rest.drop i)≤n
 stamps:((out ++ rest.drop i).map Msg.stamp).Sublist st
 right:∀ m,m ∈ out ++ rest.drop i->m.right = true
theorem right_kind {m:Msg} (h:m.right = true):m.kind = 1∨m.kind = 2∨m.kind = 3∨m.kind = 4:=by
 unfold Msg.right at h
 by_cases h4:m.kind = 4
 ·omega
 ·rw [if_neg h4] at h
  simp only [Bool.and_eq_true,Bool.or_eq_true,beq_iff_eq] at h
  omega
theorem dead_fold {rest:List Msg} {i:Nat} {m:Msg} (hm:rest[i]? = some m) (hr:∀ x,x ∈ rest.drop i->x.right = true) (hd:dead rest i = true) (y:ByteArray) (e:Eff) :
  z2p y (e.thenR (m.on y)) (rest.drop (i + 1)) = z2p y e (rest.drop (i + 1)):=by
 unfold dead at hd
 rw [hm] at hd
 simp only at hd
 by_cases h4:m.kind = 4
 ·rw [if_pos h4] at hd
  unfold cov at hd
  rw [hm] at hd
  simp only [List.any_eq_true,Bool.and_eq_true,beq_iff_eq] at hd
  obtain ⟨b,hb,hb4,hw⟩:=hd
  cases hy:m.span.has y with
  | false=>rw [zt7 hy,z5k]
  | true =>
   have hby:=within_has hw hy
   have:b.on y = ⟨3,⟨#[]⟩⟩:=by simp [Msg.on,hby,hb4]
   exact zdt hb (by rw [this]; simp) (by rw [this]; simp) _ _
 ·rw [if_neg h4] at hd
  cases hn:z44 rest i with
  | none=>rw [hn] at hd; cases hd
  | some j =>
   obtain ⟨hij,x,hx⟩:=zlh hn
   rw [hn] at hd
   simp only [hx,Option.any_some,bne_iff_ne,ne_eq] at hd
   have ht:=z65 hm hn hx
   rw [z2g h4,zvu] at ht
   have hxm:x ∈ rest.drop (i + 1):=List.mem_of_getElem? (by rw [List.getElem?_drop,show i + 1 + (j - (i + 1)) = j by omega]; exact hx)
   have hxr:=hr x (by rw [List.drop_eq_getElem_cons (List.getElem?_eq_some_iff.1 hm).1]; exact List.mem_cons_of_mem _ hxm)
   by_cases hy:y = m.key
   ·subst hy
    have hk:=right_kind hxr
    have:x.on m.key = if x.kind = 1 then ⟨1,x.val⟩ else ⟨3,⟨#[]⟩⟩:=by
     unfold Msg.on
     rw [if_pos ht]
     rcases hk with h | h | h | h
     ·simp [h]
     ·exact absurd h hd
     ·simp [h]
     ·simp [h]
    exact zdt hxm (by rw [this]; split <;> simp) (by rw [this]; split <;> simp) _ _
   ·rw [zt7 (by rw [z2g h4,z3u]; simp [hy]),z5k]
theorem zmo {α:Type} {l:List α} {i:Nat} {m:α} (h:l[i]? = some m):l.drop i = m :: l.drop (i + 1):=by
 rw [List.drop_eq_getElem_cons (List.getElem?_eq_some_iff.1 h).1]
 congr 1
 exact (List.getElem?_eq_some_iff.1 h).2
theorem SK.skip {f:ByteArray->Eff} {st:List Int} {n i:Nat} {rest out:List Msg} (h:SK f st n i rest out) {m:Msg} (hm:rest[i]? = some m) (hd:dead rest i = true):SK f st n (i + 1) rest out:=by
 have hc:=zmo hm
 refine ⟨fun y=>?_,fun a ha h4 k x hk hx=>h.wip a ha h4 k x (by omega) hx,h.pair,?_,?_,?_⟩
 ·rw [← h.on y,zfh,zfh,hc,z1n]
  exact (dead_fold hm (fun x hx=>h.right x (List.mem_append_right _ hx)) hd y _).symm
 ·refine Nat.le_trans ?_ h.size
  rw [z5x,z5x,hc,z2h]; omega
 ·refine List.Sublist.trans (List.Sublist.map _ ?_) h.stamps
  rw [hc]
  exact List.Sublist.append_left (List.sublist_cons_self _ _) _
 ·intro x hx
  refine h.right x ?_
  rw [hc]
  rcases List.mem_append.1 hx with hx | hx
  ·exact List.mem_append_left _ hx
  ·exact List.mem_append_right _ (List.mem_cons_of_mem _ hx)
theorem SK.add {f:ByteArray->Eff} {st:List Int} {n i:Nat} {rest out:List Msg} (h:SK f st n i rest out) {m:Msg} (hm:rest[i]? = some m) (hd:¬ dead rest i = true):SK f st n (i + 1) rest (out ++ [m]):=by
 have hc:=zmo hm
 have he:out ++ [m] ++ rest.drop (i + 1) = out ++ rest.drop i:=by rw [List.append_assoc,hc]; rfl
 have hw:m.kind = 4->∀ k x,i + 1≤k->rest[k]? = some x->x.kind = 4->m.span.within x.span = false:=by
  intro h4 k x hk hx hx4
  unfold dead cov at hd
  rw [hm] at hd
  simp only [if_pos h4,List.any_eq_true,Bool.and_eq_true,beq_iff_eq] at hd
  cases hwi:m.span.within x.span with
  | false=>rfl
  | true =>
   exact absurd ⟨x,List.mem_of_getElem? (by rw [List.getElem?_drop,show i + 1 + (k - (i + 1)) = k by omega]; exact hx),hx4,hwi⟩ hd
 refine ⟨fun y=>by rw [he]; exact h.on y,fun a ha h4 k x hk hx hx4=>?_,fun p q a x hpq hp hq h4 hx4=>?_,by rw [he]; exact h.size,by rw [he]; exact h.stamps,by rw [he]; exact h.right⟩
 ·rcases List.mem_append.1 ha with ha | ha
  ·exact h.wip a ha h4 k x (by omega) hx hx4
  ·simp at ha; subst ha
   exact hw h4 k x hk hx hx4
 ·have hql:=(List.getElem?_eq_some_iff.1 hq).1
  rw [List.length_append] at hql
  simp at hql
  have hpl:p < out.length:=by omega
  rw [List.getElem?_append_left hpl] at hp
  rcases Nat.lt_or_ge q out.length with h1 | h1
  ·rw [List.getElem?_append_left h1] at hq
   exact h.pair p q a x hpq hp hq h4 hx4
  ·rw [List.getElem?_append_right h1] at hq
   have:q = out.length:=by omega
   subst this
   simp at hq
   subst hq
   exact h.wip a (List.mem_of_getElem? hp) h4 i m (Nat.le_refl _) hm hx4
theorem zeu {b:Msg}:∀ {l:List Msg} {q:Nat} {a:Msg},l[q]? = some a->b.stamp = a.stamp->(l.set q b).map Msg.stamp = l.map Msg.stamp
 | [],q,a,h,_=>by simp at h
 | m :: l,0,a,h,hb=>by simp at h; subst h; simp [hb]
 | m :: l,q + 1,a,h,hb=>by
  rw [List.set_cons_succ,List.map_cons,List.map_cons,zeu (by simpa using h) hb]
theorem zu9 (a:Eff) (v:ByteArray):(a.thenR ⟨2,v⟩).val.size≤a.val.size + v.size:=by
 unfold Eff.thenR
 by_cases h:a.kind = 0
 ·simp [h]
 ·simp only [h,ne_eq,not_true_eq_false,or_self,if_false,show ¬ ((2:Int) = 0) by omega]
  have:(z3p (a.val ++ v)).size≤(a.val ++ v).size:=by unfold z3p; rw [ByteArray.size_extract]; omega
  rw [ByteArray.size_append] at this
  exact this
theorem zfs (a:Eff) (v:ByteArray) (hv:v.size≤16):(a.thenR ⟨2,v⟩).val.size≤16:=by
 unfold Eff.thenR
 by_cases h:a.kind = 0
 ·simp [h,hv]
 ·simp only [h,ne_eq,not_true_eq_false,or_self,if_false,show ¬ ((2:Int) = 0) by omega]
  exact y2p _
theorem join_more {m x:Msg} (h1:m.kind ≠ 4) (h2:x.kind = 2) (ht:x.span.touch m.span = true):(z3a m x).1.stamp = x.stamp∧(z3a m x).1.size≤m.size + x.size∧(x.right = true->(z3a m x).1.right = true):=by
 obtain ⟨hk,hj⟩:=zly h1 h2 ht
 rw [hj,hk,y3f h2]
 have e1:=z98 (m.on x.key) x.val
 have e2:=zu9 (m.on x.key) x.val
 have e3:=on_size m x.key
 refine ⟨rfl,?_,fun hr=>?_⟩
 ·unfold Msg.size
  simp only
  rw [if_neg (by omega),if_neg h1,if_neg (by omega)]
  omega
 ·have e4:=zfs (m.on x.key) x.val
  unfold Msg.right at hr ⊢
  simp only at hr ⊢
  rw [if_neg (by omega)] at hr
  rw [if_neg (by omega)]
  simp only [Bool.and_eq_true,decide_eq_true_eq] at hr
  simp only [Bool.and_eq_true,decide_eq_true_eq]
  refine ⟨⟨⟨⟨hr.1.1.1.1,hr.1.1.1.2⟩,e4 hr.1.1.2⟩,hr.1.2⟩,hr.2.1,?_⟩
  rcases e1 with e | e <;> rw [e] <;> rfl
theorem SK.join {f:ByteArray->Eff} {st:List Int} {n i:Nat} {rest out:List Msg} (h:SK f st n i rest out) {m x:Msg} {j:Nat} (hm:rest[i]? = some m) (hn:z44 rest i = some j) (hx:rest[j]? = some x) (h4:m.kind ≠ 4) (h2:x.kind = 2):SK f st n (i + 1) (rest.set j (z3a m x).1) out:=by
 have hc:=zmo hm
 have hij:=(zlh hn).1
 have ht:=z65 hm hn hx
 obtain ⟨j1,j2,j3,j4⟩:=zlx h4 h2 ht
 obtain ⟨k1,k2,k3⟩:=join_more h4 h2 ht
 obtain ⟨o1,o2⟩:=join_on h4 h2 ht
 obtain ⟨hk,_⟩:=zly h4 h2 ht
 have hq:(rest.drop (i + 1))[j - (i + 1)]? = some x:=by rw [List.getElem?_drop,show i + 1 + (j - (i + 1)) = j by omega]; exact hx
 have hs:(rest.set j (z3a m x).1).drop (i + 1) = (rest.drop (i + 1)).set (j - (i + 1)) (z3a m x).1:=by
  rw [List.drop_set,if_neg (by omega)]
 have hxr:=h.right x (by rw [hc]; exact List.mem_append_right _ (List.mem_cons_of_mem _ (List.mem_of_getElem? hq)))
 refine ⟨fun y=>?_,fun a ha ha4 k z hk' hz hz4=>?_,h.pair,?_,?_,?_⟩
 ·rw [← h.on y,zfh,zfh,hc,z1n,hs]
  by_cases hy:y = x.key
  ·subst hy
   refine (y92 hq (fun p z hp hz=>?_) o1 (by rw [y3f h2]) _).symm
   rw [List.getElem?_drop] at hz
   have:=nextOf_mid hm hn (by omega) (by omega) hz
   rw [z2g h4,hk,zvu] at this
   exact zt7 this
  ·rw [zt7 (m:=m) (by rw [z2g h4,z3u,hk]; simp [hy]),z5k]
   exact y1o hq (o2 y hy) _
 ·rw [List.getElem?_set] at hz
  split at hz
  ·split at hz
   ·cases hz; exact absurd hz4 j3
   ·cases hz
  ·exact h.wip a ha ha4 k z (by omega) hz hz4
 ·refine Nat.le_trans ?_ h.size
  rw [z5x,z5x,hc,z2h,hs]
  have:=zvz (b:=(z3a m x).1) hq
  omega
 ·refine List.Sublist.trans ?_ h.stamps
  rw [hs,List.map_append,List.map_append,zeu hq k1,hc]
  exact List.Sublist.append_left (List.Sublist.map _ (List.sublist_cons_self _ _)) _
 ·intro z hz
  rw [hs] at hz
  rcases List.mem_append.1 hz with hz | hz
  ·exact h.right z (List.mem_append_left _ hz)
  ·rcases List.mem_or_eq_of_mem_set hz with hz | hz
   ·exact h.right z (by rw [hc]; exact List.mem_append_right _ (List.mem_cons_of_mem _ hz))
   ·subst hz; exact k3 hxr
theorem z4h {f:ByteArray->Eff} {st:List Int} {n:Nat}:∀ (g i:Nat) (rest out:List Msg),SK f st n i rest out->i + g = rest.length->∃ rest',rest'.length = rest.length∧SK f st n rest.length rest' (sqGo g i rest out)
 | 0,i,rest,out,h,hf=>⟨rest,rfl,by rw [← hf]; exact h⟩
 | g + 1,i,rest,out,h,hf=>by
  obtain ⟨m,hm⟩:∃ m,rest[i]? = some m:=⟨_,List.getElem?_eq_getElem (by omega)⟩
  simp only [sqGo,hm]
  by_cases hd:dead rest i = true
  ·rw [if_pos hd]
   exact z4h g (i + 1) rest out (h.skip hm hd) (by omega)
  ·rw [if_neg hd]
   cases hx:z44 rest i with
   | none =>
    simp only
    exact z4h g (i + 1) rest _ (h.add hm hd) (by omega)
   | some j =>
    obtain ⟨hij,x,hxj⟩:=zlh hx
    simp only [hxj]
    by_cases h4:m.kind = 4
    ·rw [if_pos h4]
     exact z4h g (i + 1) rest _ (h.add hm hd) (by omega)
    ·rw [if_neg h4]
     have hk:x.kind = 2:=by
      unfold dead at hd
      simp only [hm,hx,hxj,if_neg h4] at hd
      simpa using hd
     rw [if_pos (zlx h4 hk (z65 hm hx hxj)).1]
     have:=z4h g (i + 1) (rest.set j (z3a m x).1) out (h.join hm hx hxj h4 hk) (by rw [List.length_set]; omega)
     rw [List.length_set] at this
     exact this
theorem z93:∀ l:List Msg,z2f l = true ↔ (∀ m,m ∈ l->m.right = true)∧(l.map Msg.stamp).Pairwise (· < ·)
 | []=>by simp [z2f]
 | [m]=>by simp [z2f]
 | m :: x :: l=>by
  have ih:=z93 (x :: l)
  rw [z2f]
  simp only [Bool.and_eq_true,decide_eq_true_eq,ih,List.map_cons,List.pairwise_cons,List.mem_cons,forall_eq_or_imp]
  refine ⟨fun ⟨⟨h1,h2⟩,⟨h3,h4⟩,h5,h6⟩=>⟨⟨h1,h3,h4⟩,⟨h2,fun a ha=>Int.lt_trans h2 (h5 a ha)⟩,h5,h6⟩,fun ⟨⟨h1,h3,h4⟩,⟨h2,_⟩,h5,h6⟩=>⟨⟨h1,h2⟩,⟨h3,h4⟩,h5,h6⟩⟩
theorem keeps (l:List Msg) (h:z2f l = true):(∀ y,z2p y Eff.none (z9b l) = z2p y Eff.none l)∧z38 (z9b l)≤z38 l∧z2f (z9b l) = true ∧
  ∀ (p q:Nat) (a x:Msg),p < q->(z9b l)[p]? = some a->(z9b l)[q]? = some x->a.kind = 4->x.kind = 4->a.span.within x.span = false:=by
 obtain ⟨h1,h2⟩:=(z93 l).1 h
 obtain ⟨rest',hl,hk⟩:=z4h (f:=fun y=>z2p y Eff.none l) (st:=l.map Msg.stamp) (n:=z38 l) l.length 0 l [] ⟨fun y=>rfl,(fun a ha=>by cases ha),(fun p q a x _ hp=>by simp at hp),Nat.le_refl _,List.Sublist.refl _,h1⟩ (by omega)
 have hd:rest'.drop l.length = []:=List.drop_eq_nil_of_le (by omega)
 obtain ⟨k1,_,k3,k4,k5,k6⟩:=hk
 rw [hd,List.append_nil] at k4 k5 k6
 refine ⟨fun y=>by have:=k1 y; rw [hd,List.append_nil] at this; exact this,k4,(z93 _).2 ⟨k6,h2.sublist k5⟩,k3⟩
end
end Go.Proofs.YtkfciapeikkmfaaDoor
