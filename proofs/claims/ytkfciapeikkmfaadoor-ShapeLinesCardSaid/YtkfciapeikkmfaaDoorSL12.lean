/-
  Part 12 of a proof: PkB, PkC, PkA, PkE, PkF, PkG, PkH, PkI, PkJ, Join, HpS, Cck, HpU, ShD, Glue, KeyPure, SqA, SqB, SqC, SqD, SqF, NdA, ShA.
-/
import Derived.IntWalk
import Derived.Lib.Bytealg
import Derived.Shelf.Strings.BuilderK
import Derived.Lib.CutLaws
import Derived.Lib.Split
import Derived.StillTailTactics
import Derived.Lib.ItoaLen
import Derived.Lib.AppendIntMem
import Derived.Shelf.Strings.Builder1
import Derived.Test.YtkfciapeikkmfaaDoorProg
import Derived.SizedLaws
import Derived.OpenShut
import GoSem.Op.String
import Derived.Test.YtkfciapeikkmfaaDoorSL11
set_option linter.unusedVariables false
set_option linter.unusedSimpArgs false
set_option maxRecDepth 100000
namespace Go.Proofs.YtkfciapeikkmfaaDoor
attribute [local go_sem] ev0 ev1 ev2 ev3 ev4 evA stHOk.eq_1 stHOk.eq_2 stHSt.eq_1 stHSt.eq_2 okV valV fzV okF valF okBld valBld mxOk.eq_1 mxOk.eq_2 mxVal.eq_1 mxVal.eq_2 cellFit.eq_1 cellFit.eq_2 cellFit.eq_3 cellEq.eq_1 cellEq.eq_2 cellEq.eq_3 upd_at AV.flatB AV.flatBs binIok binIV binSok binSV cellsOk.eq_1 cellsOk.eq_2 cellsVal.eq_1 cellsVal.eq_2 objCells.eq_1 objCells.eq_2 objZ.eq_1 objZ.eq_2 objProt.eq_1 objProt.eq_2 oneObj ptrOk.eq_1 ptrOk.eq_2 ptrOk.eq_3 ptrCells.eq_1 ptrCells.eq_2 ptrCells.eq_3 lenOk.eq_1 lenOk.eq_2 lenOk.eq_3 lenOk.eq_4 lenVal.eq_1 lenVal.eq_2 lenVal.eq_3 lenVal.eq_4 faOk.eq_1 faOk.eq_2 faOk.eq_3 faVal.eq_1 faVal.eq_2 faVal.eq_3 iaOk.eq_1 iaOk.eq_2 iaOk.eq_3 iaVal.eq_1 iaVal.eq_2 iaVal.eq_3 slcLen.eq_1 slcLen.eq_2 slcLen.eq_3 slcLen.eq_4 bdOk.eq_1 bdOk.eq_2 bdVal.eq_1 bdVal.eq_2 slcOk.eq_1 slcOk.eq_2 slcOk.eq_3 slcOk.eq_4 slcOk.eq_5 slcKV.eq_1 slcKV.eq_2 slcKV.eq_3 slcVal.eq_1 slcVal.eq_2 slcVal.eq_3 slcVal.eq_4 slcFz.eq_1 slcFz.eq_2 loK.eq_1 loK.eq_2 loK.eq_3 rsVal.eq_1 rsVal.eq_2 rsVal.eq_3 byOk.eq_1 byOk.eq_2 byOk.eq_3 byOk.eq_4 byOk.eq_5 byOk.eq_6 byOk.eq_7 byOk.eq_8 byVal.eq_1 byVal.eq_2 byVal.eq_3 byFz.eq_1 byFz.eq_2 byFz.eq_3 byOks byVals byFzs allOne resSt.eq_1 resSt.eq_2 resName.eq_1 resName.eq_2 stOk.eq_1 stOk.eq_2 stArr.eq_1 stArr.eq_2 stSt.eq_1 stSt.eq_2 AV.patch nameOk_none gB.eq_1 gB.eq_2 gB.eq_3 gIs.eq_1 gIs.eq_2 gIs.eq_3 retV resV resVs evalV cellsV St.byval List.getD_cons_zero List.getD_cons_succ List.getD_nil List.map_cons List.map_nil List.length_cons List.length_nil List.take_succ_cons List.take_zero List.drop_succ_cons List.drop_zero List.headD_cons List.set_cons_zero List.append_nil List.nil_append List.cons_append List.contains_cons List.contains_nil List.elem_cons List.elem_nil List.all_cons List.all_nil List.getElem?_cons_zero List.getElem?_cons_succ List.filterMap_cons List.filterMap_nil Option.isSome_some Option.isSome_none Option.map_some Option.map_none Option.some.injEq AV.int.injEq AV.bool.injEq AV.str.injEq AV.tup.injEq AV.agg.injEq AV.sl.injEq List.cons.injEq Bool.false_eq_true Bool.true_eq_false Bool.not_true Bool.not_false Bool.and_true Bool.true_and Bool.or_false Bool.or_true Bool.false_or Bool.true_or Bool.or_self Bool.and_self Bool.not_eq_true' Bool.not_eq_false' Bool.not_not beq_self_eq_true true_and and_true false_and and_false and_self not_true_eq_false not_false_eq_true forall_const true_implies false_implies implies_true imp_self Nat.lt_add_one Nat.le_refl Nat.zero_le Nat.add_zero Nat.zero_add decide_true decide_false decide_eq_true_eq decide_eq_false_iff_not exists_eq_left exists_eq_left' ge_iff_le gt_iff_lt ite_branch ite_branch' nilOk.eq_1 nilOk.eq_2 nilMay.eq_1 nilMay.eq_2 AV.isSl.eq_1 objTy'.eq_1 objTy'.eq_2 apSt.eq_1 apArr.eq_1 apArr.eq_2 apTwo.eq_1 apTwo.eq_2 apSt2.eq_1 apArr2.eq_1 apArr2.eq_2 slOf.eq_1 fitsV List.mem_cons List.not_mem_nil Bool.false_and Bool.and_false primOk.eq_1 primOk.eq_2 primOk.eq_3 primOk.eq_4 primOk.eq_5 primVal.eq_1 primVal.eq_2 primVal.eq_3 primVal.eq_4 primVal.eq_5 mOk.eq_1 mOk.eq_2 mVal.eq_1 mVal.eq_2 mFz.eq_1 mFz.eq_2 mOks mVals mFzs mCalOk.eq_1 mCalOk.eq_2 mFn.eq_1 mFn.eq_2 mArgs.eq_1 mArgs.eq_2 ckOk.eq_1 ckOk.eq_2 cloOk.eq_1 ptrAt.eq_1 sh.eq_1 sh.eq_2 sh.eq_3 sh.eq_4 sh.eq_5 sh.eq_6 retM shH_small evM entOk.eq_1 entOk.eq_2 ents.eq_1 ents.eq_2 kI.eq_1 mpOk.eq_1 mpR.eq_1 lkV.eq_1 lkV.eq_2 remp.eq_2 evP pvOk.eq_1 pvOk.eq_2 pvVal.eq_1 pvVal.eq_2 plOk.eq_1 plOk.eq_2 plOk.eq_3 plV.eq_1 plV.eq_2 plF.eq_1 plF.eq_2 plVal.eq_1 plVal.eq_2 plFz.eq_1 plFz.eq_2 lpOk.eq_1 lpOk.eq_2 lpVal.eq_1 lpVal.eq_2 lpFz.eq_1 lpFz.eq_2 stpOk.eq_1 stpOk.eq_2 stpSt.eq_1 stpSt.eq_2 stpArr.eq_1 keepS.eq_1 keepS.eq_2 evCl
section
/-
 Layer 6 on the plain machine: bytes,texts with their lengths.
-/
open Go.RowKit
attribute [local go_sem ↓] runOp headOp
abbrev bz (c:UInt8):AV:=.int .u8 (c.toNat:Int)
theorem byteB_bz (c:UInt8):(AV.int .u8 (c.toNat:Int)).byteB = true:=by
 have:=c.toNat_lt
 simp [AV.byteB]; omega
theorem toB_bz (c:UInt8):(AV.int .u8 (c.toNat:Int)).toB = c:=by
 simp [AV.toB]
def plainB (c:UInt8):Bool:=(decide (97≤(c.toNat:Int)) && decide ((c.toNat:Int)≤122)) || (decide (65≤(c.toNat:Int)) && decide ((c.toNat:Int)≤90)) || (decide (48≤(c.toNat:Int)) && decide ((c.toNat:Int)≤57)) || ((c.toNat:Int) == 95)
/-! ### percolate/pack.plain -/
def r_plain_0:Reg:=⟨[],[⟨.mv (.c (.bool false)),some 2,none,[],[]⟩],[],[],false⟩
def t_plain_1:List ROp:=[⟨.mv (.t 0),some 3,none,[],[]⟩,⟨.bin .geq (.t 3) (.c (.int .u8 97)),some 4,none,[],[]⟩,⟨.mv (.t 4),some 5,none,[],[]⟩,⟨.mv (.t 0),some 6,(some (5,true)),[],[]⟩,⟨.bin .leq (.t 6) (.c (.int .u8 122)),some 7,(some (5,true)),[],[]⟩,⟨.pick (.t 5) (.t 7) (.c (.bool false)),some 8,none,[],[]⟩,⟨.mv (.t 8),some 9,none,[],[]⟩,⟨.mv (.t 0),some 10,(some (9,false)),[],[]⟩,⟨.bin .geq (.t 10) (.c (.int .u8 65)),some 11,(some (9,false)),[],[]⟩,⟨.mv (.t 11),some 12,(some (9,false)),[],[]⟩,⟨.mv (.t 0),some 13,(some (12,true)),[],[]⟩,⟨.bin .leq (.t 13) (.c (.int .u8 90)),some 14,(some (12,true)),[],[]⟩,⟨.pick (.t 12) (.t 14) (.c (.bool false)),some 15,(some (9,false)),[],[]⟩,⟨.pick (.t 9) (.c (.bool true)) (.t 15),some 16,none,[],[]⟩,⟨.mv (.t 16),some 17,none,[],[]⟩,⟨.mv (.t 0),some 18,(some (17,false)),[],[]⟩,⟨.bin .geq (.t 18) (.c (.int .u8 48)),some 19,(some (17,false)),[],[]⟩,⟨.mv (.t 19),some 20,(some (17,false)),[],[]⟩,⟨.mv (.t 0),some 21,(some (20,true)),[],[]⟩,⟨.bin .leq (.t 21) (.c (.int .u8 57)),some 22,(some (20,true)),[],[]⟩,⟨.pick (.t 20) (.t 22) (.c (.bool false)),some 23,(some (17,false)),[],[]⟩,⟨.pick (.t 17) (.c (.bool true)) (.t 23),some 24,none,[],[]⟩,⟨.mv (.t 24),some 25,none,[],[]⟩,⟨.mv (.t 0),some 26,(some (25,false)),[],[]⟩,⟨.bin .eql (.t 26) (.c (.int .u8 95)),some 27,(some (25,false)),[],[]⟩,⟨.pick (.t 25) (.c (.bool true)) (.t 27),some 28,none,[],[]⟩,⟨.mv (.t 28),some 2,none,[],[]⟩]
def r_plain_1:Reg:=⟨[],t_plain_1,[],[],false⟩
def ir_plain:IR:=(.seq (.reg r_plain_0)
 (.seq (.reg r_plain_1)
 .ret))
def res_plain:List RDesc:=[(.tmp 2)]
theorem e_plain_0:EqR r_plain_0 [⟨.mv (.c (.bool false)),some 2,none,[],[]⟩] []:=fun _ _ _=>rfl
theorem e_plain_1:EqR r_plain_1 t_plain_1 []:=fun _ _ _=>rfl
theorem fn_plain {args:List AV} {r:AV} (ha:args.length.ble Tryd.f45.ntmps = true) (h:run (AFn Tryd.prog) ir_plain (endQ res_plain r) (initSt args)):AFn Tryd.prog 45 args r :=
 AFn.of_code (pv:=false) (hint:=fun _=>[]) (c:=Tryd.f45.body.getD .skip) (by kernel_rfl) (by kernel_rfl) Tryd.func45 (by kernel_rfl) (by kernel_rfl) (by kernel_rfl) (of_decide_eq_true (by kernel_rfl)) (Nat.le_of_ble_eq_true ha) (Nat.le_of_ble_eq_true (by kernel_rfl)) (run_ok h)
/-! ### percolate/percolateref06.own -/
def r_rOwn_0:Reg:=⟨[],[⟨.mv (.c (.bool false)),some 2,none,[],[]⟩],[],[],false⟩
def t_rOwn_1:List ROp:=[⟨.mv (.t 0),some 3,none,[],[]⟩,⟨.bin .leq (.c (.int .u8 97)) (.t 3),some 4,none,[],[]⟩,⟨.mv (.t 4),some 5,none,[],[]⟩,⟨.mv (.t 0),some 6,(some (5,true)),[],[]⟩,⟨.bin .leq (.t 6) (.c (.int .u8 122)),some 7,(some (5,true)),[],[]⟩,⟨.pick (.t 5) (.t 7) (.c (.bool false)),some 8,none,[],[]⟩,⟨.mv (.t 8),some 9,none,[],[]⟩,⟨.mv (.t 0),some 10,(some (9,false)),[],[]⟩,⟨.bin .leq (.c (.int .u8 65)) (.t 10),some 11,(some (9,false)),[],[]⟩,⟨.mv (.t 11),some 12,(some (9,false)),[],[]⟩,⟨.mv (.t 0),some 13,(some (12,true)),[],[]⟩,⟨.bin .leq (.t 13) (.c (.int .u8 90)),some 14,(some (12,true)),[],[]⟩,⟨.pick (.t 12) (.t 14) (.c (.bool false)),some 15,(some (9,false)),[],[]⟩,⟨.pick (.t 9) (.c (.bool true)) (.t 15),some 16,none,[],[]⟩,⟨.mv (.t 16),some 17,none,[],[]⟩,⟨.mv (.t 0),some 18,(some (17,false)),[],[]⟩,⟨.bin .leq (.c (.int .u8 48)) (.t 18),some 19,(some (17,false)),[],[]⟩,⟨.mv (.t 19),some 20,(some (17,false)),[],[]⟩,⟨.mv (.t 0),some 21,(some (20,true)),[],[]⟩,⟨.bin .leq (.t 21) (.c (.int .u8 57)),some 22,(some (20,true)),[],[]⟩,⟨.pick (.t 20) (.t 22) (.c (.bool false)),some 23,(some (17,false)),[],[]⟩,⟨.pick (.t 17) (.c (.bool true)) (.t 23),some 24,none,[],[]⟩,⟨.mv (.t 24),some 25,none,[],[]⟩,⟨.mv (.t 0),some 26,(some (25,false)),[],[]⟩,⟨.bin .eql (.t 26) (.c (.int .u8 95)),some 27,(some (25,false)),[],[]⟩,⟨.pick (.t 25) (.c (.bool true)) (.t 27),some 28,none,[],[]⟩,⟨.mv (.t 28),some 2,none,[],[]⟩]
def r_rOwn_1:Reg:=⟨[],t_rOwn_1,[],[],false⟩
def ir_rOwn:IR:=(.seq (.reg r_rOwn_0)
 (.seq (.reg r_rOwn_1)
 .ret))
def res_rOwn:List RDesc:=[(.tmp 2)]
theorem e_rOwn_0:EqR r_rOwn_0 [⟨.mv (.c (.bool false)),some 2,none,[],[]⟩] []:=fun _ _ _=>rfl
theorem e_rOwn_1:EqR r_rOwn_1 t_rOwn_1 []:=fun _ _ _=>rfl
theorem fn_rOwn {args:List AV} {r:AV} (ha:args.length.ble Tryd.f34.ntmps = true) (h:run (AFn Tryd.prog) ir_rOwn (endQ res_rOwn r) (initSt args)):AFn Tryd.prog 34 args r :=
 AFn.of_code (pv:=false) (hint:=fun _=>[]) (c:=Tryd.f34.body.getD .skip) (by kernel_rfl) (by kernel_rfl) Tryd.func34 (by kernel_rfl) (by kernel_rfl) (by kernel_rfl) (of_decide_eq_true (by kernel_rfl)) (Nat.le_of_ble_eq_true ha) (Nat.le_of_ble_eq_true (by kernel_rfl)) (run_ok h)
attribute [local go_sem ↓] ir_plain
attribute [local go_sem] res_plain e_plain_0 e_plain_1 t_plain_1
attribute [local go_sem ↓] ir_rOwn
attribute [local go_sem] res_rOwn e_rOwn_0 e_rOwn_1 t_rOwn_1
theorem plain_ok (c:UInt8):AFn Tryd.prog 45 [bz c] (.bool (plainB c)):=by
 refine fn_plain rfl ?_
 simp (maxSteps:=9^7) only [go_sem,↓reduceIte,reduceCtorEq,Nat.reduceEqDiff,Nat.reduceBEq,Nat.reduceAdd,Nat.reduceSub,Nat.reduceMul,Nat.reduceLT,Nat.reduceLeDiff,Nat.reduceBNe,Int.reduceBEq,Int.reduceBNe,Int.reduceLT,Int.reduceLE]
 repeat' split
 all_goals (simp [plainB, *] <;> omega)
theorem rOwn_ok (c:UInt8):AFn Tryd.prog 34 [bz c] (.bool (plainB c)):=by
 refine fn_rOwn rfl ?_
 simp (maxSteps:=9^7) only [go_sem,↓reduceIte,reduceCtorEq,Nat.reduceEqDiff,Nat.reduceBEq,Nat.reduceAdd,Nat.reduceSub,Nat.reduceMul,Nat.reduceLT,Nat.reduceLeDiff,Nat.reduceBNe,Int.reduceBEq,Int.reduceBNe,Int.reduceLT,Int.reduceLE]
 repeat' split
 all_goals (simp [plainB, *] <;> omega)
def b0 (s:ByteArray):UInt8:=s.data.toList.getD 0 0
/-! ### Contracts that are proved over the model itself -/
theorem AFn.flat1 {P:Program} {f:FuncId} (hok:funcOk P f = true) {d r:AV} {v u:Value} (hd:∀ Q w v',VR Q w d v'->v' = v) (hr:∀ Q base w,RR Q base w r u)
  (h:∀ w,Glob w->Calls P f #[v] w fun e w'=>e = .returned u∧Below w.heap.size w w'):AFn P f [d] r:=by
 refine ⟨hok,fun w Pr vs hG hPr hlen hvs=>?_⟩
 obtain ⟨v',rfl⟩:∃ v',vs = [v']:=by
  match vs,hlen with
  | [v'],_=>exact ⟨v',rfl⟩
 rw [hd _ _ _ (hvs 0 _ v' rfl rfl)]
 exact (h w hG).mono fun e w' ⟨he,hb⟩=>⟨u,he,hb,hr _ _ _⟩
theorem AFn.flat2 {P:Program} {f:FuncId} (hok:funcOk P f = true) {d1 d2 r:AV} {v1 v2 u:Value} (hd1:∀ Q w v',VR Q w d1 v'->v' = v1) (hd2:∀ Q w v',VR Q w d2 v'->v' = v2) (hr:∀ Q base w,RR Q base w r u)
  (h:∀ w,Glob w->Calls P f #[v1,v2] w fun e w'=>e = .returned u∧Below w.heap.size w w'):AFn P f [d1,d2] r:=by
 refine ⟨hok,fun w Pr vs hG hPr hlen hvs=>?_⟩
 obtain ⟨a,b,rfl⟩:∃ a b,vs = [a,b]:=by
  match vs,hlen with
  | [a,b],_=>exact ⟨a,b,rfl⟩
 rw [hd1 _ _ _ (hvs 0 _ a rfl rfl),hd2 _ _ _ (hvs 1 _ b rfl rfl)]
 exact (h w hG).mono fun e w' ⟨he,hb⟩=>⟨u,he,hb,hr _ _ _⟩
theorem str_flat {s:ByteArray}:∀ Q w v',VR Q w (.str s) v'->v' = .string s:=fun _ _ _ h=>h.str_of
theorem int_flat {k:IntKind} {m:Int}:∀ Q w v',VR Q w (.int k m) v'->v' = .int k m:=fun _ _ _ h=>h.int_of
def hexL:List UInt8:=[48,49,50,51,52,53,54,55,56,57,97,98,99,100,101,102]
def digF (c:UInt8):Int:=Lib.indexByte hexL c
end
section
/-
 Layer 6 on the plain machine: a word as a text,a text as a number.
-/
open Go.RowKit
def hexV (a b:UInt8):UInt8:=UInt8.ofNat (digF a * 16 + digF b).toNat
theorem bytes_nil {s:ByteArray}:(s.toList == (ByteArray.mk #[]).toList) = decide (s.size = 0):=by
 rw [ByteArray.toList_eq,ByteArray.toList_eq]
 have:s.size = s.data.toList.length:=by rw [Array.length_toList]; rfl
 rw [this]
 cases s.data.toList with
 | nil=>rfl
 | cons c l=>simp
end
section
/-
 The library's text builder: WriteByte,Write,String,over the model itself.
-/
open Go.RowKit Go.Shelf
def renB:Go.Shelf.Ren:=⟨fun | 167=>46 | n=>Tryd.lays156_ren.f n,Tryd.lays156_ren.t,Tryd.lays156_ren.g⟩
theorem laysCC:Go.Proofs.Lays.n240 Tryd.prog renB:={ Tryd.lays156 with }
theorem extraB:Builder.Extra Tryd.prog renB:={
 sizeBuilder:=by kernel_rfl
 liesBuilder:=by kernel_rfl
 t5:=Tryd.underlying5
 a5:=Tryd.isAgg5
 z5:=Tryd.sizeOf5
 v5:=Tryd.zeroValue5
 infoByte:=by kernel_rfl
 cellsByte:=by kernel_rfl
 sizeByte:=by kernel_rfl
 neB5:=by decide }
/-- a builder in block b,whose bytes lie in blocks from N on -/
def BuildS (N b:Nat) (bs:List Value) (w:World):Prop:=b < N∧N≤w.heap.size∧∃ p v,(p = .pointer none∨p = .pointer (some ⟨b,0,none⟩))∧w.heap[b]? = some (.cells #[p,v] 85 (0,0))∧w.ownsRow N 5 1 v bs.length bs
/-- blocks below N but b are as they were -/
def KeptB (N b:Nat) (w w':World):Prop:=Below b w w'∧∀ g,g < N->g ≠ b->w'.heap[g]? = w.heap[g]?
theorem own_ne {w:World} {N b:Nat} {v:Value} {n:Nat} {xs:List Value} (h:w.ownsRow N 5 1 v n xs) (hb:b < N):v.ownBlock ≠ some b:=by
 rcases h.2 with ⟨rfl,_⟩ | ⟨g,cap,cur,rfl,hg,_⟩
 ·simp [Value.ownBlock]
 ·intro e
  simp only [Value.ownBlock,Option.some.injEq] at e
  omega
theorem own_weak {w:World} {N b:Nat} {v:Value} {n:Nat} {xs:List Value} (h:w.ownsRow N 5 1 v n xs) (hb:b≤N):w.ownsRow b 5 1 v n xs:=by
 refine ⟨h.1,?_⟩
 rcases h.2 with h | ⟨g,cap,cur,h1,h2,h3⟩
 ·exact .inl h
 ·exact .inr ⟨g,cap,cur,h1,by omega,h3⟩
theorem BuildS.is {N b:Nat} {bs:List Value} {w:World} (h:BuildS N b bs w):Lib.IsBuilder 85 5 b b bs w:=by
 obtain ⟨h1,h2,p,v,h3,h4,h5⟩:=h
 rcases h3 with rfl | rfl
 ·exact .inl ⟨Nat.le_refl _,v,h4,own_weak h5 (by omega),own_ne h5 h1⟩
 ·exact .inr ⟨Nat.le_refl _,v,h4,own_weak h5 (by omega),own_ne h5 h1⟩
theorem own_set {w:World} {N b o:Nat} {v u:Value} {n:Nat} {xs:List Value} (h:w.ownsRow N 5 1 v n xs) (hb:b < N):(w.setCell ⟨b,o,none⟩ u).ownsRow N 5 1 v n xs :=
 h.kept (row:=some b) ⟨rfl,rfl,rfl,by simp [World.setCell],fun k _ hk=>Below.heap_setCell _ _ _ _ (fun e=>hk (by simp [e]))⟩ (Or.inr (own_ne h hb))
/-- a later world that keeps all blocks -/
theorem BuildS.below {N b:Nat} {bs:List Value} {w w':World} (h:BuildS N b bs w) (hb:Below w.heap.size w w'):BuildS N b bs w':=by
 obtain ⟨h1,h2,p,v,h3,h4,h5⟩:=h
 refine ⟨h1,Nat.le_trans h2 hb.size,p,v,h3,by rw [hb.block b (by omega)]; exact h4,h5.1,?_⟩
 rcases h5.2 with h | ⟨g,cap,cur,e1,e2,e3,e4⟩
 ·exact .inl h
 ·refine .inr ⟨g,cap,cur,e1,e2,?_,e4⟩
  have hg:g < w.heap.size:=by
   rcases Nat.lt_or_ge g w.heap.size with h | h
   ·exact h
   ·rw [Array.getElem?_eq_none h] at e3; cases e3
  rw [hb.block g hg]; exact e3
theorem KeptB.refl (N b:Nat) (w:World):KeptB N b w w:=⟨Below.refl _ _,fun _ _ _=>rfl⟩
theorem KeptB.trans {N b:Nat} {w w1 w2:World} (h:KeptB N b w w1) (h':KeptB N b w1 w2):KeptB N b w w2 :=
 ⟨h.1.trans h'.1,fun g h1 h2=>(h'.2 g h1 h2).trans (h.2 g h1 h2)⟩
theorem KeptB.below {N b:Nat} {w w1 w2:World} (h:KeptB N b w w1) (hN:N≤w1.heap.size) (hbN:b < N) (h':Below w1.heap.size w1 w2):KeptB N b w w2 :=
 ⟨h.1.trans (h'.mono (by omega)),fun g h1 h2=>by rw [h'.block g (by omega)]; exact h.2 g h1 h2⟩
theorem copyCheckB (N b:Nat) (bs:List Value) (w0:World) (h0:BuildS N b bs w0) :
  Calls Tryd.prog 62 #[.pointer (some ⟨b,0,none⟩)] w0 fun e w'=>e = .returned (.tuple #[])∧(∃ v,w'.heap[b]? = some (.cells #[.pointer (some ⟨b,0,none⟩),v] 85 (0,0))∧w'.ownsRow N 5 1 v bs.length bs)∧N≤w'.heap.size∧KeptB N b w0 w'∧∀ g o,g ≠ b->w'.cell? ⟨g,o,none⟩ = w0.cell? ⟨g,o,none⟩:=by
 obtain ⟨q1,q2,p,v,q3,q4,q5⟩:=h0
 have hi:∀ p,w0.heap[b]? = some (.cells #[p,v] 85 (0,0))->Lib.BuilderAt 85 5 b b p bs w0:=fun p hp=>⟨Nat.le_refl _,v,hp,own_weak q5 (by omega),own_ne q5 q1⟩
 rcases q3 with rfl | rfl
 ·have hi:=hi _ q4
  refine (Any.Builder_copyCheck_fresh laysCC extraB.toX72 b w0 hi.cell0 hi.shape hi.frozen0).mono ?_
  rintro e w' ⟨rfl,rfl⟩
  refine ⟨rfl,⟨v,?_,own_set q5 q1⟩,by simpa [World.setCell] using q2,⟨(Below.refl b w0).setCell (p:=⟨b,0,none⟩) (Nat.le_refl _) _,fun g hg hgb=>Below.heap_setCell _ _ _ _ (fun e=>hgb e)⟩,fun g o hg=>World.cell?_setCell_other _ _ _ _ (fun e=>hg (by cases e; rfl))⟩
  simp [World.setCell,Array.getElem?_modify,q4]
 ·have hi:=hi _ q4
  refine (Any.Builder_copyCheck_used laysCC extraB.toX72 b w0 hi.cell0).mono ?_
  rintro e w' ⟨rfl,rfl⟩
  exact ⟨rfl,⟨v,q4,q5⟩,q2,KeptB.refl _ _ _,fun _ _ _=>rfl⟩
/-- the builder's new bytes laid into it -/
theorem BuildS.put {N b:Nat} {bs':List Value} {w:World} {p v v':Value} (h1:b < N) (h2:N≤w.heap.size) (hp:p = .pointer none∨p = .pointer (some ⟨b,0,none⟩)) (hb:w.heap[b]? = some (.cells #[p,v] 85 (0,0))) (ho:w.ownsRow N 5 1 v' bs'.length bs') :
  BuildS N b bs' (w.setCell ⟨b,1,none⟩ v'):=by
 refine ⟨h1,by simpa [World.setCell] using h2,p,v',hp,?_,own_set ho h1⟩
 simp [World.setCell,Array.getElem?_modify,hb]
set_option maxHeartbeats 2000000 in
theorem writeB (N b:Nat) (bs:List Value) (bk o n cap:Nat) (xs:List Value) (w:World) (h:BuildS N b bs w) (hlen:bs.length + xs.length≤140737488355328) (hn:xs.length = n) (hp:0 < n)
  (hbb:bk ≠ b) (hx:∀ (j:Nat) (u:Value),xs[j]? = some u->w.cell? ⟨bk,o + j,none⟩ = some u) (hone:∀ u,u ∈ xs->u.oneCell' = true) :
  Calls Tryd.prog 47 #[.pointer (some ⟨b,0,none⟩),.slice (some ⟨bk,o,none⟩) n cap] w fun e w'=>e = .returned (.tuple #[.int .i64 n,.nilIface])∧BuildS N b (bs ++ xs) w'∧KeptB N b w w':=by
 have hN:=h.1
 obtain ⟨i0,hi,hz0,hz1,hz2⟩:=info_parts extraB.infoByte
 go_enter Tryd.func47,Tryd.ntmps47
 go_wp2_with fail
 refine (copyCheckB N b bs _ h).mono ?_
 rintro e w1 ⟨rfl,⟨v,hbk',hown⟩,hN1,hk1,hc1⟩
 have c0:w1.cell? ⟨b,0,none⟩ = some (.pointer (some ⟨b,0,none⟩)):=by rw [Lib.cell_of_heap hbk']; rfl
 have c1:w1.cell? ⟨b,1,none⟩ = some v:=by rw [Lib.cell_of_heap hbk']; rfl
 go_wp2_with (at_builtin; refine wpList_append_own _ rfl _ _ 68 rfl N 5 i0 (.int .u8 0) 1 1 Tryd.underlying68 hi hz0 hz1 hz2 rfl (by decide) _ _ _ rfl hown ⟨bk,o,none⟩ n cap xs rfl (by omega) ?c1 ?c2 ?c3 ?c4 ?c5 ?_)
 case c1 =>
  intro j u hj
  have hplain:(⟨bk,o,none⟩:Addr).add j = ⟨bk,o + j,none⟩:=by unfold Addr.add; split <;> simp_all
  rw [hplain,hc1 _ _ hbb]
  exact hx j u hj
 case c2=>exact hone
 case c3=>unfold maxLen; omega
 case c4=>omega
 case c5=>exact hN1
 intro v' w2 hown' hgrow _
 have hlt:b < w1.heap.size:=by omega
 have hb2:w2.heap[b]? = some (.cells #[.pointer (some ⟨b,0,none⟩),v] 85 (0,0)):=by
  rw [hgrow.block b hlt (fun e=>own_ne hown hN e.symm)]
  exact hbk'
 have d0:w2.cell? ⟨b,0,none⟩ = some (.pointer (some ⟨b,0,none⟩)):=by rw [Lib.cell_of_heap hb2]; rfl
 have d1:w2.cell? ⟨b,1,none⟩ = some v:=by rw [Lib.cell_of_heap hb2]; rfl
 have f1:w2.frozen? ⟨b,1,none⟩ = false:=Lib.frozen_of_heap hb2 1
 have hN2:N≤w2.heap.size:=Nat.le_trans hN1 hgrow.size
 obtain ⟨g,cap2,rfl⟩:∃ g cap2,v' = .slice (some ⟨g,0,none⟩) (bs.length + n) cap2:=by
  rcases hown'.2 with ⟨_,h0⟩ | ⟨g,cap,cur,hv,_⟩
  ·omega
  ·exact ⟨g,cap,hv⟩
 go_wp2
 go_ret2
 refine ⟨rfl,BuildS.put hN hN2 (.inr rfl) hb2 (bs':=bs ++ xs) (by rw [List.length_append,hn]; exact hown'),?_,fun q hq hqb=>?_⟩
 ·exact (hk1.1.grown hgrow (by omega) (fun k hk=>by have:=(hown.lt k hk).1; omega)).setCell (p:=⟨b,1,none⟩) (Nat.le_refl _) _
 ·rw [Below.heap_setCell _ _ _ _ (fun e=>hqb e),hgrow.block q (by omega) (fun e=>own_ne hown hq e.symm)]
  exact hk1.2 q hq hqb
set_option maxHeartbeats 2000000 in
theorem writeByteB (N b:Nat) (bs:List Value) (c:Int) (w:World) (h:BuildS N b bs w) (hlen:bs.length + 1≤140737488355328) :
  Calls Tryd.prog 46 #[.pointer (some ⟨b,0,none⟩),.int .u8 c] w fun e w'=>e = .returned .nilIface∧BuildS N b (bs ++ [.int .u8 c]) w'∧KeptB N b w w':=by
 have hN:=h.1
 obtain ⟨i0,hi,hz0,hz1,hz2⟩:=info_parts extraB.infoByte
 go_enter Tryd.func46,Tryd.ntmps46
 go_wp2_with fail
 refine (copyCheckB N b bs _ h).mono ?_
 rintro e w1 ⟨rfl,⟨v,hbk',hown⟩,hN1,hk1,hc1⟩
 have c0:w1.cell? ⟨b,0,none⟩ = some (.pointer (some ⟨b,0,none⟩)):=by rw [Lib.cell_of_heap hbk']; rfl
 have c1:w1.cell? ⟨b,1,none⟩ = some v:=by rw [Lib.cell_of_heap hbk']; rfl
 go_wp2_with (at_builtin; refine wpList_append_own _ rfl _ _ 68 rfl N 5 i0 (.int .u8 0) 1 1 Tryd.underlying68 hi hz0 hz1 hz2 rfl (by decide) _ _ _ rfl (hown.alloc _) ⟨w1.heap.size,0,none⟩ 1 1 [.int .u8 c] rfl rfl ?c1 ?c2 ?c3 ?c4 ?c5 ?_)
 case c1 =>
  intro j u hj
  match j,hj with
  | 0,hj=>simp at hj; subst hj; simp [Addr.add]
 case c2=>intro u hu; simp at hu; subst hu; rfl
 case c3=>unfold maxLen; omega
 case c4=>omega
 case c5=>simp; omega
 intro v' w2 hown' hgrow _
 have hlt:b < w1.heap.size:=by omega
 have hb2:w2.heap[b]? = some (.cells #[.pointer (some ⟨b,0,none⟩),v] 85 (0,0)):=by
  rw [hgrow.block b (by simp; omega) (fun e=>own_ne hown hN e.symm),Lib.alloc_old w1 _ b hlt]
  exact hbk'
 have d0:w2.cell? ⟨b,0,none⟩ = some (.pointer (some ⟨b,0,none⟩)):=by rw [Lib.cell_of_heap hb2]; rfl
 have d1:w2.cell? ⟨b,1,none⟩ = some v:=by rw [Lib.cell_of_heap hb2]; rfl
 have f1:w2.frozen? ⟨b,1,none⟩ = false:=Lib.frozen_of_heap hb2 1
 have hN2:N≤w2.heap.size:=by have:=hgrow.size; simp at this; omega
 obtain ⟨g,cap2,rfl⟩:∃ g cap2,v' = .slice (some ⟨g,0,none⟩) (bs.length + 1) cap2:=by
  rcases hown'.2 with ⟨_,h0⟩ | ⟨g,cap,cur,hv,_⟩
  ·omega
  ·exact ⟨g,cap,hv⟩
 go_wp2
 go_ret
 refine ⟨rfl,BuildS.put hN hN2 (.inr rfl) hb2 (bs':=bs ++ [.int .u8 c]) (by simpa using hown'),?_,fun q hq hqb=>?_⟩
 ·exact ((hk1.1.alloc (by omega) _).grown hgrow (by simp; omega) (fun k hk=>by have:=(hown.lt k hk).1; omega)).setCell (p:=⟨b,1,none⟩) (Nat.le_refl _) _
 ·rw [Below.heap_setCell _ _ _ _ (fun e=>hqb e),hgrow.block q (by simp; omega) (fun e=>own_ne hown hq e.symm),Lib.alloc_old w1 _ q (by omega)]
  exact hk1.2 q hq hqb
theorem stringB (N b:Nat) (l:List UInt8) (w:World) (h:BuildS N b (Lib.byteCells l) w) :
  Calls Tryd.prog 43 #[.pointer (some ⟨b,0,none⟩)] w fun e w'=>e = .returned (.string ⟨l.toArray⟩)∧Below b w w' :=
 Tryd.Builder_String_any b b l w h.is (by have:=h.1; have:=h.2.1; omega)
end
section
/-
 Layer 6: a text as a word,over the model itself.
-/
open Go.RowKit
def hexD (n:Nat):UInt8:=hexL.getD n 0
def quoteL:List UInt8->List UInt8
 | []=>[]
 | c :: l=>(if plainB c then [c] else [37,hexD (c.toNat / 16),hexD (c.toNat % 16)]) ++ quoteL l
theorem quoteL_app:∀ (l m:List UInt8),quoteL (l ++ m) = quoteL l ++ quoteL m
 | [],m=>rfl
 | c :: l,m=>by
  rw [List.cons_append,quoteL,quoteL,quoteL_app l m,List.append_assoc]
theorem quoteL_one (c:UInt8):quoteL [c] = if plainB c then [c] else [37,hexD (c.toNat / 16),hexD (c.toNat % 16)]:=by
 rw [quoteL,quoteL,List.append_nil]
theorem quoteL_len:∀ l:List UInt8,(quoteL l).length≤3 * l.length
 | []=>Nat.le_refl _
 | c :: l=>by
  have:=quoteL_len l
  rw [quoteL,List.length_append,List.length_cons]
  split <;> simp <;> omega
def quoteF (s:ByteArray):ByteArray:=if s.size = 0 then ⟨#[45]⟩ else ⟨(quoteL s.data.toList).toArray⟩
theorem plain_any (c:UInt8) (w:World) (hG:Glob w):Calls Tryd.prog 45 #[.int .u8 (c.toNat:Int)] w fun e w'=>e = .returned (.bool (plainB c))∧Below w.heap.size w w':=by
 have:=(plain_ok c).calls w (fun _ _=>False) [.int .u8 (c.toNat:Int)] hG (fun _ _ h=>h.elim) rfl (fun j d u hj hu=>by
  cases j with
  | zero=>cases hj; cases hu; exact .int _ _
  | succ j=>simp at hj)
 refine this.mono fun e w' ⟨u,he,hb,hr⟩=>?_
 have hr':VR _ w' (.bool (plainB c)) u:=hr
 cases hr'
 exact ⟨he,hb⟩
theorem hexB (n:Nat) (h:n < 16):({ data:=#[48,49,50,51,52,53,54,55,56,57,97,98,99,100,101,102] }:ByteArray)[n]'h = hexD n:=by
 have:∀ i:Fin 16,({ data:=#[48,49,50,51,52,53,54,55,56,57,97,98,99,100,101,102] }:ByteArray)[i.val]'(i.isLt) = hexD i.val:=by decide +kernel
 exact this ⟨n,h⟩
theorem and15 (c:UInt8):bits BinOp.and IntKind.u8 (c.toNat:Int) 15 = (c.toNat:Int) % 16:=by
 have h:∀ n:Fin 256,bits BinOp.and IntKind.u8 (n.val:Int) 15 = (n.val:Int) % 16:=by decide +kernel
 exact h ⟨c.toNat,c.toNat_lt⟩
set_option maxRecDepth 100000 in
set_option maxHeartbeats 2000000 in
theorem quote_any (s:ByteArray) (w:World) (hG:Glob w) (hs:s.size≤1000000):Calls Tryd.prog 24 #[.string s] w fun e w'=>e = .returned (.string (quoteF s))∧Below w.heap.size w w':=by
 by_cases h0:s.size = 0
 ·have he:s = ⟨#[]⟩:=by cases s; congr 1; exact Array.eq_empty_of_size_eq_zero h0
  subst he
  go_enter Tryd.func24,Tryd.ntmps24
  go_wp2_with fail
  go_ret
  exact ⟨rfl,Below.refl _ _⟩
 ·have he:s.toList.isEmpty = false:=by
   have:=bytes_nil (s:=s)
   rw [show ((ByteArray.mk #[]).toList) = [] by rw [ByteArray.toList_eq]] at this
   cases hq:s.toList with
   | nil =>
    rw [hq,show decide (s.size = 0) = false by simpa using h0] at this
    simp at this
   | cons c l=>rfl
  have hL:s.data.toList.length = s.size:=by rw [Array.length_toList]; rfl
  obtain ⟨b,hb⟩:∃ b,w.heap.size = b:=⟨_,rfl⟩
  obtain ⟨W1,hW1⟩:∃ W1,w.alloc (.cells #[.pointer none,.slice none 0 0] 85) = W1:=⟨_,rfl⟩
  have hconv:=run_bytes_of_string (P:=Tryd.prog) W1 9 68 5 s Tryd.underlying9 Tryd.underlying68 Tryd.underlying5
  have hs1:W1.heap.size = b + 1:=by rw [← hW1,← hb]; simp
  obtain ⟨cp,hcp⟩:∃ cp,grownCap W1 s.size 0 5 = cp:=⟨_,rfl⟩
  rw [hcp,hs1] at hconv
  have hcp1:s.size≤cp:=by rw [← hcp]; exact grownCap_ge _ _ _ _
  have hcp2:cp≤maxLen:=by rw [← hcp]; exact grownCap_le_maxLen _ _ _ _ (by unfold maxLen; omega)
  obtain ⟨W2,hW2⟩:∃ W2,W1.drew.alloc (.cells (bytesRow s cp) 5 ((bytesRow s cp).size,(bytesRow s cp).size + 1)) = W2:=⟨_,rfl⟩
  rw [hW2] at hconv
  have hs2:W2.heap.size = b + 2:=by rw [← hW2]; simp [hs1]
  have hbW:Hid (Below b w W2):=by
   rw [← hW2,← hW1]
   exact (((Below.refl b w).alloc (by omega) _).drew).alloc (by simp; omega) _
  have hB0:Hid (BuildS (b + 2) b (Lib.byteCells (quoteL (s.data.toList.take 0))) W2):=by
   refine ⟨by omega,by omega,.pointer none,.slice none 0 0,.inl rfl,?_,⟨rfl,.inl ⟨rfl,rfl⟩⟩⟩
   have e1:W1.heap[b]? = some (.cells #[.pointer none,.slice none 0 0] 85 (0,0)):=by rw [← hW1,← hb]; exact heap_alloc_new w _
   rw [← hW2]
   exact (Lib.alloc_old W1.drew _ b (by simp [hs1])).trans e1
  have hcells:Hid (∀ (k:Nat) (c:UInt8),s.data.toList[k]? = some c->∀ wr:World,wr.heap[b + 1]? = W2.heap[b + 1]?->wr.cell? ⟨b + 1,k,none⟩ = some (.int .u8 (c.toNat:Int))):=by
   intro k c hk wr hwr
   have e2:=World.cell?_alloc_mark W1.drew (bytesRow s cp) 5 ((bytesRow s cp).size,(bytesRow s cp).size + 1) k
   rw [show W1.drew.heap.size = b + 1 from hs1,hW2] at e2
   have e3:wr.cell? ⟨b + 1,k,none⟩ = W2.cell? ⟨b + 1,k,none⟩:=by simp only [World.cell?,hwr]
   rw [e3,e2]
   have hk':k < s.data.size:=(List.getElem?_eq_some_iff.1 hk).1
   unfold bytesRow
   rw [Array.getElem?_append_left (by simpa using hk'),Array.getElem?_map]
   rw [Array.getElem?_toList] at hk
   rw [hk]; rfl
  have hGH:=Lib.hid hG
  have hLL:=Lib.hid hL
  have hSS:=Lib.hid hs2
  clear hG hL hcp hs1 hs2 hcp2
  go_enter Tryd.func24,Tryd.ntmps24
  go_wp2_with fail
  go_loopw [11] (fun j wr=>∃ k:Nat,j = .int .i64 k∧k≤s.size∧Hid (BuildS (b + 2) b (Lib.byteCells (quoteL (s.data.toList.take k))) wr)∧Hid (KeptB (b + 2) b W2 wr)) (fun j _=>s.size - (intOf j).toNat)
  case atStart=>exact ⟨0,rfl,Nat.zero_le _,hB0,KeptB.refl _ _ _⟩
  case round =>
   obtain ⟨k,rfl,hk,HB,HK⟩:=hrel
   have HG:Hid (Glob wr):=hGH.out.below (by rw [hb]; exact hbW.out.trans (HK.out.1))
   by_cases hlt:k < s.size
   ·obtain ⟨c,hc⟩:∃ c,s.data.toList[k]? = some c:=⟨_,List.getElem?_eq_getElem (by rw [hLL.out]; exact hlt)⟩
    have hcell:=hcells.out k c hc wr (HK.out.2 (b + 1) (by omega) (by omega))
    have hq:Hid (quoteL (s.data.toList.take (k + 1)) = quoteL (s.data.toList.take k) ++ (if plainB c then [c] else [37,hexD (c.toNat / 16),hexD (c.toNat % 16)])):=by
     show _ = _
     rw [List.take_add_one,hc]
     rw [quoteL_app]; congr 1; exact quoteL_one c
    have hlen:Hid ((Lib.byteCells (quoteL (s.data.toList.take k))).length≤3000000):=by
     show _≤_
     rw [Lib.byteCells_length]
     have h1:=quoteL_len (s.data.toList.take k)
     have h2:(s.data.toList.take k).length≤s.size:=by rw [List.length_take,hLL.out]; omega
     omega
    have HC:=Lib.hid hc
    clear hc
    go_wp2_with fail
    refine (plain_any c _ HG.out).mono ?_
    rintro e w1 ⟨rfl,hb1⟩
    have HB1:Hid (BuildS (b + 2) b (Lib.byteCells (quoteL (s.data.toList.take k))) w1):=HB.out.below hb1
    have HK1:Hid (KeptB (b + 2) b W2 w1):=HK.out.below HB.out.2.1 (by omega) hb1
    clear hb1 hcell
    cases hp:plainB c with
    | true =>
     go_wp2_with fail
     refine (writeByteB (b + 2) b _ (c.toNat:Int) _ HB1.out (by have:=hlen.out; omega)).mono ?_
     rintro e w2 ⟨rfl,h2,h3⟩
     have HB2:Hid (BuildS (b + 2) b (Lib.byteCells (quoteL (s.data.toList.take (k + 1)))) w2):=by
      have e:Lib.byteCells (quoteL (s.data.toList.take (k + 1))) = Lib.byteCells (quoteL (s.data.toList.take k)) ++ [.int .u8 (c.toNat:Int)]:=by
       rw [hq.out,hp,if_pos rfl]; simp [Lib.byteCells]
      show BuildS _ _ _ _
      rw [e]; exact h2
     have HK2:Hid (KeptB (b + 2) b W2 w2):=HK1.out.trans h3
     clear h2 h3
     go_wp2_with fail
     go_roundw
     case rel=>exact ⟨k + 1,by go_num,by omega,HB2,HK2⟩
     case measure=>simp [intOf]; omega
    | false =>
     go_wp2_with fail
     have hd0:(0:Int)≤(c.toNat:Int) / 16:=by omega
     have hd1:(c.toNat:Int) / 16 < 16:=by have:=c.toNat_lt; omega
     have hd2:=and15 c
     have hd3:(0:Int)≤(c.toNat:Int) % 16:=by omega
     have hd4:(c.toNat:Int) % 16 < 16:=by omega
     go_still_tail 6,(by kernel_rfl)
     change wpList _ _ _ _ _ w1.drew
     have HB2:Hid (BuildS (b + 2) b (Lib.byteCells (quoteL (s.data.toList.take k))) w1.drew):=HB1.out.below (Below.refl _ _).drew
     have HK2:Hid (KeptB (b + 2) b W2 w1.drew):=HK1.out.below HB1.out.2.1 (by omega) (Below.refl _ _).drew
     generalize w1.drew = w2 at *
     go_wp2_with fail
     have hba:∀ o,Below w2.heap.size w2 (w2.alloc o):=fun o=>(Below.refl _ _).alloc (Nat.le_refl _) o
     have hw2:b + 2≤w2.heap.size:=HB2.out.2.1
     refine (writeB (b + 2) b _ w2.heap.size 0 3 3 [.int .u8 37,.int .u8 ((hexD (c.toNat / 16)).toNat:Int),.int .u8 ((hexD (c.toNat % 16)).toNat:Int)] _ (HB2.out.below (hba _)) (by have:=hlen.out; simp; omega) rfl (by omega) (by omega) (fun j u hj=>?_) (fun u hu=>by simp at hu; rcases hu with rfl | rfl | rfl <;> rfl)).mono ?_
     ·have hcell:=fun C=>World.cell?_alloc_mark w2 C 5 (0,0) j
      rw [Nat.zero_add]
      refine (hcell _).trans ?_
      have hc:=c.toNat_lt
      match j,hj with
      | 0,hj=>exact hj
      | 1,hj=>rw [← hj]; simp [hexB _ (show c.toNat / 16 < 16 by omega)]
      | 2,hj=>rw [← hj]; simp [hexB _ (show c.toNat % 16 < 16 by omega)]
     rintro e w3 ⟨rfl,h2,h3⟩
     have HB3:Hid (BuildS (b + 2) b (Lib.byteCells (quoteL (s.data.toList.take (k + 1)))) w3):=by
      have e:Lib.byteCells (quoteL (s.data.toList.take (k + 1))) = Lib.byteCells (quoteL (s.data.toList.take k)) ++ [.int .u8 37,.int .u8 ((hexD (c.toNat / 16)).toNat:Int),.int .u8 ((hexD (c.toNat % 16)).toNat:Int)]:=by
       rw [hq.out,hp,if_neg (by simp)]; simp [Lib.byteCells]
      show BuildS _ _ _ _
      rw [e]; exact h2
     have HK3:Hid (KeptB (b + 2) b W2 w3):=(HK2.out.below hw2 (by omega) (hba _)).trans h3
     clear h2 h3
     go_wp2_with fail
     go_roundw
     case rel=>exact ⟨k + 1,by go_num,by omega,HB3,HK3⟩
     case measure=>simp [intOf]; omega
   ·have hk2:k = s.size:=by omega
    have hall:Hid (s.data.toList.take s.size = s.data.toList):=List.take_of_length_le (by rw [hLL.out]; exact Nat.le_refl _)
    go_wp2_with fail
    refine (stringB (b + 2) b (quoteL (s.data.toList.take k)) _ HB.out).mono ?_
    rintro e w1 ⟨rfl,hb1⟩
    go_wp2_with fail
    go_ret
    refine ⟨?_,?_⟩
    ·show Ending.returned (Value.string ⟨(quoteL (s.data.toList.take s.size)).toArray⟩) = _
     rw [hall.out]; unfold quoteF; rw [if_neg h0]
    ·rw [hb]; exact (hbW.out.trans HK.out.1).trans hb1
theorem quote_ok (s:ByteArray) (hs:s.size≤1000000):AFn Tryd.prog 24 [.str s] (.str (quoteF s)) :=
 .flat1 (by kernel_rfl) str_flat (fun _ _ _=>.str _) fun w hG=>quote_any s w hG hs
end
section
/-
 The chapter's examples of layer 6,and the law PackTexts.
-/
open Go.RowKit
theorem bext7 {a b:ByteArray} (h:a.data.toList = b.data.toList):a = b:=by
 cases a; cases b; congr 1; exact Array.ext' h
theorem ext_list (s:ByteArray) (i j:Nat):(s.extract i j).data.toList = (s.data.toList.take j).drop i:=by
 rw [ByteArray.data_extract,Array.toList_extract,List.extract_eq_take_drop,List.drop_take]
theorem run_args {f:FuncId} {w:World} {ds:List AV} {vs:List Value} (hG:Glob w) (hl:ds.length = vs.length) (h:∀ (j:Nat) (d:AV) (u:Value),ds[j]? = some d->vs[j]? = some u->VR (fun b _=>b < w.heap.size) w d u) (hA:AFn Tryd.prog f ds (.bool true)) :
  Calls Tryd.prog f ⟨vs⟩ w fun e w'=>e = .returned (.bool true)∧Below w.heap.size w w':=by
 have:=hA.calls w (fun b _=>b < w.heap.size) vs hG (fun b o hb=>hb) hl h
 refine this.mono fun e w' ⟨u,he,hb,hr⟩=>?_
 have hr':VR (fun b o=>(fun b _=>b < w.heap.size) b o∨w.heap.size≤b) w' (.bool true) u:=hr
 cases hr'
 exact ⟨he,hb⟩
end
section
/-
 Layer 6: words and texts,in plain lists.
-/
open Go.RowKit
def uqL:List UInt8->Option (List UInt8)
 | []=>some []
 | c :: l=>if plainB c then (uqL l).map (c :: ·) else if c ≠ 37 then none else match l with
  | a :: b :: m=>if digF a < 0∨digF b < 0 then none else if plainB (hexV a b) then none else (uqL m).map (hexV a b :: ·)
  | _=>none
theorem uqL_cons (c:UInt8) (l:List UInt8):uqL (c :: l) = if plainB c then (uqL l).map (c :: ·) else if c ≠ 37 then none else match l with
  | a :: b :: m=>if digF a < 0∨digF b < 0 then none else if plainB (hexV a b) then none else (uqL m).map (hexV a b :: ·)
  | _=>none:=by
 match l with
 | []=>rfl
 | [_]=>rfl
 | _ :: _ :: _=>rfl
theorem forall_u8 {p:UInt8->Prop} (h:∀ n:Fin 256,p (UInt8.ofFin n)) (c:UInt8):p c:=by
 have:=h c.toFin
 simpa using this
theorem plain37:plainB 37 = false:=by decide +kernel
theorem dig_hi:∀ c:UInt8,digF (hexD (c.toNat / 16)) = ((c.toNat / 16:Nat):Int):=forall_u8 (by decide +kernel)
theorem dig_lo:∀ c:UInt8,digF (hexD (c.toNat % 16)) = ((c.toNat % 16:Nat):Int):=forall_u8 (by decide +kernel)
theorem hexV_of (c:UInt8):hexV (hexD (c.toNat / 16)) (hexD (c.toNat % 16)) = c:=by
 unfold hexV
 rw [dig_hi,dig_lo]
 have hc:=c.toNat_lt
 rw [show (((c.toNat / 16:Nat):Int) * 16 + ((c.toNat % 16:Nat):Int)).toNat = c.toNat by omega]
 simp
theorem uq_quote:∀ l:List UInt8,uqL (quoteL l) = some l
 | []=>rfl
 | c :: l=>by
  rw [quoteL]
  cases hp:plainB c with
  | true =>
   rw [if_pos rfl,List.singleton_append,uqL_cons,hp,if_pos rfl,uq_quote l]; rfl
  | false =>
   rw [if_neg (by simp)]
   show uqL (37 :: hexD (c.toNat / 16) :: hexD (c.toNat % 16) :: quoteL l) = _
   rw [uqL_cons,plain37,if_neg (by simp),if_neg (by simp)]
   simp only
   rw [if_neg (by rw [dig_hi,dig_lo]; omega),hexV_of,hp,if_neg (by simp),uq_quote l]; rfl
theorem ba_ext {a b:ByteArray} (h:a.data.toList = b.data.toList):a = b:=by
 cases a; cases b; congr 1; exact Array.ext' h
theorem quoteF_list (s:ByteArray):(quoteF s).data.toList = if s.data.toList = [] then [45] else quoteL s.data.toList:=by
 have hL:s.data.toList.length = s.size:=by rw [Array.length_toList]; rfl
 unfold quoteF
 by_cases h:s.size = 0
 ·rw [if_pos h,if_pos (List.eq_nil_of_length_eq_zero (by omega))]
 ·rw [if_neg h,if_neg (fun e=>h (by rw [← hL,e]; rfl))]
theorem quoteL_nil {l:List UInt8} (h:quoteL l = []):l = []:=by
 have:=uq_quote l
 rw [h] at this
 simp [uqL] at this
 exact this
end
section
/-
 Layer 6: the document's Quote and Unquote,and the law PackQuotes.
-/
open Go.RowKit
attribute [local go_sem ↓] runOp headOp
/-! ### percolate/percolateref06.Quote -/
def r_rQuote_0:Reg:=⟨[],[⟨.mv (.c (.str ⟨#[]⟩)),some 2,none,[],[]⟩],[],[],false⟩
def r_rQuote_1:Reg:=⟨[],[⟨.mv (.c (.str ⟨#[48,49,50,51,52,53,54,55,56,57,97,98,99,100,101,102]⟩)),some 3,none,[],[]⟩],[],[],false⟩
def r_rQuote_2:Reg:=⟨[],[⟨.mv (.c (.str ⟨#[]⟩)),some 4,none,[],[]⟩],[],[],false⟩
def r_rQuote_3:Reg:=⟨[],[⟨.mv (.c (.int .i64 0)),some 5,none,[],[]⟩],[],[],false⟩
def t_rQuote_4:List ROp:=[⟨.mv (.t 5),some 6,none,[],[]⟩,⟨.mv (.t 0),some 7,none,[],[]⟩,⟨.len true (.t 7),some 8,none,[],[]⟩,⟨.bin .lss (.t 6) (.t 8),some 9,none,[],[]⟩]
def r_rQuote_4:Reg:=⟨[],t_rQuote_4,[],[],false⟩
def t_rQuote_5:List ROp:=[⟨.mv (.t 0),some 12,none,[15],[]⟩,⟨.mv (.t 5),some 13,none,[15],[]⟩,⟨.idx (.t 12) (.t 13),some 14,none,[15],[]⟩,⟨.callv (.c (.clo 34 [] [])) [(.t 14)],some 15,none,[],[]⟩]
def r_rQuote_5:Reg:=⟨[],t_rQuote_5,[15],[],false⟩
def t_rQuote_6:List ROp:=[⟨.mv (.t 4),some 16,none,[],[]⟩,⟨.mv (.t 0),some 17,none,[],[]⟩,⟨.mv (.t 5),some 18,none,[],[]⟩,⟨.mv (.t 5),some 19,none,[],[]⟩,⟨.bin .add (.t 19) (.c (.int .i64 1)),some 20,none,[],[]⟩,⟨.slc true 0 (.t 17) (some (.t 18)) (some (.t 20)),some 21,none,[],[]⟩,⟨.bin .add (.t 16) (.t 21),some 22,none,[],[]⟩,⟨.mv (.t 22),some 4,none,[],[]⟩]
def r_rQuote_6:Reg:=⟨[],t_rQuote_6,[],[],false⟩
def h_rQuote_7:List ROp:=[⟨.mv (.t 4),some 23,none,[],[]⟩,⟨.mv (.t 3),some 24,none,[],[]⟩,⟨.mv (.t 0),some 25,none,[],[]⟩,⟨.mv (.t 5),some 26,none,[],[]⟩,⟨.idx (.t 25) (.t 26),some 27,none,[],[]⟩,⟨.bin .quo (.t 27) (.c (.int .u8 16)),some 28,none,[],[]⟩,⟨.mv (.t 0),some 29,none,[],[]⟩,⟨.mv (.t 5),some 30,none,[],[]⟩,⟨.idx (.t 29) (.t 30),some 31,none,[],[]⟩,⟨.bin .quo (.t 31) (.c (.int .u8 16)),some 32,none,[],[]⟩,⟨.bin .add (.t 32) (.c (.int .u8 1)),some 33,none,[],[]⟩,⟨.slc true 0 (.t 24) (some (.t 28)) (some (.t 33)),some 34,none,[],[]⟩,⟨.bin .add (.c (.str ⟨#[37]⟩)) (.t 34),some 35,none,[],[]⟩,⟨.mv (.t 3),some 36,none,[],[]⟩,⟨.mv (.t 0),some 37,none,[],[]⟩,⟨.mv (.t 5),some 38,none,[],[]⟩,⟨.idx (.t 37) (.t 38),some 39,none,[],[]⟩,⟨.bin .rem (.t 39) (.c (.int .u8 16)),some 40,none,[],[]⟩,⟨.mv (.t 0),some 41,none,[],[]⟩,⟨.mv (.t 5),some 42,none,[],[]⟩,⟨.idx (.t 41) (.t 42),some 43,none,[],[]⟩,⟨.bin .rem (.t 43) (.c (.int .u8 16)),some 44,none,[],[]⟩,⟨.bin .add (.t 44) (.c (.int .u8 1)),some 45,none,[],[]⟩,⟨.slc true 0 (.t 36) (some (.t 40)) (some (.t 45)),some 46,none,[],[]⟩,⟨.bin .add (.t 35) (.t 46),some 47,none,[],[]⟩]
def r_rQuote_7:Reg:=⟨h_rQuote_7,[⟨.bin .add (.t 23) (.t 47),some 48,none,[],[]⟩,⟨.mv (.t 48),some 4,none,[],[]⟩],[],[],true⟩
def t_rQuote_8:List ROp:=[⟨.mv (.t 5),some 10,none,[],[]⟩,⟨.bin .add (.t 10) (.c (.int .i64 1)),some 11,none,[],[]⟩,⟨.mv (.t 11),some 5,none,[],[]⟩]
def r_rQuote_8:Reg:=⟨[],t_rQuote_8,[],[],false⟩
def r_rQuote_l9:IR:=(.seq (.seq (.reg r_rQuote_4)
 (.cond (.t 9) .skip
 (.exit 0)))
 (.seq (.block 1 (.seq (.reg r_rQuote_5)
 (.cond (.t 15) (.reg r_rQuote_6)
 (.reg r_rQuote_7))))
 (.reg r_rQuote_8)))
def r_rQuote_10:Reg:=⟨[],[⟨.mv (.t 4),some 49,none,[],[]⟩,⟨.bin .eql (.t 49) (.c (.str ⟨#[]⟩)),some 50,none,[],[]⟩],[],[],false⟩
def r_rQuote_11:Reg:=⟨[],[⟨.mv (.c (.str ⟨#[45]⟩)),some 2,none,[],[]⟩],[],[],false⟩
def r_rQuote_12:Reg:=⟨[],[⟨.mv (.t 4),some 51,none,[],[]⟩,⟨.mv (.t 51),some 2,none,[],[]⟩],[],[],false⟩
def ir_rQuote:IR:=(.seq (.reg r_rQuote_0)
 (.seq (.reg r_rQuote_1)
 (.seq (.reg r_rQuote_2)
 (.seq (.seq (.reg r_rQuote_3)
 (.block 0 (.loop r_rQuote_l9)))
 (.seq (.seq (.reg r_rQuote_10)
 (.cond (.t 50) (.seq (.reg r_rQuote_11)
 .ret)
 .skip))
 (.seq (.reg r_rQuote_12)
 .ret))))))
def res_rQuote:List RDesc:=[(.tmp 2)]
theorem e_rQuote_0:EqR r_rQuote_0 [⟨.mv (.c (.str ⟨#[]⟩)),some 2,none,[],[]⟩] []:=fun _ _ _=>rfl
theorem e_rQuote_1:EqR r_rQuote_1 [⟨.mv (.c (.str ⟨#[48,49,50,51,52,53,54,55,56,57,97,98,99,100,101,102]⟩)),some 3,none,[],[]⟩] []:=fun _ _ _=>rfl
theorem e_rQuote_2:EqR r_rQuote_2 [⟨.mv (.c (.str ⟨#[]⟩)),some 4,none,[],[]⟩] []:=fun _ _ _=>rfl
theorem e_rQuote_3:EqR r_rQuote_3 [⟨.mv (.c (.int .i64 0)),some 5,none,[],[]⟩] []:=fun _ _ _=>rfl
theorem e_rQuote_4:EqR r_rQuote_4 t_rQuote_4 []:=fun _ _ _=>rfl
theorem e_rQuote_5:EqR r_rQuote_5 t_rQuote_5 [15]:=fun _ _ _=>rfl
theorem e_rQuote_6:EqR r_rQuote_6 t_rQuote_6 []:=fun _ _ _=>rfl
theorem e_rQuote_7 (C:FuncId->List AV->AV->Prop) (σ:St) (K:St->Prop):runReg C r_rQuote_7 σ K = runHead C [] [⟨.bin .add (.t 23) (.t 47),some 48,none,[],[]⟩,⟨.mv (.t 48),some 4,none,[],[]⟩] h_rQuote_7 (σ.kills []) K:=rfl
theorem e_rQuote_8:EqR r_rQuote_8 t_rQuote_8 []:=fun _ _ _=>rfl
theorem e_rQuote_10:EqR r_rQuote_10 [⟨.mv (.t 4),some 49,none,[],[]⟩,⟨.bin .eql (.t 49) (.c (.str ⟨#[]⟩)),some 50,none,[],[]⟩] []:=fun _ _ _=>rfl
theorem e_rQuote_11:EqR r_rQuote_11 [⟨.mv (.c (.str ⟨#[45]⟩)),some 2,none,[],[]⟩] []:=fun _ _ _=>rfl
theorem e_rQuote_12:EqR r_rQuote_12 [⟨.mv (.t 4),some 51,none,[],[]⟩,⟨.mv (.t 51),some 2,none,[],[]⟩] []:=fun _ _ _=>rfl
theorem fn_rQuote {args:List AV} {r:AV} (ha:args.length.ble Tryd.f13.ntmps = true) (h:run (AFn Tryd.prog) ir_rQuote (endQ res_rQuote r) (initSt args)):AFn Tryd.prog 13 args r :=
 AFn.of_code (pv:=false) (hint:=fun _=>[]) (c:=Tryd.f13.body.getD .skip) (by kernel_rfl) (by kernel_rfl) Tryd.func13 (by kernel_rfl) (by kernel_rfl) (by kernel_rfl) (of_decide_eq_true (by kernel_rfl)) (Nat.le_of_ble_eq_true ha) (Nat.le_of_ble_eq_true (by kernel_rfl)) (run_ok h)
attribute [local go_sem ↓] ir_rQuote
attribute [local go_sem] res_rQuote e_rQuote_0 e_rQuote_1 e_rQuote_2 e_rQuote_3 e_rQuote_4 t_rQuote_4 e_rQuote_5 t_rQuote_5 e_rQuote_6 t_rQuote_6 e_rQuote_7 h_rQuote_7 e_rQuote_8 t_rQuote_8 e_rQuote_10 e_rQuote_11 e_rQuote_12
def qs (l:List UInt8):ByteArray:=⟨(quoteL l).toArray⟩
def hexS:ByteArray:=⟨#[48,49,50,51,52,53,54,55,56,57,97,98,99,100,101,102]⟩
theorem hexS_ext:∀ n:Fin 16,hexS.extract n.val (n.val + 1) = ⟨#[hexD n.val]⟩:=by decide +kernel
theorem qs_size (l:List UInt8):(qs l).size = (quoteL l).length:=rfl
theorem qs_plain {s:List UInt8} {j:Nat} {c:UInt8} (hc:s[j]? = some c) (hp:plainB c = true):qs (s.take j) ++ (⟨#[c]⟩:ByteArray) = qs (s.take (j + 1)):=by
 apply ba_ext
 rw [ByteArray.data_append,Array.toList_append]
 unfold qs
 rw [List.take_add_one,hc]
 simp only [Option.toList]
 rw [quoteL_app,quoteL_one,hp,if_pos rfl]
theorem qs_other {s:List UInt8} {j:Nat} {c:UInt8} (hc:s[j]? = some c) (hp:plainB c = false):qs (s.take j) ++ ((⟨#[37]⟩:ByteArray) ++ ⟨#[hexD (c.toNat / 16)]⟩ ++ ⟨#[hexD (c.toNat % 16)]⟩) = qs (s.take (j + 1)):=by
 apply ba_ext
 rw [ByteArray.data_append,Array.toList_append]
 unfold qs
 rw [List.take_add_one,hc]
 simp only [Option.toList]
 rw [quoteL_app,quoteL_one,hp,if_neg (by simp)]
 rfl
theorem ext_one {s:ByteArray} {j:Nat} {c:UInt8} (hc:s.data.toList[j]? = some c):s.extract j (j + 1) = ⟨#[c]⟩:=by
 apply bext7
 rw [ext_list,List.take_add_one,hc]
 have hj:=(List.getElem?_eq_some_iff.1 hc).1
 simp only [Option.toList]
 rw [List.drop_append,List.length_take,Nat.min_eq_left (by omega),Nat.sub_self,List.drop_zero,List.drop_eq_nil_of_le (by rw [List.length_take]; omega),List.nil_append]
def rqInv (s:ByteArray) (k:Nat) (σ:St):Prop :=
 ∃ j:Nat,j≤s.size∧k = s.size - j∧σ.T 0 = .str s∧σ.T 3 = .str hexS∧σ.T 4 = .str (qs (s.data.toList.take j))∧σ.T 5 = .int .i64 j
theorem qs_eq {s:ByteArray}:(if s.size = 0 then (⟨#[45]⟩:ByteArray) else qs s.data.toList) = quoteF s:=rfl
theorem rQuote_ok (s:ByteArray) (hs:s.size≤1000000):AFn Tryd.prog 13 [.str s] (.str (quoteF s)):=by
 have hL:s.data.toList.length = s.size:=by rw [Array.length_toList]; rfl
 refine fn_rQuote rfl ?_
 simp (maxSteps:=9^7) only [go_sem,↓reduceIte,reduceCtorEq,Nat.reduceEqDiff,Nat.reduceBEq,Nat.reduceAdd,Nat.reduceSub,Nat.reduceMul,Nat.reduceLT,Nat.reduceLeDiff,Nat.reduceBNe,Int.reduceBEq,Int.reduceBNe,Int.reduceLT,Int.reduceLE]
 refine run_loop (rqInv s) (k:=s.size) ⟨0,by omega,rfl,?_,?_,?_,?_⟩ ?_
 ·simp (maxSteps:=9^7) only [go_sem,↓reduceIte,reduceCtorEq,Nat.reduceEqDiff,Nat.reduceBEq,Nat.reduceAdd,Nat.reduceSub,Nat.reduceMul,Nat.reduceLT,Nat.reduceLeDiff,Nat.reduceBNe,Int.reduceBEq,Int.reduceBNe,Int.reduceLT,Int.reduceLE]
 ·simp (maxSteps:=9^7) only [go_sem,↓reduceIte,reduceCtorEq,Nat.reduceEqDiff,Nat.reduceBEq,Nat.reduceAdd,Nat.reduceSub,Nat.reduceMul,Nat.reduceLT,Nat.reduceLeDiff,Nat.reduceBNe,Int.reduceBEq,Int.reduceBNe,Int.reduceLT,Int.reduceLE]
  rfl
 ·simp (maxSteps:=9^7) only [go_sem,↓reduceIte,reduceCtorEq,Nat.reduceEqDiff,Nat.reduceBEq,Nat.reduceAdd,Nat.reduceSub,Nat.reduceMul,Nat.reduceLT,Nat.reduceLeDiff,Nat.reduceBNe,Int.reduceBEq,Int.reduceBNe,Int.reduceLT,Int.reduceLE]
  rfl
 ·simp (maxSteps:=9^7) only [go_sem,↓reduceIte,reduceCtorEq,Nat.reduceEqDiff,Nat.reduceBEq,Nat.reduceAdd,Nat.reduceSub,Nat.reduceMul,Nat.reduceLT,Nat.reduceLeDiff,Nat.reduceBNe,Int.reduceBEq,Int.reduceBNe,Int.reduceLT,Int.reduceLE]
  rfl
 rintro k σ ⟨j,hj,rfl,t0,t3,t4,t5⟩
 simp only [r_rQuote_l9]
 have hsz:(qs (s.data.toList.take j)).size≤3000000:=by
  rw [qs_size]
  have h1:=quoteL_len (s.data.toList.take j)
  have h2:(s.data.toList.take j).length≤s.size:=by rw [List.length_take,hL]; omega
  omega
 by_cases hlt:j < s.size
 ·have hlt':(j:Int) < (s.size:Int):=by omega
  have hw1:IntKind.i64.wrap ((j:Int) + 1) = ((j + 1:Nat):Int):=by rw [IntWalk.i64_in _ (by omega)]; rfl
  obtain ⟨c,hc⟩:∃ c,s.data.toList[j]? = some c:=⟨_,List.getElem?_eq_getElem (by omega)⟩
  have hg:s.data.toList.getD j 0 = c:=by rw [List.getD_eq_getElem?_getD,hc]; rfl
  simp (maxSteps:=9^7) only [go_sem,↓reduceIte,reduceCtorEq,Nat.reduceEqDiff,Nat.reduceBEq,Nat.reduceAdd,Nat.reduceSub,Nat.reduceMul,Nat.reduceLT,Nat.reduceLeDiff,Nat.reduceBNe,Int.reduceBEq,Int.reduceBNe,Int.reduceLT,Int.reduceLE,t0,t3,t4,t5,hlt',hg,Int.toNat_natCast]
  (repeat refine And.intro (by omega) ?_)
  (first | refine calling (rOwn_ok c) ?_ | refine callingH (rOwn_ok c) ?_)
  cases hp:plainB c with
  | true =>
   have hx:=ext_one hc
   have hq:=qs_plain hc hp
   simp (maxSteps:=9^7) only [go_sem,↓reduceIte,reduceCtorEq,Nat.reduceEqDiff,Nat.reduceBEq,Nat.reduceAdd,Nat.reduceSub,Nat.reduceMul,Nat.reduceLT,Nat.reduceLeDiff,Nat.reduceBNe,Int.reduceBEq,Int.reduceBNe,Int.reduceLT,Int.reduceLE,t0,t3,t4,t5,hp,hw1,hx,Int.toNat_natCast]
   (repeat refine And.intro (by omega) ?_)
   rw [hq]
   refine ⟨?_,s.size - (j + 1),by omega,j + 1,by omega,rfl,?_,?_,?_,?_⟩
   ·show (qs _).size + 1≤_
    omega
   all_goals (simp (maxSteps:=9^7) only [go_sem,↓reduceIte,reduceCtorEq,Nat.reduceEqDiff,Nat.reduceBEq,Nat.reduceAdd,Nat.reduceSub,Nat.reduceMul,Nat.reduceLT,Nat.reduceLeDiff,Nat.reduceBNe,Int.reduceBEq,Int.reduceBNe,Int.reduceLT,Int.reduceLE,t0,t3,t4,t5,hw1])
  | false =>
   have hcl:=c.toNat_lt
   have hq:=qs_other hc hp
   have e1:=hexS_ext ⟨c.toNat / 16,by omega⟩
   have e2:=hexS_ext ⟨c.toNat % 16,by omega⟩
   simp only at e1 e2
   have h16:hexS.size = 16:=rfl
   have s1:∀ x:UInt8,#[x].size = 1:=fun _=>rfl
   have d1:IntKind.u8.wrap ((c.toNat:Int).tdiv 16) = ((c.toNat / 16:Nat):Int):=by
    rw [Int.tdiv_eq_ediv_of_nonneg (by omega),show ((c.toNat:Int) / 16) = ((c.toNat / 16:Nat):Int) by omega]
    simp [IntKind.wrap,IntKind.signed,IntKind.bits]; omega
   have d2:(c.toNat:Int).tmod 16 = ((c.toNat % 16:Nat):Int):=by
    rw [Int.tmod_eq_emod_of_nonneg (by omega)]; omega
   have d3:IntKind.u8.wrap (((c.toNat / 16:Nat):Int) + 1) = ((c.toNat / 16 + 1:Nat):Int):=by
    simp [IntKind.wrap,IntKind.signed,IntKind.bits]; omega
   have d4:IntKind.u8.wrap (((c.toNat % 16:Nat):Int) + 1) = ((c.toNat % 16 + 1:Nat):Int):=by
    simp [IntKind.wrap,IntKind.signed,IntKind.bits]; omega
   simp (maxSteps:=9^7) only [go_sem,↓reduceIte,reduceCtorEq,Nat.reduceEqDiff,Nat.reduceBEq,Nat.reduceAdd,Nat.reduceSub,Nat.reduceMul,Nat.reduceLT,Nat.reduceLeDiff,Nat.reduceBNe,Int.reduceBEq,Int.reduceBNe,Int.reduceLT,Int.reduceLE,t0,t3,t4,t5,hp,hw1,hg,d1,d2,d3,d4,e1,e2,h16,s1,Int.toNat_natCast]
   (repeat refine And.intro (by omega) ?_)
   rw [hq]
   refine ⟨s.size - (j + 1),by omega,j + 1,by omega,rfl,?_,?_,?_,?_⟩ <;> (simp (maxSteps:=9^7) only [go_sem,↓reduceIte,reduceCtorEq,Nat.reduceEqDiff,Nat.reduceBEq,Nat.reduceAdd,Nat.reduceSub,Nat.reduceMul,Nat.reduceLT,Nat.reduceLeDiff,Nat.reduceBNe,Int.reduceBEq,Int.reduceBNe,Int.reduceLT,Int.reduceLE,t0,t3,t4,t5,hw1])
 ·have hlt':¬ (j:Int) < (s.size:Int):=by omega
  have hall:s.data.toList.take j = s.data.toList:=List.take_of_length_le (by omega)
  rw [hall] at t4
  by_cases h0:s.size = 0
  ·have hnil:s.data.toList = []:=List.eq_nil_of_length_eq_zero (by omega)
   have z1:((qs s.data.toList).toList == (ByteArray.mk #[]).toList) = true:=by rw [hnil]; decide +kernel
   have z2:quoteF s = ⟨#[45]⟩:=by rw [← qs_eq,if_pos h0]
   rw [z2]
   simp (maxSteps:=9^7) only [go_sem,↓reduceIte,reduceCtorEq,Nat.reduceEqDiff,Nat.reduceBEq,Nat.reduceAdd,Nat.reduceSub,Nat.reduceMul,Nat.reduceLT,Nat.reduceLeDiff,Nat.reduceBNe,Int.reduceBEq,Int.reduceBNe,Int.reduceLT,Int.reduceLE,t0,t3,t4,t5,hlt',z1]
  ·have hq:qs s.data.toList = quoteF s:=by rw [← qs_eq,if_neg h0]
   have z1:((qs s.data.toList).toList == (ByteArray.mk #[]).toList) = false:=by
    rw [bytes_nil]
    refine decide_eq_false fun e=>h0 ?_
    rw [qs_size] at e
    have:=quoteL_nil (List.eq_nil_of_length_eq_zero e)
    rw [← hL,this]; rfl
   rw [← hq]
   simp (maxSteps:=9^7) only [go_sem,↓reduceIte,reduceCtorEq,Nat.reduceEqDiff,Nat.reduceBEq,Nat.reduceAdd,Nat.reduceSub,Nat.reduceMul,Nat.reduceLT,Nat.reduceLeDiff,Nat.reduceBNe,Int.reduceBEq,Int.reduceBNe,Int.reduceLT,Int.reduceLE,t0,t3,t4,t5,hlt',z1]
end
section
/-
 Layer 6: what stands between blanks,and the law PackWords.
-/
open Go.RowKit
attribute [local go_sem ↓] runOp headOp
/-! ### percolate/percolateref01.Same -/
def wb (l:List UInt8):ByteArray:=⟨l.toArray⟩
end
section
/-
 Layer 6: a number's digits,a text as a number,and the law PackNumbers.
-/
open Go.RowKit
attribute [local go_sem ↓] runOp headOp
/-! ### percolate/pack.Dec -/
def r_dec_0:Reg:=⟨[],[⟨.mv (.c (.str ⟨#[]⟩)),some 2,none,[],[]⟩],[],[],false⟩
def t_dec_1:List ROp:=[⟨.mv (.t 0),some 3,none,[4],[]⟩,⟨.callv (.c (.clo 44 [] [])) [(.t 3)],some 4,none,[],[]⟩,⟨.mv (.t 4),some 2,none,[],[]⟩]
def r_dec_1:Reg:=⟨[],t_dec_1,[4],[],false⟩
def ir_dec:IR:=(.seq (.reg r_dec_0)
 (.seq (.reg r_dec_1)
 .ret))
def res_dec:List RDesc:=[(.tmp 2)]
theorem e_dec_0:EqR r_dec_0 [⟨.mv (.c (.str ⟨#[]⟩)),some 2,none,[],[]⟩] []:=fun _ _ _=>rfl
theorem e_dec_1:EqR r_dec_1 t_dec_1 [4]:=fun _ _ _=>rfl
theorem fn_dec {args:List AV} {r:AV} (ha:args.length.ble Tryd.f22.ntmps = true) (h:run (AFn Tryd.prog) ir_dec (endQ res_dec r) (initSt args)):AFn Tryd.prog 22 args r :=
 AFn.of_code (pv:=false) (hint:=fun _=>[]) (c:=Tryd.f22.body.getD .skip) (by kernel_rfl) (by kernel_rfl) Tryd.func22 (by kernel_rfl) (by kernel_rfl) (by kernel_rfl) (of_decide_eq_true (by kernel_rfl)) (Nat.le_of_ble_eq_true ha) (Nat.le_of_ble_eq_true (by kernel_rfl)) (run_ok h)
/-! ### percolate/percolateref06.Dec -/
def r_rDec_0:Reg:=⟨[],[⟨.mv (.c (.str ⟨#[]⟩)),some 2,none,[],[]⟩],[],[],false⟩
def r_rDec_1:Reg:=⟨[],[⟨.mv (.c (.str ⟨#[]⟩)),some 3,none,[],[]⟩],[],[],false⟩
def r_rDec_2:Reg:=⟨[],[⟨.mv (.t 0),some 6,none,[],[]⟩,⟨.mv (.t 6),some 4,none,[],[]⟩],[],[],false⟩
def t_rDec_3:List ROp:=[⟨.mv (.t 4),some 7,none,[],[]⟩,⟨.bin .rem (.t 7) (.c (.int .i64 10)),some 8,none,[],[]⟩,⟨.mv (.t 8),some 5,none,[],[]⟩]
def r_rDec_3:Reg:=⟨[],t_rDec_3,[],[],false⟩
def r_rDec_4:Reg:=⟨[],[⟨.mv (.t 5),some 9,none,[],[]⟩,⟨.bin .lss (.t 9) (.c (.int .i64 0)),some 10,none,[],[]⟩],[],[],false⟩
def t_rDec_5:List ROp:=[⟨.mv (.t 5),some 11,none,[],[]⟩,⟨.un .neg (.t 11),some 12,none,[],[]⟩,⟨.mv (.t 12),some 5,none,[],[]⟩]
def r_rDec_5:Reg:=⟨[],t_rDec_5,[],[],false⟩
def t_rDec_6:List ROp:=[⟨.mv (.t 5),some 13,none,[16,17],[]⟩,⟨.bin .add (.c (.int .i64 48)) (.t 13),some 14,none,[16,17],[]⟩,⟨.conv .u8 (.t 14),some 15,none,[16,17],[]⟩,⟨.bsl 1 5 [(.t 15)],some 16,none,[17],[]⟩,⟨.call 1 [(.t 16)],some 17,none,[],[]⟩,⟨.mv (.t 3),some 18,none,[],[]⟩,⟨.bin .add (.t 17) (.t 18),some 19,none,[],[]⟩,⟨.mv (.t 19),some 3,none,[],[]⟩]
def r_rDec_6:Reg:=⟨[],t_rDec_6,[16,17],[],false⟩
def t_rDec_7:List ROp:=[⟨.mv (.t 4),some 20,none,[],[]⟩,⟨.bin .quo (.t 20) (.c (.int .i64 10)),some 21,none,[],[]⟩,⟨.mv (.t 21),some 4,none,[],[]⟩]
def r_rDec_7:Reg:=⟨[],t_rDec_7,[],[],false⟩
def r_rDec_8:Reg:=⟨[],[⟨.mv (.t 4),some 22,none,[],[]⟩,⟨.bin .eql (.t 22) (.c (.int .i64 0)),some 23,none,[],[]⟩],[],[],false⟩
def r_rDec_l9:IR:=(.block 1 (.seq (.reg r_rDec_3)
 (.seq (.seq (.reg r_rDec_4)
 (.cond (.t 10) (.reg r_rDec_5)
 .skip))
 (.seq (.reg r_rDec_6)
 (.seq (.reg r_rDec_7)
 (.seq (.reg r_rDec_8)
 (.cond (.t 23) (.exit 0)
 .skip)))))))
def r_rDec_10:Reg:=⟨[],[⟨.mv (.t 0),some 24,none,[],[]⟩,⟨.bin .lss (.t 24) (.c (.int .i64 0)),some 25,none,[],[]⟩],[],[],false⟩
def t_rDec_11:List ROp:=[⟨.mv (.t 3),some 26,none,[],[]⟩,⟨.bin .add (.c (.str ⟨#[45]⟩)) (.t 26),some 27,none,[],[]⟩,⟨.mv (.t 27),some 2,none,[],[]⟩]
def r_rDec_11:Reg:=⟨[],t_rDec_11,[],[],false⟩
def r_rDec_12:Reg:=⟨[],[⟨.mv (.t 3),some 28,none,[],[]⟩,⟨.mv (.t 28),some 2,none,[],[]⟩],[],[],false⟩
def ir_rDec:IR:=(.seq (.reg r_rDec_0)
 (.seq (.reg r_rDec_1)
 (.seq (.reg r_rDec_2)
 (.seq (.block 0 (.loop r_rDec_l9))
 (.seq (.seq (.reg r_rDec_10)
 (.cond (.t 25) (.seq (.reg r_rDec_11)
 .ret)
 .skip))
 (.seq (.reg r_rDec_12)
 .ret))))))
def res_rDec:List RDesc:=[(.tmp 2)]
theorem e_rDec_0:EqR r_rDec_0 [⟨.mv (.c (.str ⟨#[]⟩)),some 2,none,[],[]⟩] []:=fun _ _ _=>rfl
theorem e_rDec_1:EqR r_rDec_1 [⟨.mv (.c (.str ⟨#[]⟩)),some 3,none,[],[]⟩] []:=fun _ _ _=>rfl
theorem e_rDec_2:EqR r_rDec_2 [⟨.mv (.t 0),some 6,none,[],[]⟩,⟨.mv (.t 6),some 4,none,[],[]⟩] []:=fun _ _ _=>rfl
theorem e_rDec_3:EqR r_rDec_3 t_rDec_3 []:=fun _ _ _=>rfl
theorem e_rDec_4:EqR r_rDec_4 [⟨.mv (.t 5),some 9,none,[],[]⟩,⟨.bin .lss (.t 9) (.c (.int .i64 0)),some 10,none,[],[]⟩] []:=fun _ _ _=>rfl
theorem e_rDec_5:EqR r_rDec_5 t_rDec_5 []:=fun _ _ _=>rfl
theorem e_rDec_6:EqR r_rDec_6 t_rDec_6 [16,17]:=fun _ _ _=>rfl
theorem e_rDec_7:EqR r_rDec_7 t_rDec_7 []:=fun _ _ _=>rfl
theorem e_rDec_8:EqR r_rDec_8 [⟨.mv (.t 4),some 22,none,[],[]⟩,⟨.bin .eql (.t 22) (.c (.int .i64 0)),some 23,none,[],[]⟩] []:=fun _ _ _=>rfl
theorem e_rDec_10:EqR r_rDec_10 [⟨.mv (.t 0),some 24,none,[],[]⟩,⟨.bin .lss (.t 24) (.c (.int .i64 0)),some 25,none,[],[]⟩] []:=fun _ _ _=>rfl
theorem e_rDec_11:EqR r_rDec_11 t_rDec_11 []:=fun _ _ _=>rfl
theorem e_rDec_12:EqR r_rDec_12 [⟨.mv (.t 3),some 28,none,[],[]⟩,⟨.mv (.t 28),some 2,none,[],[]⟩] []:=fun _ _ _=>rfl
theorem fn_rDec {args:List AV} {r:AV} (ha:args.length.ble Tryd.f12.ntmps = true) (h:run (AFn Tryd.prog) ir_rDec (endQ res_rDec r) (initSt args)):AFn Tryd.prog 12 args r :=
 AFn.of_code (pv:=false) (hint:=fun _=>[]) (c:=Tryd.f12.body.getD .skip) (by kernel_rfl) (by kernel_rfl) Tryd.func12 (by kernel_rfl) (by kernel_rfl) (by kernel_rfl) (of_decide_eq_true (by kernel_rfl)) (Nat.le_of_ble_eq_true ha) (Nat.le_of_ble_eq_true (by kernel_rfl)) (run_ok h)
attribute [local go_sem ↓] ir_dec
attribute [local go_sem] res_dec e_dec_0 e_dec_1 t_dec_1
attribute [local go_sem ↓] ir_rDec
attribute [local go_sem] res_rDec e_rDec_0 e_rDec_1 e_rDec_2 e_rDec_3 t_rDec_3 e_rDec_4 e_rDec_5 t_rDec_5 e_rDec_6 t_rDec_6 e_rDec_7 t_rDec_7 e_rDec_8 e_rDec_10 e_rDec_11 t_rDec_11 e_rDec_12
def decS (n:Int):ByteArray:=⟨(Lib.itoa n).toArray⟩
theorem decS_size (n:Int):(decS n).size = (Lib.itoa n).length:=rfl
def inI (n:Int):Prop:=-9223372036854775808≤n∧n≤9223372036854775807
theorem itoa_ok (n:Int) (h:inI n):AFn Tryd.prog 44 [.int .i64 n] (.str (decS n)) :=
 .flat1 (by kernel_rfl) int_flat (fun _ _ _=>.str _) fun w hG=>(Tryd.strconv_Itoa n h.1 h.2 w hG.2).mono fun e w' ⟨he,k,os,hw⟩=>by
  subst hw
  exact ⟨he,Lib.below_grow _ _ (Nat.le_refl _) _ _⟩
theorem dec_ok (n:Int) (h:inI n):AFn Tryd.prog 22 [.int .i64 n] (.str (decS n)):=by
 refine fn_dec rfl ?_
 simp (maxSteps:=9^7) only [go_sem,↓reduceIte,reduceCtorEq,Nat.reduceEqDiff,Nat.reduceBEq,Nat.reduceAdd,Nat.reduceSub,Nat.reduceMul,Nat.reduceLT,Nat.reduceLeDiff,Nat.reduceBNe,Int.reduceBEq,Int.reduceBNe,Int.reduceLT,Int.reduceLE]
 (first | refine calling (itoa_ok n h) ?_ | refine callingH (itoa_ok n h) ?_)
 simp (maxSteps:=9^7) only [go_sem,↓reduceIte,reduceCtorEq,Nat.reduceEqDiff,Nat.reduceBEq,Nat.reduceAdd,Nat.reduceSub,Nat.reduceMul,Nat.reduceLT,Nat.reduceLeDiff,Nat.reduceBNe,Int.reduceBEq,Int.reduceBNe,Int.reduceLT,Int.reduceLE]
/-! ### digits -/
open Lib (decDigits itoa nDigits)
theorem dd_step (u:Nat) (h:¬ u < 10):decDigits u = decDigits (u / 10) ++ [UInt8.ofNat (48 + u % 10)]:=by
 rw [Lib.decDigits,dif_neg h]
theorem dd_small (u:Nat) (h:u < 10):decDigits u = [UInt8.ofNat (48 + u)]:=Lib.decDigits_one h
def rdInv (n:Int) (k:Nat) (σ:St):Prop :=
 ∃ (m:Int) (s:List UInt8),k = m.natAbs∧inI m∧decDigits n.natAbs = decDigits m.natAbs ++ s∧(n < 0 ↔ n < 0)∧σ.T 0 = .int .i64 n∧σ.T 4 = .int .i64 m∧σ.T 3 = .str (wb s)
theorem u8_dig (d:Nat) (h:d < 10):IntKind.u8.wrap (IntKind.i64.wrap (48 + (d:Int))) = ((UInt8.ofNat (48 + d)).toNat:Int):=by
 rw [IntWalk.i64_in _ (by omega),show (UInt8.ofNat (48 + d)).toNat = (48 + d) % 256 from UInt8.toNat_ofNat' ..]
 simp [IntKind.wrap,IntKind.signed,IntKind.bits]
theorem rDec_ok (n:Int) (h:inI n):AFn Tryd.prog 12 [.int .i64 n] (.str (decS n)):=by
 refine fn_rDec rfl ?_
 simp (maxSteps:=9^7) only [go_sem,↓reduceIte,reduceCtorEq,Nat.reduceEqDiff,Nat.reduceBEq,Nat.reduceAdd,Nat.reduceSub,Nat.reduceMul,Nat.reduceLT,Nat.reduceLeDiff,Nat.reduceBNe,Int.reduceBEq,Int.reduceBNe,Int.reduceLT,Int.reduceLE]
 refine run_loop (rdInv n) (k:=n.natAbs) ⟨n,[],rfl,h,by simp,Iff.rfl,?_,?_,?_⟩ ?_
 iterate 2 focus ((simp (maxSteps:=9^7) only [go_sem,↓reduceIte,reduceCtorEq,Nat.reduceEqDiff,Nat.reduceBEq,Nat.reduceAdd,Nat.reduceSub,Nat.reduceMul,Nat.reduceLT,Nat.reduceLeDiff,Nat.reduceBNe,Int.reduceBEq,Int.reduceBNe,Int.reduceLT,Int.reduceLE]) <;> rfl)
 ·simp (maxSteps:=9^7) only [go_sem,↓reduceIte,reduceCtorEq,Nat.reduceEqDiff,Nat.reduceBEq,Nat.reduceAdd,Nat.reduceSub,Nat.reduceMul,Nat.reduceLT,Nat.reduceLeDiff,Nat.reduceBNe,Int.reduceBEq,Int.reduceBNe,Int.reduceLT,Int.reduceLE]
  rfl
 rintro k σ ⟨m,s,rfl,hm,hds,-,t0,t4,t3⟩
 simp only [r_rDec_l9]
 obtain ⟨hm0,hm1⟩:=hm
 have hlen:s.length≤21:=by
  have h1:=congrArg List.length hds
  have h2:=Lib.itoa_length_le n h.1 h.2
  have h3:(decDigits n.natAbs).length≤(itoa n).length:=by
   unfold Lib.itoa
   split
   ·simp
   ·rename_i hn
    rw [show n.natAbs = n.toNat by omega]; exact Nat.le_refl _
  rw [List.length_append] at h1
  omega
 have hd:m.natAbs % 10 < 10:=Nat.mod_lt _ (by decide)
 have hqa:(m.tdiv 10).natAbs = m.natAbs / 10:=by
  rw [Int.natAbs_tdiv]; rfl
 have hta:(m.tmod 10).natAbs = m.natAbs % 10:=by
  rw [Int.natAbs_tmod]; rfl
 have hq:IntKind.i64.wrap (m.tdiv 10) = m.tdiv 10:=IntWalk.i64_in _ (by omega)
 have h45:#[(45:UInt8)].size = 1:=rfl
 have hu:=u8_dig (m.natAbs % 10) hd
 obtain ⟨c,hc⟩:∃ c,UInt8.ofNat (48 + m.natAbs % 10) = c:=⟨_,rfl⟩
 rw [hc] at hu
 have hcat:∀ x:ByteArray,x = ⟨#[c]⟩->x ++ wb s = wb (c :: s):=fun x hx=>by
  subst hx
  apply ba_ext
  rw [ByteArray.data_append,Array.toList_append]; rfl
 have hcs:=hcat _ rfl
 have hwc:(wb (c :: s)).size = s.length + 1:=rfl
 have hws:(wb s).size = s.length:=rfl
 have s1:#[c].size = 1:=rfl
 have hsplit:m.natAbs < 10->decDigits n.natAbs = c :: s:=fun hlt=>by
  rw [hds,dd_small _ hlt,← hc,Nat.mod_eq_of_lt hlt]; rfl
 have hsplit2:¬ m.natAbs < 10->decDigits n.natAbs = decDigits (m.tdiv 10).natAbs ++ (c :: s):=fun hge=>by
  rw [hds,dd_step _ hge,hqa,hc,List.append_assoc]; rfl
 have hfin:decDigits n.natAbs = c :: s->decS n = if n < 0 then (⟨#[45]⟩:ByteArray) ++ wb (c :: s) else wb (c :: s):=fun e=>by
  apply ba_ext
  unfold decS Lib.itoa
  by_cases hn:n < 0
  ·rw [if_pos hn,if_pos hn,ByteArray.data_append,Array.toList_append,e]; rfl
  ·rw [if_neg hn,if_neg hn,show n.toNat = n.natAbs by omega,e]; rfl
 by_cases hneg:m.tmod 10 < 0
 ·have hw:IntKind.i64.wrap (0 - m.tmod 10) = ((m.natAbs % 10:Nat):Int):=by
   rw [IntWalk.i64_in _ (by omega)]; omega
  by_cases hz:m.tdiv 10 = 0
  ·have hz':(m.tdiv 10 == 0) = true:=by rw [hz]; rfl
   have e:=hfin (hsplit (by omega))
   rw [e]
   by_cases hn:n < 0
   ·rw [if_pos hn]
    simp (maxSteps:=9^7) only [go_sem,↓reduceIte,reduceCtorEq,Nat.reduceEqDiff,Nat.reduceBEq,Nat.reduceAdd,Nat.reduceSub,Nat.reduceMul,Nat.reduceLT,Nat.reduceLeDiff,Nat.reduceBNe,Int.reduceBEq,Int.reduceBNe,Int.reduceLT,Int.reduceLE,t0,t4,t3,hneg,hw,hu,hq,hz',hcs,hn,toB_bz,byteB_bz]
    omega
   ·rw [if_neg hn]
    simp (maxSteps:=9^7) only [go_sem,↓reduceIte,reduceCtorEq,Nat.reduceEqDiff,Nat.reduceBEq,Nat.reduceAdd,Nat.reduceSub,Nat.reduceMul,Nat.reduceLT,Nat.reduceLeDiff,Nat.reduceBNe,Int.reduceBEq,Int.reduceBNe,Int.reduceLT,Int.reduceLE,t0,t4,t3,hneg,hw,hu,hq,hz',hcs,hn,toB_bz,byteB_bz]
    omega
  ·have hz':(m.tdiv 10 == 0) = false:=by rw [beq_eq_false_iff_ne]; exact hz
   have e:=hsplit2 (by omega)
   simp (maxSteps:=9^7) only [go_sem,↓reduceIte,reduceCtorEq,Nat.reduceEqDiff,Nat.reduceBEq,Nat.reduceAdd,Nat.reduceSub,Nat.reduceMul,Nat.reduceLT,Nat.reduceLeDiff,Nat.reduceBNe,Int.reduceBEq,Int.reduceBNe,Int.reduceLT,Int.reduceLE,t0,t4,t3,hneg,hw,hu,hq,hz',hcs,toB_bz,byteB_bz]
   refine ⟨by omega,by omega,by omega,(m.tdiv 10).natAbs,by omega,m.tdiv 10,c :: s,rfl,⟨by omega,by omega⟩,e,Iff.rfl,?_,?_,?_⟩ <;> (simp (maxSteps:=9^7) only [go_sem,↓reduceIte,reduceCtorEq,Nat.reduceEqDiff,Nat.reduceBEq,Nat.reduceAdd,Nat.reduceSub,Nat.reduceMul,Nat.reduceLT,Nat.reduceLeDiff,Nat.reduceBNe,Int.reduceBEq,Int.reduceBNe,Int.reduceLT,Int.reduceLE,t0,t4,t3,hcs])
 ·have hw:m.tmod 10 = ((m.natAbs % 10:Nat):Int):=by omega
  rw [hw] at hneg
  by_cases hz:m.tdiv 10 = 0
  ·have hz':(m.tdiv 10 == 0) = true:=by rw [hz]; rfl
   have e:=hfin (hsplit (by omega))
   rw [e]
   by_cases hn:n < 0
   ·rw [if_pos hn]
    simp (maxSteps:=9^7) only [go_sem,↓reduceIte,reduceCtorEq,Nat.reduceEqDiff,Nat.reduceBEq,Nat.reduceAdd,Nat.reduceSub,Nat.reduceMul,Nat.reduceLT,Nat.reduceLeDiff,Nat.reduceBNe,Int.reduceBEq,Int.reduceBNe,Int.reduceLT,Int.reduceLE,t0,t4,t3,hneg,hw,hu,hq,hz',hcs,hn,toB_bz,byteB_bz]
    omega
   ·rw [if_neg hn]
    simp (maxSteps:=9^7) only [go_sem,↓reduceIte,reduceCtorEq,Nat.reduceEqDiff,Nat.reduceBEq,Nat.reduceAdd,Nat.reduceSub,Nat.reduceMul,Nat.reduceLT,Nat.reduceLeDiff,Nat.reduceBNe,Int.reduceBEq,Int.reduceBNe,Int.reduceLT,Int.reduceLE,t0,t4,t3,hneg,hw,hu,hq,hz',hcs,hn,toB_bz,byteB_bz]
    omega
  ·have hz':(m.tdiv 10 == 0) = false:=by rw [beq_eq_false_iff_ne]; exact hz
   have e:=hsplit2 (by omega)
   simp (maxSteps:=9^7) only [go_sem,↓reduceIte,reduceCtorEq,Nat.reduceEqDiff,Nat.reduceBEq,Nat.reduceAdd,Nat.reduceSub,Nat.reduceMul,Nat.reduceLT,Nat.reduceLeDiff,Nat.reduceBNe,Int.reduceBEq,Int.reduceBNe,Int.reduceLT,Int.reduceLE,t0,t4,t3,hneg,hw,hu,hq,hz',hcs,toB_bz,byteB_bz]
   refine ⟨by omega,by omega,by omega,(m.tdiv 10).natAbs,by omega,m.tdiv 10,c :: s,rfl,⟨by omega,by omega⟩,e,Iff.rfl,?_,?_,?_⟩ <;> (simp (maxSteps:=9^7) only [go_sem,↓reduceIte,reduceCtorEq,Nat.reduceEqDiff,Nat.reduceBEq,Nat.reduceAdd,Nat.reduceSub,Nat.reduceMul,Nat.reduceLT,Nat.reduceLeDiff,Nat.reduceBNe,Int.reduceBEq,Int.reduceBNe,Int.reduceLT,Int.reduceLE,t0,t4,t3,hcs])
/-! ### a text as a number -/
end
section
/-
 Words with blanks between them: the library's Join; how long words are.
-/
open Go.RowKit
theorem ba_assoc (a b c:ByteArray):a ++ b ++ c = a ++ (b ++ c):=by
 apply ba_ext
 simp only [ByteArray.data_append,Array.toList_append,List.append_assoc]
def joinB (l:List ByteArray) (sep:ByteArray):ByteArray:=⟨(Lib.join (l.map (·.data.toList)) sep.data.toList).toArray⟩
theorem join_ok (l:List ByteArray) (sep:ByteArray) (hl:l.length≤140737488355328) (hj:(Lib.join (l.map (·.data.toList)) sep.data.toList).length≤140737488355328):AFn Tryd.prog 25 [.sl (l.map .str),.str sep] (.str (joinB l sep)):=by
 refine ⟨by kernel_rfl,fun w Pr vs hG hPr hlen hvs=>?_⟩
 obtain ⟨a,b,rfl⟩:∃ a b,vs = [a,b]:=by
  match vs,hlen with
  | [a,b],_=>exact ⟨a,b,rfl⟩
 have h1:=hvs 0 _ a rfl rfl
 have h2:=hvs 1 _ b rfl rfl
 obtain rfl:=h2.str_of
 have fin:∀ {v:Value},(Calls Tryd.prog 25 #[v,.string sep] w fun e w'=>e = .returned (.string (joinB l sep))∧Below w.heap.size w w')->Calls Tryd.prog 25 [v,.string sep].toArray w fun e w'=>∃ u,e = .returned u∧Below w.heap.size w w'∧RR (fun b o=>Pr b o∨w.heap.size≤b) w.heap.size w' (.str (joinB l sep)) u:=fun hc =>
  hc.mono fun e w' ⟨he,hb⟩=>⟨_,he,hb,.str _⟩
 generalize hq:l.map AV.str = q at h1
 cases h1 with
 | sl _ A cap z u hcap hmax hA h =>
  subst hq
  rw [List.length_map] at hcap hA ⊢
  refine fin ?_
  by_cases h0:l.length = 0
  ·have e0:l = []:=List.length_eq_zero_iff.1 h0
   subst e0
   refine (Tryd.strings_Join_none A cap sep w).mono fun e w' ⟨he,hw⟩=>⟨?_,by rw [hw]; exact Below.refl _ _⟩
   rw [he]; rfl
  ·obtain ⟨b,off,rfl,hlies⟩:=hA (by omega)
   have hz:z = 1:=by
    obtain ⟨x,hx⟩:∃ x,l[0]? = some x:=⟨_,List.getElem?_eq_getElem (by omega)⟩
    exact (hlies.len (.str x) (List.mem_map.2 ⟨x,List.mem_of_getElem? hx,rfl⟩)).symm
   subst hz
   refine (Tryd.strings_Join b off cap l sep w (fun j x hx=>?_) hlies.lt hl hcap hj).mono fun e w' ⟨he,hb⟩=>⟨he,hb⟩
   have hjl:=(List.getElem?_eq_some_iff.1 hx).1
   have:=(hlies.at_ j 0 (by rw [List.length_map]; exact hjl) (by omega)).2
   rw [Nat.mul_one,Nat.add_zero] at this
   rw [this]
   have hv:=h j (.str x) 0 (.str x) (by rw [List.getElem?_map,hx]; rfl) rfl
   rw [hv.str_of]
/-- few short words,with blanks between them -/
theorem join_len (sep:List UInt8):∀ l:List (List UInt8),(Lib.join l sep).length≤(l.map fun x=>x.length + sep.length).sum
 | []=>by simp [Lib.join_nil]
 | x :: r=>by
  rw [Lib.join_cons]
  have:∀ r:List (List UInt8),(Lib.joinTail sep r).length = (r.map fun x=>x.length + sep.length).sum:=by
   intro r
   induction r with
   | nil=>rfl
   | cons y r ih =>
    show ((sep ++ y) ++ Lib.joinTail sep r).length = _
    rw [List.length_append,ih,List.length_append,List.map_cons,List.sum_cons]; omega
  rw [List.length_append,this,List.map_cons,List.sum_cons]; omega
theorem quoteF_size (s:ByteArray):(quoteF s).size≤3 * s.size + 1:=by
 have h:=congrArg List.length (quoteF_list s)
 have hL:s.data.toList.length = s.size:=by rw [Array.length_toList]; rfl
 have e:(quoteF s).data.toList.length = (quoteF s).size:=by rw [Array.length_toList]; rfl
 have:=quoteL_len s.data.toList
 rw [e] at h
 rw [h]
 split
 ·simp
 ·omega
theorem join_app (sep:List UInt8):∀ (l:List (List UInt8)) (x:List UInt8),l ≠ []->Lib.join (l ++ [x]) sep = Lib.join l sep ++ (sep ++ x)
 | [],_,h=>absurd rfl h
 | y :: r,x,_=>by
  rw [List.cons_append,Lib.join_cons,Lib.join_cons]
  have:∀ r:List (List UInt8),Lib.joinTail sep (r ++ [x]) = Lib.joinTail sep r ++ (sep ++ x):=by
   intro r; unfold Lib.joinTail; simp
  rw [this,List.append_assoc]
theorem joinB_app (l:List ByteArray) (x s:ByteArray) (h:l ≠ []):joinB (l ++ [x]) s = joinB l s ++ (s ++ x):=by
 apply ba_ext
 show Lib.join ((l ++ [x]).map (·.data.toList)) _ = (_ ++ (_ ++ _):ByteArray).data.toList
 rw [List.map_append,List.map_cons,List.map_nil,join_app _ _ _ (by simpa using h)]
 simp [joinB]
/-- what is joined has so many bytes -/
theorem joinB_len (sep:ByteArray) (n:Nat) (l:List ByteArray) (h:∀ x,x ∈ l->x.size + sep.size≤n):(Lib.join (l.map (·.data.toList)) sep.data.toList).length≤l.length * n:=by
 refine Nat.le_trans (join_len _ _) ?_
 induction l with
 | nil=>simp
 | cons y r ih =>
  have a:=ih (fun x hx=>h x (List.mem_cons_of_mem _ hx))
  have b:=h y (List.mem_cons_self ..)
  have c:y.data.toList.length = y.size:=by rw [Array.length_toList]; rfl
  have d:sep.data.toList.length = sep.size:=by rw [Array.length_toList]; rfl
  simp only [List.map_cons,List.sum_cons,List.length_cons]
  rw [c,d,Nat.add_mul,Nat.one_mul]
  rw [d] at a
  omega
theorem joinB_size (sep:ByteArray) (n:Nat) (l:List ByteArray) (h:∀ x,x ∈ l->x.size + sep.size≤n):(joinB l sep).size≤l.length * n:=joinB_len sep n l h
end
section
/-
 A machine with a heap: strings.Join: sound.
-/
open Go.RowKit
namespace Hm
theorem joinTail_eq (sep:List UInt8) (x:ByteArray):∀ l:List ByteArray,joinB sep (x :: l) = x.data.toList ++ Lib.joinTail sep (l.map (·.data.toList))
 | []=>by simp [joinB,Lib.joinTail]
 | y :: l=>by
  rw [joinB,joinTail_eq sep y l]
  ·simp [Lib.joinTail]
  ·simp
theorem joinB_eq (sep:List UInt8):∀ l:List ByteArray,joinB sep l = Lib.join (l.map (·.data.toList)) sep
 | []=>rfl
 | x :: l=>by rw [joinTail_eq,List.map_cons,Lib.join_cons]
theorem strsC_out:∀ {cs:List V} {l:List ByteArray},strsC cs = some l->l.length = cs.length∧∀ (j:Nat) (x:ByteArray),l[j]? = some x->cs[j]? = some (.lit (.string x))
 | [],l,h=>by cases h; exact ⟨rfl,fun j x h=>by simp at h⟩
 | c :: cs,l,h=>by
  unfold strsC at h
  split at h
  ·rename_i heq; exact absurd heq (by simp)
  ·rename_i s r heq
   cases heq
   split at h
   ·rename_i r' hr
    cases h
    obtain ⟨g1,g2⟩:=strsC_out hr
    refine ⟨by simp [g1],fun j x hj=>?_⟩
    cases j with
    | zero=>cases hj; rfl
    | succ j=>simpa using g2 j x (by simpa using hj)
   ·cases h
  ·cases h
theorem joinX_sound:XSound Tryd.prog (joinX 25):=by
 intro f args h r h' e
 unfold joinX at e
 split at e
 case h_2=>cases e
 rename_i hf
 have hf:=Nat.eq_of_beq_eq_true hf
 subst hf
 split at e
 case h_2=>cases e
 rename_i v sep
 split at e
 case h_2=>cases e
 rename_i l hl
 split at e
 case h_2=>cases e
 rename_i hb
 cases e
 rw [Bool.and_eq_true] at hb
 have hb1:=Nat.le_of_ble_eq_true hb.1
 have hb2:=Nat.le_of_ble_eq_true hb.2
 refine ⟨HStep.refl _,fun E w us hR hH hfr hus=>?_⟩
 unfold strsV at hl
 split at hl
 case h_2=>cases hl
 rename_i r o z len
 split at hl
 case h_2=>cases hl
 rename_i cs hz hg
 rw [Bool.and_eq_true] at hz
 have hz1:=Nat.eq_of_beq_eq_true hz.1
 have hz2:=blt_lt hz.2
 subst hz1
 split at hl
 case h_2=>cases hl
 rename_i hle
 have hle:=Nat.le_of_ble_eq_true hle
 obtain ⟨g1,g2⟩:=strsC_out hl
 have g1':l.length = len:=by rw [g1]; simp; omega
 match us,hus with
 | [],hus=>exact absurd hus.len (by simp)
 | [_],hus=>exact absurd hus.len (by simp)
 | _ :: _ :: _ :: _,hus=>exact absurd hus.len (by simp)
 | [u,u2],hus =>
 have hu:=hus.head
 have hu2:=hus.tail.head.lit_inv
 subst hu2
 obtain ⟨A,cap,rfl,hU,h0,hlc,hm,hlv⟩:=hu.sl_inv
 obtain ⟨_,hA,vs,ty,fr,hb',hsz⟩:=hlv (by rw [hH _ _ hg]; rfl)
 have hA:=hA (by omega)
 subst hA
 subst g1'
 have hc:=Tryd.strings_Join (E.μ r).1 ((E.μ r).2 + o) cap l sep w (fun j x hj=>by
  have hcs:=g2 j x hj
  have hjl:=(List.getElem?_eq_some_iff.1 hj).1
  rw [List.getElem?_take,if_pos hjl,List.getElem?_drop] at hcs
  obtain ⟨u,q1,q2⟩:=hR.cell (hH _ _ hg) hcs
  rw [q2.lit_inv] at q1
  rw [Nat.add_assoc]; exact q1) (Array.getElem?_eq_some_iff.1 hb').1 (by omega) hlc (by rw [← joinB_eq]; omega)
 refine hc.mono ?_
 rintro e w' ⟨rfl,hbel⟩
 obtain ⟨hR',hS'⟩:=hR.grow hbel
 refine ⟨_,E,rfl,?_,hR',hS',hH,fun q hq=>.inl hq,fun _ _ _=>rfl⟩
 rw [joinB_eq]
 exact .lit _
end Hm
end
section
/-
 (*strings.Builder).copyCheck: what the library's contract takes,laid by hand.
-/
open Go.Shelf
def Tryd.cck_ren:Go.Shelf.Ren:=⟨fun | 240=>62 | 276=>74 | n=>n,fun | 0=>0 | 4=>4 | 9=>9 | 20=>20 | 70=>83 | 72=>85 | 37=>68 | 164=>119 | n=>n,fun | n=>n⟩
theorem Tryd.cck240:Go.Proofs.Lays.n240 Tryd.prog Tryd.cck_ren:={
 mixed:=by kernel_rfl
 f240:=Tryd.func62.trans (congrArg some (by kernel_rfl))
 f276:=Tryd.func74.trans (congrArg some (by kernel_rfl))
 t0:=Tryd.underlying0
 a0:=Tryd.isAgg0
 z0:=Tryd.sizeOf0
 v0:=Tryd.zeroValue0
 t4:=Tryd.underlying4
 a4:=Tryd.isAgg4
 z4:=Tryd.sizeOf4
 v4:=Tryd.zeroValue4
 t9:=Tryd.underlying9
 a9:=Tryd.isAgg9
 z9:=Tryd.sizeOf9
 v9:=Tryd.zeroValue9
 t20:=Tryd.underlying20
 a20:=Tryd.isAgg20
 z20:=Tryd.sizeOf20
 v20:=Tryd.zeroValue20
 t70:=Tryd.underlying83
 a70:=Tryd.isAgg83
 z70:=Tryd.sizeOf83
 v70:=Tryd.zeroValue83
 t72:=Tryd.underlying85
 a72:=Tryd.isAgg85
 z72:=Tryd.sizeOf85
 v72:=Tryd.zeroValue85
 t164:=Tryd.underlying119
 a164:=Tryd.isAgg119
 z164:=Tryd.sizeOf119
 v164:=Tryd.zeroValue119 }
theorem Tryd.cckX72:Builder.X72 Tryd.prog Tryd.cck_ren where
 sizeBuilder:=by kernel_rfl
 liesBuilder:=by kernel_rfl
end
section
/-
 A machine with a heap: (*strings.Builder).copyCheck: sound.
-/
open Go.RowKit
namespace Hm
theorem cckX_sound:XSound Tryd.prog (cckX 85 62):=by
 intro f args h r h' e
 unfold cckX at e
 split at e
 case h_2=>cases e
 rename_i hf
 have hf:=Nat.eq_of_beq_eq_true hf
 subst hf
 split at e
 case h_2=>cases e
 rename_i q
 split at e
 case h_2=>cases e
 rename_i T c0 c1 hg hb
 rw [Bool.and_eq_true] at hb
 have hb1:=blt_lt hb.1
 have hb2:=blt_lt hb.2
 split at e
 case h_2=>cases e
 rename_i hT
 have hT:=Nat.eq_of_beq_eq_true hT
 subst hT
 split at e
 ·cases e
  refine ⟨HStep.end_ _ (by rw [hg]; simp) hb2 hb1,fun E w us hR hH hfr hus=>?_⟩
  match us,hus with
  | [],hus=>exact absurd hus.len (by simp)
  | _ :: _ :: _,hus=>exact absurd hus.len (by simp)
  | [u],hus =>
  have hE:=hH _ _ hg
  have hp:=hus.head.ptr_live hE
  subst hp
  obtain ⟨ob,h1,h2⟩:=hR.obj _ _ hE
  cases ob <;> try exact h2.elim
  rename_i vs ty fr
  obtain ⟨h3,⟨h4,h5,h6,h7,h8⟩,h9⟩:=h2
  obtain ⟨h10,h11⟩:=h8 rfl
  have hfr0:=h7 (show (0:Nat) < 2 by decide)
  subst hfr0
  have h6:ty = 85:=h6
  subst h6
  have hsz:vs.size = 2:=h11
  obtain ⟨_,u0,g1,g2⟩:=h9 0 _ rfl
  obtain ⟨o1,u1,g3,g4⟩:=h9 1 _ rfl
  have g2:=g2.lit_inv
  subst g2
  rw [h10] at g1 g3
  simp only [Nat.zero_add] at g1 g3
  rw [h10]
  refine (Any.Builder_copyCheck_fresh Tryd.cck240 Tryd.cckX72 (E.μ q).1 w (by simp [World.cell?,h1,g1]) (by simp [World.shape?,h1,hsz]; rfl) (by simp [World.frozen?,h1])).mono ?_
  rintro e w' ⟨rfl,rfl⟩
  have hW:=hR.write hE h1 (w':=w.setCell ⟨(E.μ q).1,0,none⟩ (.pointer (some ⟨(E.μ q).1,0,none⟩))) (o':=.cells (vs.setIfInBounds 0 (.pointer (some ⟨(E.μ q).1,0,none⟩))) 85 (0,0)) (ob':=.cells (85,0) [.ptr q 0,c1])
   (by rw [setCell_eq_setRow w _ 0 vs _ _ _ h1]; exact ⟨rfl,rfl,rfl,by simp [World.setRow],fun k hk=>by simp [World.setRow,Array.getElem?_modify,Ne.symm hk]⟩)
   (by rw [setCell_eq_setRow w _ 0 vs _ _ _ h1]; simp [World.setRow,Array.getElem?_modify,h1]) (fun _ _ _ z=>by cases z; exact ⟨_,_,_,rfl,by simp⟩)
   ⟨.inl rfl,⟨by simp; omega,fun z=>by simp at z,rfl,fun _=>rfl,fun _=>⟨h10,by simp [hsz]⟩⟩,fun j c hc=>by
    rw [h10,Nat.zero_add]
    match j,hc with
    | 0,hc =>
     cases hc
     refine ⟨rfl,.pointer (some ⟨(E.μ q).1,0,none⟩),by rw [Array.getElem?_setIfInBounds]; simp [hsz],.ptr _ _ _ (hR.used _ _ hE) fun _=>by rw [h10]⟩
    | 1,hc =>
     cases hc
     exact ⟨o1,u1,by rw [Array.getElem?_setIfInBounds]; simpa using g3,g4⟩
    | j + 2,hc=>simp at hc⟩
  have nn:=Nx.put hg hb2 hH hW
  exact ⟨_,_,rfl,Vrs.nil.tup,nn.rel,nn.step,nn.H,nn.U,nn.fr⟩
 ·rename_i r'
  split at e
  case h_2=>cases e
  rename_i hr
  have hr:=Nat.eq_of_beq_eq_true hr
  subst hr
  cases e
  refine ⟨HStep.refl _,fun E w us hR hH hfr hus=>?_⟩
  match us,hus with
  | [],hus=>exact absurd hus.len (by simp)
  | _ :: _ :: _,hus=>exact absurd hus.len (by simp)
  | [u],hus =>
  have hE:=hH _ _ hg
  have hp:=hus.head.ptr_live hE
  subst hp
  obtain ⟨ob,h1,h2⟩:=hR.obj _ _ hE
  cases ob <;> try exact h2.elim
  rename_i vs ty fr
  obtain ⟨h3,⟨h4,h5,h6,h7,h8⟩,h9⟩:=h2
  obtain ⟨h10,h11⟩:=h8 rfl
  obtain ⟨_,u0,g1,g2⟩:=h9 0 _ rfl
  have g2:=g2.ptr_live hE
  subst g2
  rw [h10] at g1
  rw [h10]
  simp only [Nat.zero_add] at g1
  refine (Any.Builder_copyCheck_used Tryd.cck240 Tryd.cckX72 (E.μ r').1 w (by simp [World.cell?,h1,g1])).mono ?_
  rintro e w' ⟨rfl,rfl⟩
  exact ⟨_,E,rfl,Vrs.nil.tup,hR,Step.refl _ _,hH,fun z hz=>.inl hz,fun _ _ _=>rfl⟩
 ·cases e
end Hm
end
section
/-
 Nodes drawn as lines: the chapter's example,run by the machine with a heap.
-/
open Go.RowKit
namespace Hm
def shX:CallF:=orX (joinX 25) (cckX 85 62)
theorem shX_sound:XSound Tryd.prog shX:=orX_sound joinX_sound cckX_sound
theorem mixed:Tryd.prog.follows .mixedOrders = true:=by kernel_rfl
theorem awake58_runs:okX (callX Tryd.prog shX 100000 7 [] H0) = true:=by kernel_rfl
end Hm
theorem awake58_ok:AFn Tryd.prog 7 [] (.bool true):=by
 refine ⟨by kernel_rfl,fun w Pr vs hG hPr hlen hvs=>?_⟩
 obtain rfl:vs = []:=List.eq_nil_of_length_eq_zero hlen.symm
 exact (Hm.law_of Hm.mixed Hm.shX_sound (show 7 ≠ Hm.yldId by decide) w (us:=[]) .nil Hm.awake58_runs).mono fun e w' ⟨he,hb⟩=>⟨_,he,hb,.bool _⟩
end
section
/-
 Data that came in,of whatever type of ints,bools,texts,slices,structs and arrays,reads on the plain machine.
-/
open Go.ChangeShapes Go.WideShapes Go.ChangeAt Go.RowKit Go.Deep
/-- types of plain data -/
inductive Ty where
 | int (k:IntKind)
 | str
 | bool
 | sl (e:Ty)
 | st (fs:List Ty)
/-- places one behind the other -/
def laidAt (P:Program):List (Nat × TypeId)->Nat->Option Nat
 | [],o=>some o
 | (f,t) :: l,o=>if f = o then laidAt P l (o + P.cellsOf t) else none
def optAll {α β:Type} (f:α->Option β):List α->Option (List β)
 | []=>some []
 | a :: l=>match f a,optAll f l with
  | some b,some r=>some (b :: r)
  | _,_=>none
def placesOf (m z:Nat) (e:TypeId):Nat->List (Nat × TypeId)
 | 0=>[]
 | k + 1=>((m - (k + 1)) * z,e) :: placesOf m z e k
def dtyOf (P:Program):Nat->TypeId->Option Ty
 | 0,_=>none
 | n + 1,t=>match P.underlying t with
  | some (.int k)=>some (.int k)
  | some .string=>some .str
  | some .bool=>some .bool
  | some (.slice e)=>if 1≤P.bytesOf e∧1≤P.cellsOf e then (dtyOf P n e).map .sl else none
  | some (.struct fs)=>if laidAt P (fs.toList.map fun f=>(f.offset,f.type)) 0 = some (P.cellsOf t) then (optAll (dtyOf P n) (fs.toList.map (·.type))).map .st else none
  | some (.array m e)=>if laidAt P (placesOf m (P.cellsOf e) e m) 0 = some (P.cellsOf t) then (optAll (dtyOf P n) (List.replicate m e)).map .st else none
  | _=>none
def packT:Ty->List AV->AV
 | .st _,cs=>.agg cs
 | _,cs=>cs.headD .und
/-- cells that are of a type -/
inductive TypedC:Ty->List AV->Prop
 | int (k:IntKind) (n:Int) (h:(Lit.int k n).wf = true):TypedC (.int k) [.int k n]
 | str (s:ByteArray) (h:s.size≤281474976710656):TypedC .str [.str s]
 | bool (b:Bool):TypedC .bool [.bool b]
 | sl (T:Ty) (ls:List (List AV)) (hlen:ls.length≤281474976710656) (h:∀ c,c ∈ ls->TypedC T c):TypedC (.sl T) [.sl (ls.map (packT T))]
 | nil:TypedC (.st []) []
 | cons {T:Ty} {fs:List Ty} {c r:List AV} (h:TypedC T c) (hr:TypedC (.st fs) r):TypedC (.st (T :: fs)) (c ++ r)
theorem packT_cells {T:Ty} {c:List AV} (h:TypedC T c):(packT T c).cells = c:=by
 cases h <;> rfl
theorem laidAt_le {P:Program}:∀ {l:List (Nat × TypeId)} {o tot:Nat},laidAt P l o = some tot->o≤tot
 | [],o,tot,h=>by cases h; exact Nat.le_refl _
 | (f,t) :: l,o,tot,h=>by
  rw [laidAt] at h
  split at h
  ·have:=laidAt_le h; omega
  ·cases h
section
variable {H:Type} {enc:TypeId × Value->H} {P:Program} {w:World} {sp:Nat->Bool} {held:Bool}
/-- it reads,and is of the type -/
def ReadsAs (w:World) (T:Ty) (cs:List Value) (ds:List AV):Prop :=
 TypedC T ds∧ds.length = cs.length∧∀ (j:Nat) (d:AV) (v:Value),ds[j]? = some d->cs[j]? = some v->VR (fun b _=>b < w.heap.size) w d v
theorem typed_parts {n m:Nat} (ih:∀ {t:TypeId} {T:Ty} {fuel:Nat} {cs:List Value} {x:DataW H × List MemPlace},dtyOf P n t = some T->(x.1.weights P t).all (·≤reachBytes) = true->DataW.trod enc P w 0 sp held fuel t cs = some x->∃ ds,ReadsAs w T cs ds)
  {cs:List Value}:∀ (pl:List (Nat × TypeId)) (o:Nat) (Ts:List Ty) (xs:List (DataW H × List MemPlace)),laidAt P pl o = some cs.length->optAll (dtyOf P n) (pl.map (·.2)) = some Ts->xs.length = pl.length ->
   (∀ (i:Nat) (f:Nat × TypeId),pl[i]? = some f->DataW.trod enc P w 0 sp held m f.2 ((cs.drop f.1).take (P.cellsOf f.2)) = xs[i]?) ->
   (DataW.weightsEach P (pl.map (·.2)) (xs.map (·.1))).all (·≤reachBytes) = true->∃ ds,ReadsAs w (.st Ts) (cs.drop o) ds
 | [],o,Ts,xs,hl,ho,hx,ht,hw=>by
  cases hl; cases ho
  exact ⟨[],.nil,by simp,fun j d v h=>by simp at h⟩
 | (f,t) :: pl,o,Ts,xs,hl,ho,hx,ht,hw=>by
  rw [laidAt] at hl
  split at hl
  case isFalse=>cases hl
  rename_i hf
  subst hf
  rw [List.map_cons,optAll] at ho
  split at ho
  case h_2=>cases ho
  rename_i T Ts' h1 h2
  cases ho
  cases xs with
  | nil=>simp at hx
  | cons x xs =>
   rw [List.map_cons,List.map_cons,DataW.weightsEach,List.all_append,Bool.and_eq_true] at hw
   obtain ⟨d0,t0,l0,v0⟩:=ih h1 hw.1 (ht 0 _ rfl)
   obtain ⟨dr,tr,lr,vr⟩:=typed_parts ih pl (f + P.cellsOf t) Ts' xs hl h2 (by simpa using hx) (fun i g hg=>ht (i + 1) g (by simpa using hg)) hw.2
   have hle:=laidAt_le hl
   have hz:d0.length = P.cellsOf t:=by
    rw [l0,List.length_take,List.length_drop]; show min (P.cellsOf t) (cs.length - f) = _; omega
   refine ⟨d0 ++ dr,.cons t0 tr,?_,fun j d v hd hv=>?_⟩
   ·rw [List.length_append,hz,lr,List.length_drop,List.length_drop]; omega
   ·rw [List.getElem?_drop] at hv
    rcases Nat.lt_or_ge j d0.length with hj | hj
    ·rw [List.getElem?_append_left hj] at hd
     refine v0 j d v hd ?_
     show (List.take (P.cellsOf t) (List.drop f cs))[j]? = _
     rw [List.getElem?_take,if_pos (by omega),List.getElem?_drop]
     exact hv
    ·rw [List.getElem?_append_right hj] at hd
     refine vr _ d v hd ?_
     rw [List.getElem?_drop,hz,show f + P.cellsOf t + (j - P.cellsOf t) = f + j by omega]
     exact hv
theorem weights_rep {e:TypeId}:∀ {m:Nat} {l:List (DataW H)},l.length = m->(DataW.weightsAll P e l).all (·≤reachBytes) = true->(DataW.weightsEach P (List.replicate m e) l).all (·≤reachBytes) = true
 | 0,[],_,_=>rfl
 | m + 1,x :: l,hl,h=>by
  simp only [DataW.weightsAll,List.all_append,Bool.and_eq_true] at h
  rw [List.replicate_succ,DataW.weightsEach,List.all_append,Bool.and_eq_true]
  exact ⟨h.1,weights_rep (by simpa using hl) h.2⟩
theorem placesOf_get (m z:Nat) (e:TypeId):∀ (k i:Nat) (f:Nat × TypeId),k≤m->(placesOf m z e k)[i]? = some f->i < k∧f = ((m - k + i) * z,e):=by
 intro k
 induction k with
 | zero=>intro i f _ h; simp [placesOf] at h
 | succ k ih =>
  intro i f hk h
  cases i with
  | zero=>simp [placesOf] at h; exact ⟨by omega,h.symm⟩
  | succ i =>
   obtain ⟨h1,rfl⟩:=ih i f (by omega) (by simpa [placesOf] using h)
   exact ⟨by omega,by rw [show m - k + i = m - (k + 1) + (i + 1) by omega]⟩
theorem typed_in:∀ (n:Nat) {t:TypeId} {T:Ty} {fuel:Nat} {cs:List Value} {x:DataW H × List MemPlace},dtyOf P n t = some T->(x.1.weights P t).all (·≤reachBytes) = true->DataW.trod enc P w 0 sp held fuel t cs = some x->∃ ds,ReadsAs w T cs ds
 | 0,t,T,fuel,cs,x,ht,hw,h=>by cases ht
 | n + 1,t,T,fuel,cs,x,ht,hw,h=>by
  rw [dtyOf] at ht
  split at ht
  ·rename_i k hu
   cases ht
   obtain ⟨m,rfl,rfl,hb⟩:=DataW.trod_int hu h
   exact ⟨[.int k m],.int k m hb,rfl,fun j d v hd hv=>by
    cases j with
    | zero=>cases hd; cases hv; exact .int _ _
    | succ j=>simp at hd⟩
  ·rename_i hu
   cases ht
   obtain ⟨s,rfl,rfl,hb⟩:=DataW.trod_string hu h
   exact ⟨[.str s],.str s (str_reach hw),rfl,fun j d v hd hv=>by
    cases j with
    | zero=>cases hd; cases hv; exact .str _
    | succ j=>simp at hd⟩
  ·rename_i hu
   cases ht
   obtain ⟨b,rfl,rfl⟩:=DataW.trod_bool hu h
   exact ⟨[.bool b],.bool b,rfl,fun j d v hd hv=>by
    cases j with
    | zero=>cases hd; cases hv; exact .bool _
    | succ j=>simp at hd⟩
  ·rename_i e hu
   split at ht
   case isFalse=>cases ht
   rename_i hz
   obtain ⟨Te,hTe,rfl⟩:=Option.map_eq_some_iff.1 ht
   rcases open_slice hu h with ⟨hv,_⟩ | ⟨a,len,cap,m,n',D,Pl,hv,_,hl,hm,hmm,hx,hi⟩
   ·subst hv
    refine ⟨[.sl []],.sl Te [] (by simp) (fun c hc=>by cases hc),rfl,fun j d v hd hv=>?_⟩
    cases j with
    | zero =>
     cases hd; cases hv
     exact .sl [] none 0 1 (fun _ _=>.bool false) (by simp) (by simp) (fun h=>by simp at h) (fun i d j c hi=>by simp at hi)
    | succ j=>simp at hd
   ·subst hv
    have hlm:len≤m:=by rw [hmm]; split <;> omega
    rw [hx] at hw
    simp only [DataW.weights,hu,List.all_cons,Bool.and_eq_true,decide_eq_true_eq,List.length_map,List.length_range,List.all_append] at hw
    have hlr:len≤reachBytes:=Nat.le_trans (Nat.le_trans (Nat.le_add_right len (m - len)) (Nat.le_mul_of_pos_right _ hz.1)) hw.1
    have hwi:∀ i,i < len->((D i).weights P e).all (·≤reachBytes) = true:=fun i hil=>weightsAll_mem hw.2.1 (List.mem_map.2 ⟨i,List.mem_range.2 hil,rfl⟩)
    have each:∀ i,i < len->∃ y:List Value × List AV,w.cells? 0 (a.add (i * P.cellsOf e)) (P.cellsOf e) = some y.1∧ReadsAs w Te y.1 y.2:=fun i him=>by
     obtain ⟨cs',h1,h2⟩:=hi i (by omega)
     obtain ⟨ds,hd⟩:=typed_in n hTe (hwi i him) h2
     exact ⟨(cs',ds),h1,hd⟩
    obtain ⟨S,hS⟩:=choose_lt each
    have hL:((List.range len).map fun i=>(S i).2).length = len:=by simp
    have hcell:∀ i,i < len->∀ (j:Nat) (u:Value),((S i).1)[j]? = some u->w.cell? (a.add (i * P.cellsOf e + j)) = some u:=by
     intro i hil j u hj
     obtain ⟨_,hlen,hat⟩:=World.cells?_some (hS i hil).1
     have hjl:j < P.cellsOf e:=by rw [← hlen]; exact (List.getElem?_eq_some_iff.1 hj).1
     rw [← Go.Deep.add_add,hat j hjl,hj]
    refine ⟨[.sl (((List.range len).map fun i=>(S i).2).map (packT Te))],.sl Te _ (by rw [hL]; exact Nat.le_trans hlr (by decide)) (fun c hc=>?_),rfl,fun j d v hd hv=>?_⟩
    ·obtain ⟨i,hir,rfl⟩:=List.mem_map.1 hc
     exact (hS i (List.mem_range.1 hir)).2.1
    ·cases j with
     | succ j=>simp at hd
     | zero =>
      cases hd; cases hv
      have hL2:(((List.range len).map fun i=>(S i).2).map (packT Te)).length = len:=by simp
      have hget:∀ (i:Nat) (d:AV),(((List.range len).map fun i=>(S i).2).map (packT Te))[i]? = some d->i < len∧d = packT Te (S i).2:=by
       intro i d hd
       rw [List.getElem?_map,List.getElem?_map] at hd
       by_cases hlt:i < len
       ·rw [List.getElem?_range hlt] at hd; simp at hd
        exact ⟨hlt,hd.symm⟩
       ·rw [List.getElem?_eq_none (by simp; omega)] at hd; cases hd
      have key:VR (fun b _=>b < w.heap.size) w (.sl (((List.range len).map fun i=>(S i).2).map (packT Te))) (.slice (some a) (((List.range len).map fun i=>(S i).2).map (packT Te)).length cap):=by
       refine .sl _ (some a) cap (P.cellsOf e) (fun i j=>((S i).1).getD j (.bool false)) (by rw [hL2]; omega) hm (fun h0=>?_) (fun i d j c hi hj=>?_)
       ·rw [hL2] at h0
        obtain ⟨ab,ao,asp⟩:=a
        obtain ⟨_,hlen,_⟩:=World.cells?_some (hS 0 h0).1
        have hu0:((S 0).1)[0]? = some (((S 0).1)[0]'(by omega)):=List.getElem?_eq_getElem _
        have hc0:=hcell 0 h0 0 _ hu0
        have e0:(⟨ab,ao,asp⟩:Addr).add (0 * P.cellsOf e + 0) = ⟨ab,ao,asp⟩:=by simp [Addr.add]
        rw [e0] at hc0
        have hsp:asp = none:=by
         cases asp with
         | none=>rfl
         | some k =>
          simp only [World.cell?] at hc0
          split at hc0
          ·simp at hc0
          ·cases hc0
        subst hsp
        have hlt:=block_lt_of_cell hc0
        refine ⟨ab,ao,rfl,hlt,fun d hd=>?_,fun i j hi hj=>⟨hlt,?_⟩⟩
        ·obtain ⟨c,hc,rfl⟩:=List.mem_map.1 hd
         obtain ⟨i,hir,rfl⟩:=List.mem_map.1 hc
         have h2:=(hS i (List.mem_range.1 hir)).2
         obtain ⟨_,hlen,_⟩:=World.cells?_some (hS i (List.mem_range.1 hir)).1
         rw [packT_cells h2.1,h2.2.1,hlen]
        ·rw [hL2] at hi
         obtain ⟨_,hlen,_⟩:=World.cells?_some (hS i hi).1
         have hv:((S i).1)[j]? = some (((S i).1).getD j (.bool false)):=by
          rw [List.getD_eq_getElem?_getD,List.getElem?_eq_getElem (by omega)]; rfl
         have:=hcell i hi j _ hv
         have e:(⟨ab,ao,none⟩:Addr).add (i * P.cellsOf e + j) = ⟨ab,ao + (i * P.cellsOf e + j),none⟩:=by
          unfold Addr.add; split
          ·rename_i h; rw [h]; rfl
          ·rfl
         rwa [e] at this
       ·obtain ⟨hlt,rfl⟩:=hget i d hi
        obtain ⟨q1,q2,q3⟩:=(hS i hlt).2
        rw [packT_cells q1] at hj
        have hjl:=(List.getElem?_eq_some_iff.1 hj).1
        refine q3 j c _ hj ?_
        rw [List.getD_eq_getElem?_getD,List.getElem?_eq_getElem (by omega)]; rfl
      rw [hL2] at key
      exact key
  ·rename_i fs hu
   split at ht
   case isFalse=>cases ht
   rename_i hoff
   obtain ⟨Ts,hTs,rfl⟩:=Option.map_eq_some_iff.1 ht
   obtain ⟨xs,m,_,rfl,hl,hxs,hf⟩:=DataW.trod_struct hu h
   simp only [DataW.weights,hu] at hw
   have:=typed_parts (n:=n) (m:=m) (fun h1 h2 h3=>typed_in n h1 h2 h3) (cs:=cs) (fs.toList.map fun f=>(f.offset,f.type)) 0 Ts xs (by rw [hl]; exact hoff) (by rw [List.map_map]; exact hTs) (by simpa using hxs)
    (fun i f hfi=>by
     rw [List.getElem?_map,Option.map_eq_some_iff] at hfi
     obtain ⟨g,hg,rfl⟩:=hfi
     exact hf i g (by simpa using hg)) (by rw [List.map_map]; exact hw)
   simpa using this
  ·rename_i k e hu
   split at ht
   case isFalse=>cases ht
   rename_i hoff
   obtain ⟨Ts,hTs,rfl⟩:=Option.map_eq_some_iff.1 ht
   obtain ⟨xs,m,_,rfl,hl,hxs,hf⟩:=DataW.trod_array hu h
   simp only [DataW.weights,hu] at hw
   have hm:(placesOf k (P.cellsOf e) e k).map (·.2) = List.replicate k e:=by
    have:∀ j,(placesOf k (P.cellsOf e) e j).map (·.2) = List.replicate j e:=by
     intro j
     induction j with
     | zero=>rfl
     | succ j ih=>rw [placesOf,List.map_cons,ih,List.replicate_succ]
    exact this k
   have hlen:(placesOf k (P.cellsOf e) e k).length = k:=by
    have:=congrArg List.length hm
    simpa using this
   have:=typed_parts (n:=n) (m:=m) (fun h1 h2 h3=>typed_in n h1 h2 h3) (cs:=cs) (placesOf k (P.cellsOf e) e k) 0 Ts xs (by rw [hl]; exact hoff) (by rw [hm]; exact hTs) (by rw [hlen,hxs])
    (fun i f hfi=>by
     obtain ⟨h1,rfl⟩:=placesOf_get _ _ _ _ _ _ (Nat.le_refl _) hfi
     rw [Nat.sub_self,Nat.zero_add]
     exact hf i h1) (by rw [hm]; exact weights_rep (by rw [List.length_map,hxs]) hw)
   simpa using this
  ·cases ht
end
end
section
/-
 Plain facts about texts as lists of bytes: the order 'bytesLess',the common front,what parts two texts. No program,no world.
-/
namespace kp
open Go.Op (bytesLess)
def common:List UInt8->List UInt8->Nat
 | a :: x,b :: y=>if a = b then common x y + 1 else 0
 | _,_=>0
end kp
end
section
/-
 Spans on the plain machine: the code's.
-/
open Go.RowKit
attribute [local go_sem ↓] runOp headOp
structure Spn where
 lo:ByteArray
 hi:ByteArray
 op:Bool
deriving DecidableEq
def Spn.a (s:Spn):AV:=.agg [.str s.lo,.str s.hi,.bool s.op]
def lt (a b:ByteArray):Bool:=Op.bytesLess a.toList b.toList
def Spn.has (s:Spn) (k:ByteArray):Bool:=!lt k s.lo && (s.op || lt k s.hi)
def Spn.empty (s:Spn):Bool:=!s.op && !lt s.lo s.hi
def Spn.none:Spn:=⟨⟨#[]⟩,⟨#[]⟩,false⟩
def Spn.norm (s:Spn):Spn:=if s.empty then Spn.none else if s.op then ⟨s.lo,⟨#[]⟩,true⟩ else s
def maxS (a b:ByteArray):ByteArray:=if lt a b then b else a
def minS (a b:ByteArray):ByteArray:=if lt b a then b else a
def Spn.cut (a b:Spn):Spn:=⟨maxS a.lo b.lo,if a.op then b.hi else if b.op then a.hi else minS a.hi b.hi,a.op && b.op⟩
def Spn.meet (a b:Spn):Spn:=(a.cut b).norm
def Spn.within (a b:Spn):Bool:=decide ((a.meet b).norm = a.norm)
def Spn.touch (a b:Spn):Bool:=!(a.meet b).empty
/-! ### percolate/span.Empty -/
/-! ### percolate/span.Norm -/
/-! ### percolate/span.Meet -/
attribute [local irreducible] mxS mnS
theorem Spn.ext' {a b:Spn} (h1:a.lo = b.lo) (h2:a.hi = b.hi) (h3:a.op = b.op):a = b:=by cases a; cases b; simp_all
def pointS (k:ByteArray):Spn:=⟨k,k ++ ⟨#[0]⟩,false⟩
end
section
/-
 Effects and messages on the plain machine: the code's.
-/
open Go.RowKit
structure Eff where
 kind:Int
 val:ByteArray
deriving DecidableEq
structure Msg where
 stamp:Int
 kind:Int
 key:ByteArray
 hi:ByteArray
 op:Bool
 val:ByteArray
deriving DecidableEq
def Eff.a (e:Eff):AV:=.agg [.int .i64 e.kind,.str e.val]
def Msg.a (m:Msg):AV:=.agg [.int .i64 m.stamp,.int .i64 m.kind,.str m.key,.str m.hi,.bool m.op,.str m.val]
def Eff.none:Eff:=⟨0,⟨#[]⟩⟩
def Msg.span (m:Msg):Spn:=if m.kind = 4 then ⟨m.key,m.hi,m.op⟩ else pointS m.key
def Msg.on (m:Msg) (k:ByteArray):Eff:=if m.span.has k = true then (if m.kind = 1∨m.kind = 2 then ⟨m.kind,m.val⟩ else if m.kind = 3∨m.kind = 4 then ⟨3,⟨#[]⟩⟩ else Eff.none) else Eff.none
end
section
/-
 Lists of messages on the plain machine: the library's functions,Next,Dead.
-/
open Go.RowKit
def MOk (l:List Msg):Prop:=l.length≤1000000∧∀ m,m ∈ l->m.key.size≤9223372036854775806
def firstFrom (p:Nat->Bool):Nat->Nat->Option Nat
 | 0,_=>none
 | f + 1,j=>if p j then some j else firstFrom p f (j + 1)
def nextOf (l:List Msg) (i:Nat):Option Nat:=match l[i]? with
 | some m=>firstFrom (fun j=>(l[j]?).any fun x=>x.span.touch m.span) (l.length - (i + 1)) (i + 1)
 | none=>none
def cov (l:List Msg) (i:Nat):Bool:=match l[i]? with
 | some m=>(l.drop (i + 1)).any fun x=>x.kind == 4 && m.span.within x.span
 | none=>false
def dead (l:List Msg) (i:Nat):Bool:=match l[i]? with
 | some m=>if m.kind = 4 then cov l i else match nextOf l i with
  | some j=>(l[j]?).any fun x=>x.kind != 2
  | none=>false
 | none=>false
end
section
/-
 Squeeze on the plain machine.
-/
open Go.RowKit
def ROk (l:List Msg):Prop:=l.length≤1000000∧∀ m,m ∈ l->m.key.size≤9223372036854775806∧m.val.size≤4611686018427387903
theorem ROk.ok {l:List Msg} (h:ROk l):MOk l:=⟨h.1,fun m hm=>(h.2 m hm).1⟩
end
section
/-
 The document's messages on the plain machine: may they be,are they few.
-/
open Go.RowKit
attribute [local go_sem ↓] runOp headOp
abbrev nilS (s:ByteArray):Bool:=s.toList == (ByteArray.mk #[]).toList
def Msg.right (m : Msg) : Bool := decide (1 ≤ m.stamp) && decide (m.key.size ≤ 16) && decide (m.val.size ≤ 16) && decide (m.hi.size ≤ 16) &&
  (if m.kind = 4 then nilS m.val && (!m.op || nilS m.hi) && !m.span.empty
   else nilS m.hi && !m.op && ((m.kind == 1) || (m.kind == 2) || ((m.kind == 3) && nilS m.val)))
/-! ### percolate/percolateref05.Right -/
/-! ### Few,All -/
def Msg.bulk (m:Msg):Nat:=1 + m.key.size + m.hi.size + m.val.size
/-! ### percolate/percolateref05.Few -/
/-! ### percolate/percolateref05.All -/
end
section
/-
 The data of the trees: messages,pairs,nodes,latches; and that what came in of their types is such.
-/
open Go.RowKit
theorem st_cons {T:Ty} {fs:List Ty} {ds:List AV} (h:TypedC (.st (T :: fs)) ds):∃ c r,ds = c ++ r∧TypedC T c∧TypedC (.st fs) r:=by
 cases h with
 | cons h1 h2=>exact ⟨_,_,rfl,h1,h2⟩
theorem st_nil {ds:List AV} (h:TypedC (.st []) ds):ds = []:=by cases h; rfl
theorem int_inv {ds:List AV} (h:TypedC (.int .i64) ds):∃ n,ds = [.int .i64 n]∧-9223372036854775808≤n∧n≤9223372036854775807:=by
 cases h with
 | int k n h=>exact ⟨n,rfl,bounds_i64 h⟩
theorem str_inv {ds:List AV} (h:TypedC .str ds):∃ s,ds = [.str s]∧s.size≤281474976710656:=by
 cases h with
 | str s h=>exact ⟨s,rfl,h⟩
theorem bool_inv {ds:List AV} (h:TypedC .bool ds):∃ b,ds = [.bool b]:=by
 cases h with
 | bool b=>exact ⟨b,rfl⟩
theorem sl_of {α:Type} (f:α->AV) (ok:α->Prop) {T:Ty} {ds:List AV} (h:TypedC (.sl T) ds) (hel:∀ c,TypedC T c->∃ a,packT T c = f a∧ok a):∃ l:List α,ds = [.sl (l.map f)]∧l.length≤281474976710656∧∀ a,a ∈ l->ok a:=by
 cases h with
 | sl T ls hlen h =>
  have:∃ l:List α,ls.map (packT T) = l.map f∧l.length = ls.length∧∀ a,a ∈ l->ok a:=by
   clear hlen
   induction ls with
   | nil=>exact ⟨[],rfl,rfl,fun a ha=>by cases ha⟩
   | cons c ls ih =>
    obtain ⟨l,h1,h2,h3⟩:=ih fun x hx=>h x (List.mem_cons_of_mem _ hx)
    obtain ⟨a,ha,hok⟩:=hel c (h c (List.mem_cons_self ..))
    refine ⟨a :: l,by rw [List.map_cons,List.map_cons,h1,ha],by rw [List.length_cons,List.length_cons,h2],fun b hb=>?_⟩
    rcases List.mem_cons.1 hb with rfl | hb
    ·exact hok
    ·exact h3 b hb
  obtain ⟨l,h1,h2,h3⟩:=this
  exact ⟨l,by rw [h1],by omega,h3⟩
structure Msg.ok (x:Msg):Prop where
 stamp:(-9223372036854775808≤x.stamp∧x.stamp≤9223372036854775807)
 kind:(-9223372036854775808≤x.kind∧x.kind≤9223372036854775807)
 key:x.key.size≤281474976710656
 hi:x.hi.size≤281474976710656
 op:True
 val:x.val.size≤281474976710656
def MsgT:Ty:=.st [.int .i64,.int .i64,.str,.str,.bool,.str]
theorem Msg.of {c:List AV} (h:TypedC MsgT c):∃ x:Msg,AV.agg c = x.a∧x.ok:=by
 obtain ⟨c0,r0,rfl,h0,h⟩:=st_cons h
 obtain ⟨c1,r1,rfl,h1,h⟩:=st_cons h
 obtain ⟨c2,r2,rfl,h2,h⟩:=st_cons h
 obtain ⟨c3,r3,rfl,h3,h⟩:=st_cons h
 obtain ⟨c4,r4,rfl,h4,h⟩:=st_cons h
 obtain ⟨c5,r5,rfl,h5,h⟩:=st_cons h
 obtain rfl:=st_nil h
 obtain ⟨v0,rfl,b0⟩:=int_inv h0
 obtain ⟨v1,rfl,b1⟩:=int_inv h1
 obtain ⟨v2,rfl,b2⟩:=str_inv h2
 obtain ⟨v3,rfl,b3⟩:=str_inv h3
 obtain ⟨v4,rfl⟩:=bool_inv h4
 have b4:=True.intro
 obtain ⟨v5,rfl,b5⟩:=str_inv h5
 exact ⟨⟨v0,v1,v2,v3,v4,v5⟩,rfl,⟨b0,b1,b2,b3,b4,b5⟩⟩
structure Par where
 key:ByteArray
 val:ByteArray
def Par.a (x:Par):AV:=.agg [.str x.key,.str x.val]
structure Par.ok (x:Par):Prop where
 key:x.key.size≤281474976710656
 val:x.val.size≤281474976710656
def ParT:Ty:=.st [.str,.str]
theorem Par.of {c:List AV} (h:TypedC ParT c):∃ x:Par,AV.agg c = x.a∧x.ok:=by
 obtain ⟨c0,r0,rfl,h0,h⟩:=st_cons h
 obtain ⟨c1,r1,rfl,h1,h⟩:=st_cons h
 obtain rfl:=st_nil h
 obtain ⟨v0,rfl,b0⟩:=str_inv h0
 obtain ⟨v1,rfl,b1⟩:=str_inv h1
 exact ⟨⟨v0,v1⟩,rfl,⟨b0,b1⟩⟩
structure Nd where
 slot:Int
 level:Int
 pivots:List ByteArray
 kids:List Int
 high:ByteArray
 top:Bool
 right:Int
 seen:Int
 msgs:List Msg
 rows:List Par
def Nd.a (x:Nd):AV:=.agg [.int .i64 x.slot,.int .i64 x.level,.sl (x.pivots.map AV.str),.sl (x.kids.map (AV.int .i64)),.str x.high,.bool x.top,.int .i64 x.right,.int .i64 x.seen,.sl (x.msgs.map Msg.a),.sl (x.rows.map Par.a)]
structure Nd.ok (x:Nd):Prop where
 slot:(-9223372036854775808≤x.slot∧x.slot≤9223372036854775807)
 level:(-9223372036854775808≤x.level∧x.level≤9223372036854775807)
 pivots:(x.pivots.length≤281474976710656∧∀ z,z ∈ x.pivots->z.size≤281474976710656)
 kids:(x.kids.length≤281474976710656∧∀ z,z ∈ x.kids->(-9223372036854775808≤z∧z≤9223372036854775807))
 high:x.high.size≤281474976710656
 top:True
 right:(-9223372036854775808≤x.right∧x.right≤9223372036854775807)
 seen:(-9223372036854775808≤x.seen∧x.seen≤9223372036854775807)
 msgs:(x.msgs.length≤281474976710656∧∀ z,z ∈ x.msgs->z.ok)
 rows:(x.rows.length≤281474976710656∧∀ z,z ∈ x.rows->z.ok)
def NdT:Ty:=.st [.int .i64,.int .i64,.sl (.str),.sl (.int .i64),.str,.bool,.int .i64,.int .i64,.sl MsgT,.sl ParT]
theorem Nd.of {c:List AV} (h:TypedC NdT c):∃ x:Nd,AV.agg c = x.a∧x.ok:=by
 obtain ⟨c0,r0,rfl,h0,h⟩:=st_cons h
 obtain ⟨c1,r1,rfl,h1,h⟩:=st_cons h
 obtain ⟨c2,r2,rfl,h2,h⟩:=st_cons h
 obtain ⟨c3,r3,rfl,h3,h⟩:=st_cons h
 obtain ⟨c4,r4,rfl,h4,h⟩:=st_cons h
 obtain ⟨c5,r5,rfl,h5,h⟩:=st_cons h
 obtain ⟨c6,r6,rfl,h6,h⟩:=st_cons h
 obtain ⟨c7,r7,rfl,h7,h⟩:=st_cons h
 obtain ⟨c8,r8,rfl,h8,h⟩:=st_cons h
 obtain ⟨c9,r9,rfl,h9,h⟩:=st_cons h
 obtain rfl:=st_nil h
 obtain ⟨v0,rfl,b0⟩:=int_inv h0
 obtain ⟨v1,rfl,b1⟩:=int_inv h1
 obtain ⟨v2,rfl,b2⟩:=sl_of AV.str (fun z:ByteArray=>z.size≤281474976710656) h2 (fun c hc=>by obtain ⟨v,rfl,b⟩:=str_inv hc; exact ⟨v,rfl,b⟩)
 obtain ⟨v3,rfl,b3⟩:=sl_of (AV.int .i64) (fun z:Int=>-9223372036854775808≤z∧z≤9223372036854775807) h3 (fun c hc=>by obtain ⟨v,rfl,b⟩:=int_inv hc; exact ⟨v,rfl,b⟩)
 obtain ⟨v4,rfl,b4⟩:=str_inv h4
 obtain ⟨v5,rfl⟩:=bool_inv h5
 have b5:=True.intro
 obtain ⟨v6,rfl,b6⟩:=int_inv h6
 obtain ⟨v7,rfl,b7⟩:=int_inv h7
 obtain ⟨v8,rfl,b8⟩:=sl_of Msg.a Msg.ok h8 (fun c hc=>Msg.of hc)
 obtain ⟨v9,rfl,b9⟩:=sl_of Par.a Par.ok h9 (fun c hc=>Par.of hc)
 exact ⟨⟨v0,v1,v2,v3,v4,v5,v6,v7,v8,v9⟩,rfl,⟨b0,b1,b2,b3,b4,b5,b6,b7,b8,b9⟩⟩
structure Hld where
 thread:Int
 slot:Int
 wr:Bool
def Hld.a (x:Hld):AV:=.agg [.int .i64 x.thread,.int .i64 x.slot,.bool x.wr]
structure Hld.ok (x:Hld):Prop where
 thread:(-9223372036854775808≤x.thread∧x.thread≤9223372036854775807)
 slot:(-9223372036854775808≤x.slot∧x.slot≤9223372036854775807)
 wr:True
def HldT:Ty:=.st [.int .i64,.int .i64,.bool]
theorem Hld.of {c:List AV} (h:TypedC HldT c):∃ x:Hld,AV.agg c = x.a∧x.ok:=by
 obtain ⟨c0,r0,rfl,h0,h⟩:=st_cons h
 obtain ⟨c1,r1,rfl,h1,h⟩:=st_cons h
 obtain ⟨c2,r2,rfl,h2,h⟩:=st_cons h
 obtain rfl:=st_nil h
 obtain ⟨v0,rfl,b0⟩:=int_inv h0
 obtain ⟨v1,rfl,b1⟩:=int_inv h1
 obtain ⟨v2,rfl⟩:=bool_inv h2
 have b2:=True.intro
 exact ⟨⟨v0,v1,v2⟩,rfl,⟨b0,b1,b2⟩⟩
structure Cfg where
 fanout:Int
 leaf:Int
 budget:Int
 slots:Int
 restarts:Int
def Cfg.a (x:Cfg):AV:=.agg [.int .i64 x.fanout,.int .i64 x.leaf,.int .i64 x.budget,.int .i64 x.slots,.int .i64 x.restarts]
structure Cfg.ok (x:Cfg):Prop where
 fanout:(-9223372036854775808≤x.fanout∧x.fanout≤9223372036854775807)
 leaf:(-9223372036854775808≤x.leaf∧x.leaf≤9223372036854775807)
 budget:(-9223372036854775808≤x.budget∧x.budget≤9223372036854775807)
 slots:(-9223372036854775808≤x.slots∧x.slots≤9223372036854775807)
 restarts:(-9223372036854775808≤x.restarts∧x.restarts≤9223372036854775807)
def CfgT:Ty:=.st [.int .i64,.int .i64,.int .i64,.int .i64,.int .i64]
theorem Cfg.of {c:List AV} (h:TypedC CfgT c):∃ x:Cfg,AV.agg c = x.a∧x.ok:=by
 obtain ⟨c0,r0,rfl,h0,h⟩:=st_cons h
 obtain ⟨c1,r1,rfl,h1,h⟩:=st_cons h
 obtain ⟨c2,r2,rfl,h2,h⟩:=st_cons h
 obtain ⟨c3,r3,rfl,h3,h⟩:=st_cons h
 obtain ⟨c4,r4,rfl,h4,h⟩:=st_cons h
 obtain rfl:=st_nil h
 obtain ⟨v0,rfl,b0⟩:=int_inv h0
 obtain ⟨v1,rfl,b1⟩:=int_inv h1
 obtain ⟨v2,rfl,b2⟩:=int_inv h2
 obtain ⟨v3,rfl,b3⟩:=int_inv h3
 obtain ⟨v4,rfl,b4⟩:=int_inv h4
 exact ⟨⟨v0,v1,v2,v3,v4⟩,rfl,⟨b0,b1,b2,b3,b4⟩⟩
structure Gau where
 nodes:Int
 leaves:Int
 height:Int
 rows:Int
 msgs:Int
 bytes:Int
 empty:Int
 levels:List Int
 waits:List Int
def Gau.a (x:Gau):AV:=.agg [.int .i64 x.nodes,.int .i64 x.leaves,.int .i64 x.height,.int .i64 x.rows,.int .i64 x.msgs,.int .i64 x.bytes,.int .i64 x.empty,.sl (x.levels.map (AV.int .i64)),.sl (x.waits.map (AV.int .i64))]
structure Gau.ok (x:Gau):Prop where
 nodes:(-9223372036854775808≤x.nodes∧x.nodes≤9223372036854775807)
 leaves:(-9223372036854775808≤x.leaves∧x.leaves≤9223372036854775807)
 height:(-9223372036854775808≤x.height∧x.height≤9223372036854775807)
 rows:(-9223372036854775808≤x.rows∧x.rows≤9223372036854775807)
 msgs:(-9223372036854775808≤x.msgs∧x.msgs≤9223372036854775807)
 bytes:(-9223372036854775808≤x.bytes∧x.bytes≤9223372036854775807)
 empty:(-9223372036854775808≤x.empty∧x.empty≤9223372036854775807)
 levels:(x.levels.length≤281474976710656∧∀ z,z ∈ x.levels->(-9223372036854775808≤z∧z≤9223372036854775807))
 waits:(x.waits.length≤281474976710656∧∀ z,z ∈ x.waits->(-9223372036854775808≤z∧z≤9223372036854775807))
def GauT:Ty:=.st [.int .i64,.int .i64,.int .i64,.int .i64,.int .i64,.int .i64,.int .i64,.sl (.int .i64),.sl (.int .i64)]
theorem Gau.of {c:List AV} (h:TypedC GauT c):∃ x:Gau,AV.agg c = x.a∧x.ok:=by
 obtain ⟨c0,r0,rfl,h0,h⟩:=st_cons h
 obtain ⟨c1,r1,rfl,h1,h⟩:=st_cons h
 obtain ⟨c2,r2,rfl,h2,h⟩:=st_cons h
 obtain ⟨c3,r3,rfl,h3,h⟩:=st_cons h
 obtain ⟨c4,r4,rfl,h4,h⟩:=st_cons h
 obtain ⟨c5,r5,rfl,h5,h⟩:=st_cons h
 obtain ⟨c6,r6,rfl,h6,h⟩:=st_cons h
 obtain ⟨c7,r7,rfl,h7,h⟩:=st_cons h
 obtain ⟨c8,r8,rfl,h8,h⟩:=st_cons h
 obtain rfl:=st_nil h
 obtain ⟨v0,rfl,b0⟩:=int_inv h0
 obtain ⟨v1,rfl,b1⟩:=int_inv h1
 obtain ⟨v2,rfl,b2⟩:=int_inv h2
 obtain ⟨v3,rfl,b3⟩:=int_inv h3
 obtain ⟨v4,rfl,b4⟩:=int_inv h4
 obtain ⟨v5,rfl,b5⟩:=int_inv h5
 obtain ⟨v6,rfl,b6⟩:=int_inv h6
 obtain ⟨v7,rfl,b7⟩:=sl_of (AV.int .i64) (fun z:Int=>-9223372036854775808≤z∧z≤9223372036854775807) h7 (fun c hc=>by obtain ⟨v,rfl,b⟩:=int_inv hc; exact ⟨v,rfl,b⟩)
 obtain ⟨v8,rfl,b8⟩:=sl_of (AV.int .i64) (fun z:Int=>-9223372036854775808≤z∧z≤9223372036854775807) h8 (fun c hc=>by obtain ⟨v,rfl,b⟩:=int_inv hc; exact ⟨v,rfl,b⟩)
 exact ⟨⟨v0,v1,v2,v3,v4,v5,v6,v7,v8⟩,rfl,⟨b0,b1,b2,b3,b4,b5,b6,b7,b8⟩⟩
/-- an element's place,a number's next -/
theorem at_map {α:Type} {f:α->AV} {l:List α} {j:Nat} {x:α} (h:l[j]? = some x):(l.map f).getD j .und = f x:=by
 rw [List.getD_eq_getElem?_getD,List.getElem?_map,h]; rfl
theorem get_lt {α:Type} {l:List α} {j:Nat} (h:j < l.length):∃ x,l[j]? = some x:=⟨_,List.getElem?_eq_getElem h⟩
theorem wrapS {j:Nat} (h:j≤1000000000000000):IntKind.i64.wrap ((j:Int) + 1) = ((j + 1:Nat):Int):=by rw [IntWalk.i64_in _ (by omega)]; rfl
theorem drop_at {α:Type} {l:List α} {j:Nat} {x:α} (h:l[j]? = some x):l.drop j = x :: l.drop (j + 1):=by
 obtain ⟨hlt,e⟩:=List.getElem?_eq_some_iff.1 h
 rw [List.drop_eq_getElem_cons hlt,e]
theorem take_at {α:Type} {l:List α} {j:Nat} {x:α} (h:l[j]? = some x):l.take (j + 1) = l.take j ++ [x]:=by
 rw [List.take_add_one,h]; rfl
end
section
/-
 Nodes drawn as lines: in plain terms.
-/
open Go.RowKit
/-- blanks,two by two -/
def padF:Nat->ByteArray
 | 0=>⟨#[]⟩
 | n + 1=>padF n ++ ⟨#[32,32]⟩
theorem padF_size:∀ n,(padF n).size = 2 * n
 | 0=>rfl
 | n + 1=>by
  rw [padF,ByteArray.size_append,padF_size n]
  show 2 * n + 2 = _
  omega
theorem padF_rep:∀ n,(padF n).data.toList = List.replicate (2 * n) 32
 | 0=>rfl
 | n + 1=>by
  rw [padF,ByteArray.data_append,Array.toList_append,padF_rep n,show 2 * (n + 1) = 2 * n + 2 by omega,← List.replicate_append_replicate]; rfl
theorem rep_pad:∀ n,Lib.repeatL [32,32] n = List.replicate (2 * n) 32
 | 0=>rfl
 | n + 1=>by
  rw [Lib.repeatL,rep_pad n,show 2 * (n + 1) = 2 + 2 * n by omega,← List.replicate_append_replicate]; rfl
theorem pad_of_rep (n:Nat):(⟨(Lib.repeatL (⟨#[32,32]⟩:ByteArray).data.toList n).toArray⟩:ByteArray) = padF n:=by
 apply ba_ext
 rw [padF_rep]
 exact rep_pad n
/-- how far a line goes in -/
def deepN (d:Int):Nat:=(min (max d 0) 100).toNat
theorem deepN_le (d:Int):deepN d≤100:=by unfold deepN; omega
def endsF (s:Spn):ByteArray:=if s.op then quoteF s.lo ++ (⟨#[46,46,42]⟩:ByteArray) else quoteF s.lo ++ (⟨#[46,46]⟩:ByteArray) ++ quoteF s.hi
def headF (n:Nd) (d:Int):ByteArray:=padF (deepN d) ++ decS n.slot
def rowsW (l:List Par):List ByteArray:=l.map fun p=>quoteF p.key
def lineW (n:Nd) (s:Spn) (d:Int):List ByteArray :=
 if n.level = 0 then [headF n d,endsF s,(⟨#[114,111,119,115]⟩:ByteArray),decS n.rows.length] ++ rowsW n.rows
 else [headF n d,endsF s,(⟨#[107,105,100,115]⟩:ByteArray),decS n.kids.length,(⟨#[109,115,103,115]⟩:ByteArray),decS n.msgs.length]
def Nd.shp (n:Nd) (s:Spn) (d:Int):ByteArray:=joinB (lineW n s d) (⟨#[32]⟩:ByteArray)
theorem decS_short (n:Int) (h0:-9223372036854775808≤n) (h1:n≤9223372036854775807):(decS n).size≤30:=by
 have:=Lib.itoa_length_le n (by omega) (by omega)
 rw [decS_size]; omega
theorem endsF_size (s:Spn) (h1:s.lo.size≤2000) (h2:s.hi.size≤2000):(endsF s).size≤12010:=by
 have q1:=quoteF_size s.lo
 have q2:=quoteF_size s.hi
 have e1:(⟨#[46,46,42]⟩:ByteArray).size = 3:=rfl
 have e2:(⟨#[46,46]⟩:ByteArray).size = 2:=rfl
 unfold endsF
 split <;> simp only [ByteArray.size_append,e1,e2] <;> omega
structure Nd.Thin (n:Nd):Prop where
 slot:-9223372036854775808≤n.slot∧n.slot≤9223372036854775807
 nkid:n.kids.length≤2000
 nrow:n.rows.length≤2000
 rws:∀ p,p ∈ n.rows->p.key.size≤2000
 nmsg:n.msgs.length≤2000
theorem headF_size (n:Nd) (d:Int) (h:n.Thin):(headF n d).size≤230:=by
 have a:=padF_size (deepN d)
 have b:=deepN_le d
 have c:=decS_short n.slot h.slot.1 h.slot.2
 unfold headF
 rw [ByteArray.size_append]; omega
theorem lineW_ok (n:Nd) (s:Spn) (d:Int) (h:n.Thin) (h1:s.lo.size≤2000) (h2:s.hi.size≤2000):(lineW n s d).length≤2004 + 2∧∀ x,x ∈ lineW n s d->x.size≤12010:=by
 have a:=headF_size n d h
 have b:=endsF_size s h1 h2
 have c1:=h.nrow
 have c2:=h.nkid
 have c3:=h.nmsg
 have d1:=decS_short n.rows.length (by omega) (by omega)
 have d2:=decS_short n.kids.length (by omega) (by omega)
 have d3:=decS_short n.msgs.length (by omega) (by omega)
 have e1:(⟨#[114,111,119,115]⟩:ByteArray).size = 4:=rfl
 have e2:(⟨#[107,105,100,115]⟩:ByteArray).size = 4:=rfl
 have e3:(⟨#[109,115,103,115]⟩:ByteArray).size = 4:=rfl
 unfold lineW
 by_cases h0:n.level = 0
 ·rw [if_pos h0]
  constructor
  ·unfold rowsW
   simp only [List.length_append,List.length_cons,List.length_nil,List.length_map]; omega
  ·intro x hx
   rcases List.mem_append.1 hx with hx | hx
   ·simp only [List.mem_cons,List.not_mem_nil,or_false] at hx
    rcases hx with rfl | rfl | rfl | rfl <;> omega
   ·obtain ⟨p,hp,rfl⟩:=List.mem_map.1 hx
    have:=quoteF_size p.key
    have:=h.rws p hp
    omega
 ·rw [if_neg h0]
  constructor
  ·simp only [List.length_cons,List.length_nil]; omega
  ·intro x hx
   simp only [List.mem_cons,List.not_mem_nil,or_false] at hx
   rcases hx with rfl | rfl | rfl | rfl | rfl | rfl <;> omega
/-! ### joined words,one by one -/
/-- the line's words ahead of the rows,as the document adds them up -/
theorem shp_kids (n:Nd) (s:Spn) (d:Int) (h0:¬ n.level = 0):n.shp s d = headF n d ++ (⟨#[32]⟩:ByteArray) ++ endsF s ++ (⟨#[32,107,105,100,115,32]⟩:ByteArray) ++ decS n.kids.length ++ (⟨#[32,109,115,103,115,32]⟩:ByteArray) ++ decS n.msgs.length:=by
 unfold Nd.shp lineW
 rw [if_neg h0]
 apply ba_ext
 show Lib.join _ _ = _
 simp only [List.map_cons,List.map_nil,Lib.join_cons,Lib.joinTail,ByteArray.data_append,Array.toList_append,List.flatten_cons,List.flatten_nil,List.append_assoc,List.append_nil]
 rfl
/-- a leaf's line up to its row j -/
def shpR (n:Nd) (s:Spn) (d:Int) (j:Nat):ByteArray:=joinB ([headF n d,endsF s,(⟨#[114,111,119,115]⟩:ByteArray),decS n.rows.length] ++ rowsW (n.rows.take j)) (⟨#[32]⟩:ByteArray)
theorem shpR_zero (n:Nd) (s:Spn) (d:Int):shpR n s d 0 = headF n d ++ (⟨#[32]⟩:ByteArray) ++ endsF s ++ (⟨#[32,114,111,119,115,32]⟩:ByteArray) ++ decS n.rows.length:=by
 unfold shpR
 apply ba_ext
 show Lib.join _ _ = _
 simp only [List.take_zero,rowsW,List.map_nil,List.append_nil,List.map_cons,Lib.join_cons,Lib.joinTail,ByteArray.data_append,Array.toList_append,List.flatten_cons,List.flatten_nil,List.append_assoc]
 rfl
theorem shpR_next (n:Nd) (s:Spn) (d:Int) {j:Nat} {x:Par} (h:n.rows[j]? = some x):shpR n s d (j + 1) = shpR n s d j ++ (⟨#[32]⟩:ByteArray) ++ quoteF x.key:=by
 unfold shpR rowsW
 rw [take_at h,List.map_append,List.map_cons,List.map_nil,← List.append_assoc,joinB_app _ _ _ (by simp),ba_assoc]
theorem shpR_all (n:Nd) (s:Spn) (d:Int) (h0:n.level = 0):shpR n s d n.rows.length = n.shp s d:=by
 unfold shpR Nd.shp lineW
 rw [if_pos h0,List.take_length]
theorem shpR_size (n:Nd) (s:Spn) (d:Int) (j:Nat) (h:n.Thin) (h0:n.level = 0) (h1:s.lo.size≤2000) (h2:s.hi.size≤2000):(shpR n s d j).size≤2006 * 12011:=by
 have a:=lineW_ok n s d h h1 h2
 have e:(⟨#[32]⟩:ByteArray).size = 1:=rfl
 have hs:∀ x,x ∈ ([headF n d,endsF s,(⟨#[114,111,119,115]⟩:ByteArray),decS n.rows.length] ++ rowsW (n.rows.take j))->x ∈ lineW n s d:=by
  intro x hx
  unfold lineW
  rw [if_pos h0]
  rcases List.mem_append.1 hx with hx | hx
  ·exact List.mem_append_left _ hx
  ·refine List.mem_append_right _ ?_
   obtain ⟨p,hp,rfl⟩:=List.mem_map.1 hx
   exact List.mem_map.2 ⟨p,List.mem_of_mem_take hp,rfl⟩
 have hl:([headF n d,endsF s,(⟨#[114,111,119,115]⟩:ByteArray),decS n.rows.length] ++ rowsW (n.rows.take j)).length≤2006:=by
  have:=h.nrow
  unfold rowsW
  simp only [List.length_append,List.length_cons,List.length_nil,List.length_map,List.length_take]; omega
 have b:=joinB_size (⟨#[32]⟩:ByteArray) 12011 _ (fun x hx=>by
  have:=a.2 x (hs x hx)
  rw [e]; omega)
 have:=Nat.mul_le_mul_right 12011 hl
 unfold shpR
 omega
end
end Go.Proofs.YtkfciapeikkmfaaDoor
