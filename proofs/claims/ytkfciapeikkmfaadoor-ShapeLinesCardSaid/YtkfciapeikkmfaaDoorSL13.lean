/-
  'Rows.ShapeLinesSaid' is proved: the law percolatelaw58.ShapeLines returns true at every input, and its arguments read as they did. No condition.
-/
import Derived.SizedLaws
import Derived.Test.YtkfciapeikkmfaaDoorCards
import Derived.Test.YtkfciapeikkmfaaDoorTie
import Derived.Deep.DeepHandedRow
import Derived.LaidLaws
import Derived.Lay
import Derived.SevenTiedAt
import Derived.Test.YtkfciapeikkmfaaDoorSL12
set_option linter.unusedVariables false
set_option linter.unusedSimpArgs false
set_option maxRecDepth 100000
namespace Go.Proofs.YtkfciapeikkmfaaDoor
attribute [go_sem] ev0 ev1 ev2 ev3 ev4 evA stHOk.eq_1 stHOk.eq_2 stHSt.eq_1 stHSt.eq_2 okV valV fzV okF valF okBld valBld mxOk.eq_1 mxOk.eq_2 mxVal.eq_1 mxVal.eq_2 cellFit.eq_1 cellFit.eq_2 cellFit.eq_3 cellEq.eq_1 cellEq.eq_2 cellEq.eq_3 upd_at AV.flatB AV.flatBs binIok binIV binSok binSV cellsOk.eq_1 cellsOk.eq_2 cellsVal.eq_1 cellsVal.eq_2 objCells.eq_1 objCells.eq_2 objZ.eq_1 objZ.eq_2 objProt.eq_1 objProt.eq_2 oneObj ptrOk.eq_1 ptrOk.eq_2 ptrOk.eq_3 ptrCells.eq_1 ptrCells.eq_2 ptrCells.eq_3 lenOk.eq_1 lenOk.eq_2 lenOk.eq_3 lenOk.eq_4 lenVal.eq_1 lenVal.eq_2 lenVal.eq_3 lenVal.eq_4 faOk.eq_1 faOk.eq_2 faOk.eq_3 faVal.eq_1 faVal.eq_2 faVal.eq_3 iaOk.eq_1 iaOk.eq_2 iaOk.eq_3 iaVal.eq_1 iaVal.eq_2 iaVal.eq_3 slcLen.eq_1 slcLen.eq_2 slcLen.eq_3 slcLen.eq_4 bdOk.eq_1 bdOk.eq_2 bdVal.eq_1 bdVal.eq_2 slcOk.eq_1 slcOk.eq_2 slcOk.eq_3 slcOk.eq_4 slcOk.eq_5 slcKV.eq_1 slcKV.eq_2 slcKV.eq_3 slcVal.eq_1 slcVal.eq_2 slcVal.eq_3 slcVal.eq_4 slcFz.eq_1 slcFz.eq_2 loK.eq_1 loK.eq_2 loK.eq_3 rsVal.eq_1 rsVal.eq_2 rsVal.eq_3 byOk.eq_1 byOk.eq_2 byOk.eq_3 byOk.eq_4 byOk.eq_5 byOk.eq_6 byOk.eq_7 byOk.eq_8 byVal.eq_1 byVal.eq_2 byVal.eq_3 byFz.eq_1 byFz.eq_2 byFz.eq_3 byOks byVals byFzs allOne resSt.eq_1 resSt.eq_2 resName.eq_1 resName.eq_2 stOk.eq_1 stOk.eq_2 stArr.eq_1 stArr.eq_2 stSt.eq_1 stSt.eq_2 AV.patch nameOk_none gB.eq_1 gB.eq_2 gB.eq_3 gIs.eq_1 gIs.eq_2 gIs.eq_3 retV resV resVs evalV cellsV St.byval List.getD_cons_zero List.getD_cons_succ List.getD_nil List.map_cons List.map_nil List.length_cons List.length_nil List.take_succ_cons List.take_zero List.drop_succ_cons List.drop_zero List.headD_cons List.set_cons_zero List.append_nil List.nil_append List.cons_append List.contains_cons List.contains_nil List.elem_cons List.elem_nil List.all_cons List.all_nil List.getElem?_cons_zero List.getElem?_cons_succ List.filterMap_cons List.filterMap_nil Option.isSome_some Option.isSome_none Option.map_some Option.map_none Option.some.injEq AV.int.injEq AV.bool.injEq AV.str.injEq AV.tup.injEq AV.agg.injEq AV.sl.injEq List.cons.injEq Bool.false_eq_true Bool.true_eq_false Bool.not_true Bool.not_false Bool.and_true Bool.true_and Bool.or_false Bool.or_true Bool.false_or Bool.true_or Bool.or_self Bool.and_self Bool.not_eq_true' Bool.not_eq_false' Bool.not_not beq_self_eq_true true_and and_true false_and and_false and_self not_true_eq_false not_false_eq_true forall_const true_implies false_implies implies_true imp_self Nat.lt_add_one Nat.le_refl Nat.zero_le Nat.add_zero Nat.zero_add decide_true decide_false decide_eq_true_eq decide_eq_false_iff_not exists_eq_left exists_eq_left' ge_iff_le gt_iff_lt ite_branch ite_branch' nilOk.eq_1 nilOk.eq_2 nilMay.eq_1 nilMay.eq_2 AV.isSl.eq_1 objTy'.eq_1 objTy'.eq_2 apSt.eq_1 apArr.eq_1 apArr.eq_2 apTwo.eq_1 apTwo.eq_2 apSt2.eq_1 apArr2.eq_1 apArr2.eq_2 slOf.eq_1 fitsV List.mem_cons List.not_mem_nil Bool.false_and Bool.and_false primOk.eq_1 primOk.eq_2 primOk.eq_3 primOk.eq_4 primOk.eq_5 primVal.eq_1 primVal.eq_2 primVal.eq_3 primVal.eq_4 primVal.eq_5 mOk.eq_1 mOk.eq_2 mVal.eq_1 mVal.eq_2 mFz.eq_1 mFz.eq_2 mOks mVals mFzs mCalOk.eq_1 mCalOk.eq_2 mFn.eq_1 mFn.eq_2 mArgs.eq_1 mArgs.eq_2 ckOk.eq_1 ckOk.eq_2 cloOk.eq_1 ptrAt.eq_1 sh.eq_1 sh.eq_2 sh.eq_3 sh.eq_4 sh.eq_5 sh.eq_6 retM shH_small evM entOk.eq_1 entOk.eq_2 ents.eq_1 ents.eq_2 kI.eq_1 mpOk.eq_1 mpR.eq_1 lkV.eq_1 lkV.eq_2 remp.eq_2 evP pvOk.eq_1 pvOk.eq_2 pvVal.eq_1 pvVal.eq_2 plOk.eq_1 plOk.eq_2 plOk.eq_3 plV.eq_1 plV.eq_2 plF.eq_1 plF.eq_2 plVal.eq_1 plVal.eq_2 plFz.eq_1 plFz.eq_2 lpOk.eq_1 lpOk.eq_2 lpVal.eq_1 lpVal.eq_2 lpFz.eq_1 lpFz.eq_2 stpOk.eq_1 stpOk.eq_2 stpSt.eq_1 stpSt.eq_2 stpArr.eq_1 keepS.eq_1 keepS.eq_2 evCl
section
/-
 Nodes drawn as lines: the code,walked.
-/
open Go.RowKit
attribute [local go_sem ↓] runOp headOp
/-! ### percolate/shape.Line -/
def t_shLine_0:List ROp:=[⟨.box 10 27 (.t 0),some 3,none,[4],[]⟩,⟨.box 3 29 (.t 1),some 4,none,[],[]⟩,⟨.mv (.c (.str ⟨#[]⟩)),some 6,none,[],[]⟩]
def r_shLine_0:Reg:=⟨[],t_shLine_0,[3,4],[],false⟩
def h_shLine_1:List ROp:=[⟨.mv (.t 2),some 10,none,[13,16,19,20],[]⟩,⟨.mx true (.t 10) (.c (.int .i64 0)),some 11,none,[13,16,19,20],[]⟩,⟨.mx false (.t 11) (.c (.int .i64 100)),some 12,none,[13,16,19,20],[]⟩,⟨.callv (.c (.clo 21 [] [])) [(.c (.str ⟨#[32,32]⟩)),(.t 12)],some 13,none,[16,19,20],[]⟩,⟨.faddr 0 (.t 3),some 14,none,[13,16,19,20],[]⟩,⟨.load 1 false (.t 14),some 15,none,[13,16,19,20],[]⟩,⟨.callv (.c (.clo 22 [] [])) [(.t 15)],some 16,none,[19,20],[]⟩,⟨.bin .add (.t 13) (.t 16),some 17,none,[19,20],[]⟩,⟨.load 3 true (.t 4),some 18,none,[13,16,19,20],[]⟩,⟨.callv (.c (.clo 23 [] [])) [(.t 18)],some 19,none,[20],[]⟩]
def r_shLine_1:Reg:=⟨h_shLine_1,[⟨.bsl 1 9 [(.t 17),(.t 19)],some 20,none,[],[]⟩,⟨.mv (.t 20),some 7,none,[],[]⟩],[13,16,19,20],[],true⟩
def t_shLine_2:List ROp:=[⟨.faddr 1 (.t 3),some 21,none,[],[]⟩,⟨.load 1 false (.t 21),some 22,none,[],[]⟩,⟨.bin .eql (.t 22) (.c (.int .i64 0)),some 23,none,[],[]⟩]
def r_shLine_2:Reg:=⟨[],t_shLine_2,[],[],false⟩
def t_shLine_3:List ROp:=[⟨.mv (.t 7),some 24,none,[28,29],[]⟩,⟨.faddr 9 (.t 3),some 25,none,[28,29],[]⟩,⟨.load 1 false (.t 25),some 26,none,[28,29],[]⟩,⟨.len false (.t 26),some 27,none,[28,29],[]⟩,⟨.callv (.c (.clo 22 [] [])) [(.t 27)],some 28,none,[29],[]⟩,⟨.bsl 1 9 [(.c (.str ⟨#[114,111,119,115]⟩)),(.t 28)],some 29,none,[],[]⟩,⟨.append 1 9 16 (.t 24) (.t 29),some 30,none,[],[]⟩,⟨.mv (.t 30),some 7,none,[],[]⟩]
def r_shLine_3:Reg:=⟨[],t_shLine_3,[28,29],[],false⟩
def t_shLine_4:List ROp:=[⟨.faddr 9 (.t 3),some 31,none,[],[]⟩,⟨.load 1 false (.t 31),some 32,none,[],[]⟩,⟨.len false (.t 32),some 33,none,[],[]⟩,⟨.mv (.c (.int .i64 0)),some 34,none,[],[]⟩]
def r_shLine_4:Reg:=⟨[],t_shLine_4,[],[],false⟩
def r_shLine_5:Reg:=⟨[],[⟨.bin .lss (.t 34) (.t 33),some 35,none,[],[]⟩],[],[],false⟩
def t_shLine_6:List ROp:=[⟨.iaddr 2 (.t 32) (.t 34),some 36,none,[9],[]⟩,⟨.load 2 true (.t 36),some 37,none,[9],[]⟩,⟨.alloc 2 54 (.agg [(.str ⟨#[]⟩),(.str ⟨#[]⟩)]),some 9,none,[],[]⟩,⟨.store 2 (.t 9) (.t 37),none,none,[],[]⟩]
def r_shLine_6:Reg:=⟨[],t_shLine_6,[9],[],false⟩
def t_shLine_7:List ROp:=[⟨.mv (.t 7),some 38,none,[41,42],[]⟩,⟨.faddr 0 (.t 9),some 39,none,[41,42],[]⟩,⟨.load 1 false (.t 39),some 40,none,[41,42],[]⟩,⟨.callv (.c (.clo 24 [] [])) [(.t 40)],some 41,none,[42],[]⟩,⟨.bsl 1 9 [(.t 41)],some 42,none,[],[]⟩,⟨.append 1 9 16 (.t 38) (.t 42),some 43,none,[],[]⟩,⟨.mv (.t 43),some 7,none,[],[]⟩]
def r_shLine_7:Reg:=⟨[],t_shLine_7,[41,42],[],false⟩
def r_shLine_8:Reg:=⟨[],[⟨.bin .add (.t 34) (.c (.int .i64 1)),some 44,none,[],[]⟩,⟨.mv (.t 44),some 34,none,[],[]⟩],[],[],false⟩
def r_shLine_l9:IR:=(.seq (.reg r_shLine_5)
 (.seq (.cond (.t 35) .skip
 (.exit 0))
 (.seq (.block 1 (.seq (.reg r_shLine_6)
 (.reg r_shLine_7)))
 (.reg r_shLine_8))))
def t_shLine_10:List ROp:=[⟨.mv (.t 7),some 45,none,[46],[]⟩,⟨.callv (.c (.clo 25 [] [])) [(.t 45),(.c (.str ⟨#[32]⟩))],some 46,none,[],[]⟩,⟨.mv (.t 46),some 6,none,[],[]⟩]
def r_shLine_10:Reg:=⟨[],t_shLine_10,[46],[],false⟩
def t_shLine_11:List ROp:=[⟨.append 1 9 16 (.t 47) (.t 56),some 57,none,[58],[]⟩,⟨.callv (.c (.clo 25 [] [])) [(.t 57),(.c (.str ⟨#[32]⟩))],some 58,none,[],[]⟩,⟨.mv (.t 58),some 6,none,[],[]⟩]
def h_shLine_11:List ROp:=[⟨.mv (.t 7),some 47,none,[51,55,56,58],[]⟩,⟨.faddr 3 (.t 3),some 48,none,[51,55,56,58],[]⟩,⟨.load 1 false (.t 48),some 49,none,[51,55,56,58],[]⟩,⟨.len false (.t 49),some 50,none,[51,55,56,58],[]⟩,⟨.callv (.c (.clo 22 [] [])) [(.t 50)],some 51,none,[55,56,58],[]⟩,⟨.faddr 8 (.t 3),some 52,none,[51,55,56,58],[]⟩,⟨.load 1 false (.t 52),some 53,none,[51,55,56,58],[]⟩,⟨.len false (.t 53),some 54,none,[51,55,56,58],[]⟩,⟨.callv (.c (.clo 22 [] [])) [(.t 54)],some 55,none,[56,58],[]⟩,⟨.bsl 1 9 [(.c (.str ⟨#[107,105,100,115]⟩)),(.t 51),(.c (.str ⟨#[109,115,103,115]⟩)),(.t 55)],some 56,none,[58],[]⟩]
def r_shLine_11:Reg:=⟨h_shLine_11,t_shLine_11,[51,55,56,58],[],true⟩
def ir_shLine:IR:=(.seq (.reg r_shLine_0)
 (.seq (.reg r_shLine_1)
 (.seq (.seq (.reg r_shLine_2)
 (.cond (.t 23) (.seq (.reg r_shLine_3)
 (.seq (.seq (.reg r_shLine_4)
 (.block 0 (.loop r_shLine_l9)))
 (.seq (.reg r_shLine_10)
 .ret)))
 .skip))
 (.seq (.reg r_shLine_11)
 .ret))))
def res_shLine:List RDesc:=[(.tmp 6)]
theorem e_shLine_0:EqR r_shLine_0 t_shLine_0 [3,4]:=fun _ _ _=>rfl
theorem e_shLine_1 (C:FuncId->List AV->AV->Prop) (σ:St) (K:St->Prop):runReg C r_shLine_1 σ K = runHead C [] [⟨.bsl 1 9 [(.t 17),(.t 19)],some 20,none,[],[]⟩,⟨.mv (.t 20),some 7,none,[],[]⟩] h_shLine_1 (σ.kills [13,16,19,20]) K:=rfl
theorem e_shLine_2:EqR r_shLine_2 t_shLine_2 []:=fun _ _ _=>rfl
theorem e_shLine_3:EqR r_shLine_3 t_shLine_3 [28,29]:=fun _ _ _=>rfl
theorem e_shLine_4:EqR r_shLine_4 t_shLine_4 []:=fun _ _ _=>rfl
theorem e_shLine_5:EqR r_shLine_5 [⟨.bin .lss (.t 34) (.t 33),some 35,none,[],[]⟩] []:=fun _ _ _=>rfl
theorem e_shLine_6:EqR r_shLine_6 t_shLine_6 [9]:=fun _ _ _=>rfl
theorem e_shLine_7:EqR r_shLine_7 t_shLine_7 [41,42]:=fun _ _ _=>rfl
theorem e_shLine_8:EqR r_shLine_8 [⟨.bin .add (.t 34) (.c (.int .i64 1)),some 44,none,[],[]⟩,⟨.mv (.t 44),some 34,none,[],[]⟩] []:=fun _ _ _=>rfl
theorem e_shLine_10:EqR r_shLine_10 t_shLine_10 [46]:=fun _ _ _=>rfl
theorem e_shLine_11 (C:FuncId->List AV->AV->Prop) (σ:St) (K:St->Prop):runReg C r_shLine_11 σ K = runHead C [] t_shLine_11 h_shLine_11 (σ.kills [51,55,56,58]) K:=rfl
theorem fn_shLine {args:List AV} {r:AV} (ha:args.length.ble Tryd.f8.ntmps = true) (h:run (AFn Tryd.prog) ir_shLine (endQ res_shLine r) (initSt args)):AFn Tryd.prog 8 args r :=
 AFn.of_code (pv:=false) (hint:=fun _=>[]) (c:=Tryd.f8.body.getD .skip) (by kernel_rfl) (by kernel_rfl) Tryd.func8 (by kernel_rfl) (by kernel_rfl) (by kernel_rfl) (of_decide_eq_true (by kernel_rfl)) (Nat.le_of_ble_eq_true ha) (Nat.le_of_ble_eq_true (by kernel_rfl)) (run_ok h)
/-! ### percolate/shape.ends -/
def r_shEnds_0:Reg:=⟨[],[⟨.box 3 29 (.t 0),some 1,none,[],[]⟩,⟨.mv (.c (.str ⟨#[]⟩)),some 2,none,[],[]⟩],[1],[],false⟩
def r_shEnds_1:Reg:=⟨[],[⟨.faddr 2 (.t 1),some 3,none,[],[]⟩,⟨.load 1 false (.t 3),some 4,none,[],[]⟩],[],[],false⟩
def t_shEnds_2:List ROp:=[⟨.faddr 0 (.t 1),some 5,none,[7],[]⟩,⟨.load 1 false (.t 5),some 6,none,[7],[]⟩,⟨.callv (.c (.clo 24 [] [])) [(.t 6)],some 7,none,[],[]⟩,⟨.bin .add (.t 7) (.c (.str ⟨#[46,46,42]⟩)),some 8,none,[],[]⟩,⟨.mv (.t 8),some 2,none,[],[]⟩]
def r_shEnds_2:Reg:=⟨[],t_shEnds_2,[7],[],false⟩
def h_shEnds_3:List ROp:=[⟨.faddr 0 (.t 1),some 9,none,[11,15],[]⟩,⟨.load 1 false (.t 9),some 10,none,[11,15],[]⟩,⟨.callv (.c (.clo 24 [] [])) [(.t 10)],some 11,none,[15],[]⟩,⟨.bin .add (.t 11) (.c (.str ⟨#[46,46]⟩)),some 12,none,[15],[]⟩,⟨.faddr 1 (.t 1),some 13,none,[11,15],[]⟩,⟨.load 1 false (.t 13),some 14,none,[11,15],[]⟩,⟨.callv (.c (.clo 24 [] [])) [(.t 14)],some 15,none,[],[]⟩]
def r_shEnds_3:Reg:=⟨h_shEnds_3,[⟨.bin .add (.t 12) (.t 15),some 16,none,[],[]⟩,⟨.mv (.t 16),some 2,none,[],[]⟩],[11,15],[],true⟩
def ir_shEnds:IR:=(.seq (.reg r_shEnds_0)
 (.seq (.seq (.reg r_shEnds_1)
 (.cond (.t 4) (.seq (.reg r_shEnds_2)
 .ret)
 .skip))
 (.seq (.reg r_shEnds_3)
 .ret)))
def res_shEnds:List RDesc:=[(.tmp 2)]
theorem e_shEnds_0:EqR r_shEnds_0 [⟨.box 3 29 (.t 0),some 1,none,[],[]⟩,⟨.mv (.c (.str ⟨#[]⟩)),some 2,none,[],[]⟩] [1]:=fun _ _ _=>rfl
theorem e_shEnds_1:EqR r_shEnds_1 [⟨.faddr 2 (.t 1),some 3,none,[],[]⟩,⟨.load 1 false (.t 3),some 4,none,[],[]⟩] []:=fun _ _ _=>rfl
theorem e_shEnds_2:EqR r_shEnds_2 t_shEnds_2 [7]:=fun _ _ _=>rfl
theorem e_shEnds_3 (C:FuncId->List AV->AV->Prop) (σ:St) (K:St->Prop):runReg C r_shEnds_3 σ K = runHead C [] [⟨.bin .add (.t 12) (.t 15),some 16,none,[],[]⟩,⟨.mv (.t 16),some 2,none,[],[]⟩] h_shEnds_3 (σ.kills [11,15]) K:=rfl
theorem fn_shEnds {args:List AV} {r:AV} (ha:args.length.ble Tryd.f23.ntmps = true) (h:run (AFn Tryd.prog) ir_shEnds (endQ res_shEnds r) (initSt args)):AFn Tryd.prog 23 args r :=
 AFn.of_code (pv:=false) (hint:=fun _=>[]) (c:=Tryd.f23.body.getD .skip) (by kernel_rfl) (by kernel_rfl) Tryd.func23 (by kernel_rfl) (by kernel_rfl) (by kernel_rfl) (of_decide_eq_true (by kernel_rfl)) (Nat.le_of_ble_eq_true ha) (Nat.le_of_ble_eq_true (by kernel_rfl)) (run_ok h)
attribute [local go_sem ↓] ir_shLine
attribute [local go_sem] res_shLine e_shLine_0 t_shLine_0 e_shLine_1 h_shLine_1 e_shLine_2 t_shLine_2 e_shLine_3 t_shLine_3 e_shLine_4 t_shLine_4 e_shLine_5 e_shLine_6 t_shLine_6 e_shLine_7 t_shLine_7 e_shLine_8 e_shLine_10 t_shLine_10 e_shLine_11 t_shLine_11 h_shLine_11
attribute [local go_sem ↓] ir_shEnds
attribute [local go_sem] res_shEnds e_shEnds_0 e_shEnds_1 e_shEnds_2 t_shEnds_2 e_shEnds_3 h_shEnds_3
theorem repeat_ok (n:Nat) (h:n≤100):AFn Tryd.prog 21 [.str (⟨#[32,32]⟩:ByteArray),.int .i64 (n:Int)] (.str (padF n)) :=
 .flat2 (by kernel_rfl) str_flat int_flat (fun _ _ _=>.str _) fun w _=>(Tryd.strings_Repeat (⟨#[32,32]⟩:ByteArray) n w (by omega) (by
  have e:(⟨#[32,32]⟩:ByteArray).size = 2:=rfl
  rw [e]; omega)).mono fun e w' ⟨he,hb⟩=>⟨by rw [he,pad_of_rep],hb⟩
theorem repeat_deep (d:Int):∃ y x:Int,(if d < 0 then 0 else d) = y∧(if 100 < y then 100 else y) = x∧AFn Tryd.prog 21 [.str (⟨#[32,32]⟩:ByteArray),.int .i64 x] (.str (padF (deepN d))):=by
 refine ⟨_,_,rfl,rfl,?_⟩
 have h:=repeat_ok (deepN d) (deepN_le d)
 have e:((deepN d:Nat):Int) = (if 100 < (if d < 0 then 0 else d) then 100 else (if d < 0 then 0 else d)):=by
  unfold deepN
  split <;> split <;> omega
 rw [e] at h
 exact h
theorem shEnds_ok (s:Spn) (h1:s.lo.size≤2000) (h2:s.hi.size≤2000):AFn Tryd.prog 23 [s.a] (.str (endsF s)):=by
 refine fn_shEnds rfl ?_
 have q1:=quoteF_size s.lo
 have q2:=quoteF_size s.hi
 have c1:=quote_ok s.lo (by omega)
 have c2:=quote_ok s.hi (by omega)
 have e1:(⟨#[46,46,42]⟩:ByteArray).size = 3:=rfl
 have e2:(⟨#[46,46]⟩:ByteArray).size = 2:=rfl
 obtain ⟨lo,hi,op⟩:=s
 simp only at q1 q2 c1 c2 h1 h2
 unfold endsF
 cases op with
 | true =>
  (repeat (first | simp (maxSteps:=9^7) only [go_sem,↓reduceIte,reduceCtorEq,Nat.reduceEqDiff,Nat.reduceBEq,Nat.reduceAdd,Nat.reduceSub,Nat.reduceMul,Nat.reduceLT,Nat.reduceLeDiff,Nat.reduceBNe,Int.reduceBEq,Int.reduceBNe,Int.reduceLT,Int.reduceLE,Nd.a,Par.a,Spn.a,e1,e2,ByteArray.size_append] | refine calling (c1) ?_ | refine callingH (c1) ?_ | refine calling (c2) ?_ | refine callingH (c2) ?_ | refine And.intro (by omega) ?_ | refine And.intro (fun d hd=>by (repeat (rcases hd with rfl | hd; · exact ⟨rfl,rfl⟩)); cases hd) ?_))
  omega
 | false =>
  (repeat (first | simp (maxSteps:=9^7) only [go_sem,↓reduceIte,reduceCtorEq,Nat.reduceEqDiff,Nat.reduceBEq,Nat.reduceAdd,Nat.reduceSub,Nat.reduceMul,Nat.reduceLT,Nat.reduceLeDiff,Nat.reduceBNe,Int.reduceBEq,Int.reduceBNe,Int.reduceLT,Int.reduceLE,Nd.a,Par.a,Spn.a,e1,e2,ByteArray.size_append] | refine calling (c1) ?_ | refine callingH (c1) ?_ | refine calling (c2) ?_ | refine callingH (c2) ?_ | refine And.intro (by omega) ?_ | refine And.intro (fun d hd=>by (repeat (rcases hd with rfl | hd; · exact ⟨rfl,rfl⟩)); cases hd) ?_))
  omega
def leafW (n:Nd) (s:Spn) (d:Int) (j:Nat):List ByteArray:=[headF n d,endsF s,(⟨#[114,111,119,115]⟩:ByteArray),decS n.rows.length] ++ rowsW (n.rows.take j)
theorem leafW_len {n:Nd} {s:Spn} {d:Int} {j:Nat} (h:j≤n.rows.length):((leafW n s d j).map AV.str).length = j + 4:=by
 unfold leafW rowsW
 simp only [List.length_map,List.length_append,List.length_cons,List.length_nil,List.length_take]; omega
theorem leafW_next {n:Nd} {s:Spn} {d:Int} {j:Nat} {x:Par} (h:n.rows[j]? = some x):(leafW n s d j).map AV.str ++ [AV.str (quoteF x.key)] = (leafW n s d (j + 1)).map AV.str:=by
 unfold leafW rowsW
 rw [take_at h]; simp
def slInv (n:Nd) (s:Spn) (d:Int) (k:Nat) (σ:St):Prop :=
 ∃ j:Nat,j≤n.rows.length∧k = n.rows.length - j∧σ.T 32 = .sl (n.rows.map Par.a)∧σ.T 33 = .int .i64 n.rows.length∧σ.T 34 = .int .i64 j∧σ.T 7 = .rs 20 0 (j + 4)∧σ.H 20 = some ⟨1,9,(leafW n s d j).map .str,0⟩
set_option maxHeartbeats 2000000 in
theorem shLine_ok (n:Nd) (s:Spn) (d:Int) (h:n.Thin) (h1:s.lo.size≤2000) (h2:s.hi.size≤2000):AFn Tryd.prog 8 [n.a,s.a,.int .i64 d] (.str (n.shp s d)):=by
 refine fn_shLine rfl ?_
 obtain ⟨y,x,hy,hx,c1⟩:=repeat_deep d
 have a1:=padF_size (deepN d)
 have a2:=deepN_le d
 have a3:=decS_short n.slot h.slot.1 h.slot.2
 have hrow:=h.nrow
 have hkid:=h.nkid
 have hmsg:=h.nmsg
 have c2:=dec_ok n.slot h.slot
 have c3:=shEnds_ok s h1 h2
 have c4:=dec_ok n.rows.length ⟨by omega,by omega⟩
 have c5:=dec_ok n.kids.length ⟨by omega,by omega⟩
 have c6:=dec_ok n.msgs.length ⟨by omega,by omega⟩
 have eh:padF (deepN d) ++ decS n.slot = headF n d:=rfl
 have hw:=lineW_ok n s d h h1 h2
 have hj:=joinB_len (⟨#[32]⟩:ByteArray) 12011 (lineW n s d) (fun x hx=>by
  have:=hw.2 x hx
  show _ + 1≤_
  omega)
 have hm:(lineW n s d).length * 12011≤2006 * 12011:=Nat.mul_le_mul_right _ hw.1
 have c7:=join_ok (lineW n s d) (⟨#[32]⟩:ByteArray) (by omega) (by omega)
 simp only [Spn.a] at c3
 by_cases h0:n.level = 0
 case neg =>
  have b0:(n.level == 0) = false:=by simp [h0]
  have el:lineW n s d = [headF n d,endsF s,(⟨#[107,105,100,115]⟩:ByteArray),decS n.kids.length,(⟨#[109,115,103,115]⟩:ByteArray),decS n.msgs.length]:=by unfold lineW; rw [if_neg h0]
  unfold Nd.shp
  rw [el] at c7 ⊢
  simp only [List.map_cons,List.map_nil] at c7
  (repeat (first | simp (maxSteps:=9^7) only [go_sem,↓reduceIte,reduceCtorEq,Nat.reduceEqDiff,Nat.reduceBEq,Nat.reduceAdd,Nat.reduceSub,Nat.reduceMul,Nat.reduceLT,Nat.reduceLeDiff,Nat.reduceBNe,Int.reduceBEq,Int.reduceBNe,Int.reduceLT,Int.reduceLE,Nd.a,Par.a,Spn.a,hy,hx,eh,b0,List.length_map] | refine calling (c1) ?_ | refine callingH (c1) ?_ | refine calling (c2) ?_ | refine callingH (c2) ?_ | refine calling (c3) ?_ | refine callingH (c3) ?_ | refine calling (c5) ?_ | refine callingH (c5) ?_ | refine calling (c6) ?_ | refine callingH (c6) ?_ | refine calling (c7) ?_ | refine callingH (c7) ?_ | refine And.intro (by omega) ?_ | refine And.intro (fun d hd=>by (repeat (rcases hd with rfl | hd; · exact ⟨rfl,rfl⟩)); cases hd) ?_))
 have b0:(n.level == 0) = true:=by simp [h0]
 have el:lineW n s d = leafW n s d n.rows.length:=by unfold lineW leafW; rw [if_pos h0,List.take_length]
 unfold Nd.shp
 rw [el] at c7 ⊢
 (repeat (first | simp (maxSteps:=9^7) only [go_sem,↓reduceIte,reduceCtorEq,Nat.reduceEqDiff,Nat.reduceBEq,Nat.reduceAdd,Nat.reduceSub,Nat.reduceMul,Nat.reduceLT,Nat.reduceLeDiff,Nat.reduceBNe,Int.reduceBEq,Int.reduceBNe,Int.reduceLT,Int.reduceLE,Nd.a,Par.a,Spn.a,hy,hx,eh,b0,List.length_map] | refine calling (c1) ?_ | refine callingH (c1) ?_ | refine calling (c2) ?_ | refine callingH (c2) ?_ | refine calling (c3) ?_ | refine callingH (c3) ?_ | refine calling (c4) ?_ | refine callingH (c4) ?_ | refine And.intro (by omega) ?_ | refine And.intro (fun d hd=>by (repeat (rcases hd with rfl | hd; · exact ⟨rfl,rfl⟩)); cases hd) ?_))
 refine run_loop (slInv n s d) (k:=n.rows.length) ⟨0,by omega,rfl,?_,?_,?_,?_,?_⟩ ?_
 iterate 2 focus ((simp (maxSteps:=9^7) only [go_sem,↓reduceIte,reduceCtorEq,Nat.reduceEqDiff,Nat.reduceBEq,Nat.reduceAdd,Nat.reduceSub,Nat.reduceMul,Nat.reduceLT,Nat.reduceLeDiff,Nat.reduceBNe,Int.reduceBEq,Int.reduceBNe,Int.reduceLT,Int.reduceLE,Nd.a,Par.a,Spn.a,List.length_map]) <;> rfl)
 ·simp (maxSteps:=9^7) only [go_sem,↓reduceIte,reduceCtorEq,Nat.reduceEqDiff,Nat.reduceBEq,Nat.reduceAdd,Nat.reduceSub,Nat.reduceMul,Nat.reduceLT,Nat.reduceLeDiff,Nat.reduceBNe,Int.reduceBEq,Int.reduceBNe,Int.reduceLT,Int.reduceLE,Nd.a,Par.a,Spn.a]
  rfl
 ·simp (maxSteps:=9^7) only [go_sem,↓reduceIte,reduceCtorEq,Nat.reduceEqDiff,Nat.reduceBEq,Nat.reduceAdd,Nat.reduceSub,Nat.reduceMul,Nat.reduceLT,Nat.reduceLeDiff,Nat.reduceBNe,Int.reduceBEq,Int.reduceBNe,Int.reduceLT,Int.reduceLE,Nd.a,Par.a,Spn.a]
  try rfl
 ·simp (maxSteps:=9^7) only [go_sem,↓reduceIte,reduceCtorEq,Nat.reduceEqDiff,Nat.reduceBEq,Nat.reduceAdd,Nat.reduceSub,Nat.reduceMul,Nat.reduceLT,Nat.reduceLeDiff,Nat.reduceBNe,Int.reduceBEq,Int.reduceBNe,Int.reduceLT,Int.reduceLE,Nd.a,Par.a,Spn.a,List.length_map,eh]
  try rfl
 rintro k σ ⟨j,hj,rfl,t32,t33,t34,t7,o20⟩
 simp only [r_shLine_l9]
 have hpl:=leafW_len (n:=n) (s:=s) (d:=d) hj
 have htk:((leafW n s d j).map AV.str).take (j + 4) = (leafW n s d j).map AV.str:=List.take_of_length_le (by omega)
 by_cases hlt:j < n.rows.length
 ·have hlt':(j:Int) < (n.rows.length:Int):=by omega
  obtain ⟨x,hx⟩:=get_lt hlt
  have hgj:=at_map (f:=Par.a) hx
  simp only [Par.a] at hgj
  have hw:=wrapS (j:=j) (by omega)
  have s1:=h.rws x (List.mem_of_getElem? hx)
  have c8:=quote_ok x.key (by omega)
  have hn:=leafW_next (s:=s) (d:=d) hx
  (repeat (first | simp (maxSteps:=9^7) only [go_sem,↓reduceIte,reduceCtorEq,Nat.reduceEqDiff,Nat.reduceBEq,Nat.reduceAdd,Nat.reduceSub,Nat.reduceMul,Nat.reduceLT,Nat.reduceLeDiff,Nat.reduceBNe,Int.reduceBEq,Int.reduceBNe,Int.reduceLT,Int.reduceLE,Nd.a,Par.a,Spn.a,t32,t33,t34,t7,o20,hlt',hgj,List.length_map,Int.toNat_natCast] | refine calling (c8) ?_ | refine callingH (c8) ?_ | refine And.intro (by omega) ?_ | refine And.intro (fun d hd=>by (repeat (rcases hd with rfl | hd; · exact ⟨rfl,rfl⟩)); cases hd) ?_))
  refine ⟨⟨⟨by omega,by omega⟩,fun d hd=>by rcases hd with rfl | hd; exact ⟨rfl,rfl⟩; cases hd⟩,n.rows.length - (j + 1),by omega,j + 1,by omega,rfl,?_,?_,?_,?_,?_⟩ <;>
   (simp (maxSteps:=9^7) only [go_sem,↓reduceIte,reduceCtorEq,Nat.reduceEqDiff,Nat.reduceBEq,Nat.reduceAdd,Nat.reduceSub,Nat.reduceMul,Nat.reduceLT,Nat.reduceLeDiff,Nat.reduceBNe,Int.reduceBEq,Int.reduceBNe,Int.reduceLT,Int.reduceLE,Nd.a,Par.a,Spn.a,t32,t33,t34,t7,o20,hw,htk,hn])
 ·have hlt':¬ (j:Int) < (n.rows.length:Int):=by omega
  obtain rfl:j = n.rows.length:=by omega
  (repeat (first | simp (maxSteps:=9^7) only [go_sem,↓reduceIte,reduceCtorEq,Nat.reduceEqDiff,Nat.reduceBEq,Nat.reduceAdd,Nat.reduceSub,Nat.reduceMul,Nat.reduceLT,Nat.reduceLeDiff,Nat.reduceBNe,Int.reduceBEq,Int.reduceBNe,Int.reduceLT,Int.reduceLE,Nd.a,Par.a,Spn.a,t32,t33,t34,t7,o20,hlt',htk,List.length_map] | refine calling (c7) ?_ | refine callingH (c7) ?_ | refine And.intro (by omega) ?_ | refine And.intro (fun d hd=>by (repeat (rcases hd with rfl | hd; · exact ⟨rfl,rfl⟩)); cases hd) ?_))
end
section
/-
 Nodes drawn as lines: the document,walked.
-/
open Go.RowKit
attribute [local go_sem ↓] runOp headOp
/-! ### percolate/percolateref58.Line -/
def t_rShp_0:List ROp:=[⟨.box 10 27 (.t 0),some 3,none,[4],[]⟩,⟨.box 3 29 (.t 1),some 4,none,[],[]⟩,⟨.mv (.c (.str ⟨#[]⟩)),some 6,none,[],[]⟩]
def r_rShp_0:Reg:=⟨[],t_rShp_0,[3,4],[],false⟩
def r_rShp_1:Reg:=⟨[],[⟨.mv (.c (.str ⟨#[]⟩)),some 7,none,[],[]⟩],[],[],false⟩
def r_rShp_2:Reg:=⟨[],[⟨.mv (.c (.int .i64 0)),some 8,none,[],[]⟩],[],[],false⟩
def t_rShp_3:List ROp:=[⟨.mv (.t 8),some 10,none,[],[]⟩,⟨.mv (.t 2),some 11,none,[],[]⟩,⟨.bin .lss (.t 10) (.t 11),some 12,none,[],[]⟩,⟨.mv (.t 12),some 13,none,[],[]⟩,⟨.mv (.t 8),some 14,(some (13,true)),[],[]⟩,⟨.bin .lss (.t 14) (.c (.int .i64 100)),some 15,(some (13,true)),[],[]⟩,⟨.pick (.t 13) (.t 15) (.c (.bool false)),some 16,none,[],[]⟩]
def r_rShp_3:Reg:=⟨[],t_rShp_3,[],[],false⟩
def t_rShp_4:List ROp:=[⟨.mv (.t 7),some 19,none,[],[]⟩,⟨.bin .add (.t 19) (.c (.str ⟨#[32,32]⟩)),some 20,none,[],[]⟩,⟨.mv (.t 20),some 7,none,[],[]⟩]
def r_rShp_4:Reg:=⟨[],t_rShp_4,[],[],false⟩
def t_rShp_5:List ROp:=[⟨.mv (.t 8),some 17,none,[],[]⟩,⟨.bin .add (.t 17) (.c (.int .i64 1)),some 18,none,[],[]⟩,⟨.mv (.t 18),some 8,none,[],[]⟩]
def r_rShp_5:Reg:=⟨[],t_rShp_5,[],[],false⟩
def r_rShp_l6:IR:=(.seq (.seq (.reg r_rShp_3)
 (.cond (.t 16) .skip
 (.exit 0)))
 (.seq (.block 1 (.reg r_rShp_4))
 (.reg r_rShp_5)))
def h_rShp_7:List ROp:=[⟨.mv (.t 7),some 21,none,[24,28],[]⟩,⟨.faddr 0 (.t 3),some 22,none,[24,28],[]⟩,⟨.load 1 false (.t 22),some 23,none,[24,28],[]⟩,⟨.callv (.c (.clo 12 [] [])) [(.t 23)],some 24,none,[28],[]⟩,⟨.bin .add (.t 24) (.c (.str ⟨#[32]⟩)),some 25,none,[28],[]⟩,⟨.faddr 0 (.t 4),some 26,none,[24,28],[]⟩,⟨.load 1 false (.t 26),some 27,none,[24,28],[]⟩,⟨.callv (.c (.clo 13 [] [])) [(.t 27)],some 28,none,[],[]⟩,⟨.bin .add (.t 25) (.t 28),some 29,none,[],[]⟩,⟨.bin .add (.t 29) (.c (.str ⟨#[46,46]⟩)),some 30,none,[],[]⟩]
def r_rShp_7:Reg:=⟨h_rShp_7,[⟨.bin .add (.t 21) (.t 30),some 31,none,[],[]⟩,⟨.mv (.t 31),some 7,none,[],[]⟩],[24,28],[],true⟩
def r_rShp_8:Reg:=⟨[],[⟨.faddr 2 (.t 4),some 32,none,[],[]⟩,⟨.load 1 false (.t 32),some 33,none,[],[]⟩],[],[],false⟩
def t_rShp_9:List ROp:=[⟨.mv (.t 7),some 34,none,[],[]⟩,⟨.bin .add (.t 34) (.c (.str ⟨#[42]⟩)),some 35,none,[],[]⟩,⟨.mv (.t 35),some 7,none,[],[]⟩]
def r_rShp_9:Reg:=⟨[],t_rShp_9,[],[],false⟩
def t_rShp_10:List ROp:=[⟨.mv (.t 7),some 36,none,[39],[]⟩,⟨.faddr 1 (.t 4),some 37,none,[39],[]⟩,⟨.load 1 false (.t 37),some 38,none,[39],[]⟩,⟨.callv (.c (.clo 13 [] [])) [(.t 38)],some 39,none,[],[]⟩,⟨.bin .add (.t 36) (.t 39),some 40,none,[],[]⟩,⟨.mv (.t 40),some 7,none,[],[]⟩]
def r_rShp_10:Reg:=⟨[],t_rShp_10,[39],[],false⟩
def t_rShp_11:List ROp:=[⟨.faddr 1 (.t 3),some 41,none,[],[]⟩,⟨.load 1 false (.t 41),some 42,none,[],[]⟩,⟨.bin .neq (.t 42) (.c (.int .i64 0)),some 43,none,[],[]⟩]
def r_rShp_11:Reg:=⟨[],t_rShp_11,[],[],false⟩
def h_rShp_12:List ROp:=[⟨.mv (.t 7),some 44,none,[49,55],[]⟩,⟨.bin .add (.t 44) (.c (.str ⟨#[32,107,105,100,115,32]⟩)),some 45,none,[49,55],[]⟩,⟨.faddr 3 (.t 3),some 46,none,[49,55],[]⟩,⟨.load 1 false (.t 46),some 47,none,[49,55],[]⟩,⟨.len false (.t 47),some 48,none,[49,55],[]⟩,⟨.callv (.c (.clo 12 [] [])) [(.t 48)],some 49,none,[55],[]⟩,⟨.bin .add (.t 45) (.t 49),some 50,none,[55],[]⟩,⟨.bin .add (.t 50) (.c (.str ⟨#[32,109,115,103,115,32]⟩)),some 51,none,[55],[]⟩,⟨.faddr 8 (.t 3),some 52,none,[49,55],[]⟩,⟨.load 1 false (.t 52),some 53,none,[49,55],[]⟩,⟨.len false (.t 53),some 54,none,[49,55],[]⟩,⟨.callv (.c (.clo 12 [] [])) [(.t 54)],some 55,none,[],[]⟩]
def r_rShp_12:Reg:=⟨h_rShp_12,[⟨.bin .add (.t 51) (.t 55),some 56,none,[],[]⟩,⟨.mv (.t 56),some 6,none,[],[]⟩],[49,55],[],true⟩
def t_rShp_13:List ROp:=[⟨.mv (.t 7),some 57,none,[61],[]⟩,⟨.faddr 9 (.t 3),some 58,none,[61],[]⟩,⟨.load 1 false (.t 58),some 59,none,[61],[]⟩,⟨.len false (.t 59),some 60,none,[61],[]⟩,⟨.callv (.c (.clo 12 [] [])) [(.t 60)],some 61,none,[],[]⟩,⟨.bin .add (.c (.str ⟨#[32,114,111,119,115,32]⟩)) (.t 61),some 62,none,[],[]⟩,⟨.bin .add (.t 57) (.t 62),some 63,none,[],[]⟩,⟨.mv (.t 63),some 7,none,[],[]⟩]
def r_rShp_13:Reg:=⟨[],t_rShp_13,[61],[],false⟩
def r_rShp_14:Reg:=⟨[],[⟨.mv (.c (.int .i64 0)),some 9,none,[],[]⟩],[],[],false⟩
def t_rShp_15:List ROp:=[⟨.mv (.t 9),some 64,none,[],[]⟩,⟨.faddr 9 (.t 3),some 65,none,[],[]⟩,⟨.load 1 false (.t 65),some 66,none,[],[]⟩,⟨.len false (.t 66),some 67,none,[],[]⟩,⟨.bin .lss (.t 64) (.t 67),some 68,none,[],[]⟩]
def r_rShp_15:Reg:=⟨[],t_rShp_15,[],[],false⟩
def t_rShp_16:List ROp:=[⟨.mv (.t 7),some 71,none,[78],[]⟩,⟨.faddr 9 (.t 3),some 72,none,[78],[]⟩,⟨.load 1 false (.t 72),some 73,none,[78],[]⟩,⟨.mv (.t 9),some 74,none,[78],[]⟩,⟨.iaddr 2 (.t 73) (.t 74),some 75,none,[78],[]⟩,⟨.faddr 0 (.t 75),some 76,none,[78],[]⟩,⟨.load 1 false (.t 76),some 77,none,[78],[]⟩,⟨.callv (.c (.clo 13 [] [])) [(.t 77)],some 78,none,[],[]⟩,⟨.bin .add (.c (.str ⟨#[32]⟩)) (.t 78),some 79,none,[],[]⟩,⟨.bin .add (.t 71) (.t 79),some 80,none,[],[]⟩,⟨.mv (.t 80),some 7,none,[],[]⟩]
def r_rShp_16:Reg:=⟨[],t_rShp_16,[78],[],false⟩
def t_rShp_17:List ROp:=[⟨.mv (.t 9),some 69,none,[],[]⟩,⟨.bin .add (.t 69) (.c (.int .i64 1)),some 70,none,[],[]⟩,⟨.mv (.t 70),some 9,none,[],[]⟩]
def r_rShp_17:Reg:=⟨[],t_rShp_17,[],[],false⟩
def r_rShp_l18:IR:=(.seq (.seq (.reg r_rShp_15)
 (.cond (.t 68) .skip
 (.exit 2)))
 (.seq (.block 3 (.reg r_rShp_16))
 (.reg r_rShp_17)))
def r_rShp_19:Reg:=⟨[],[⟨.mv (.t 7),some 81,none,[],[]⟩,⟨.mv (.t 81),some 6,none,[],[]⟩],[],[],false⟩
def ir_rShp:IR:=(.seq (.reg r_rShp_0)
 (.seq (.reg r_rShp_1)
 (.seq (.seq (.reg r_rShp_2)
 (.block 0 (.loop r_rShp_l6)))
 (.seq (.reg r_rShp_7)
 (.seq (.seq (.reg r_rShp_8)
 (.cond (.t 33) (.reg r_rShp_9)
 (.reg r_rShp_10)))
 (.seq (.seq (.reg r_rShp_11)
 (.cond (.t 43) (.seq (.reg r_rShp_12)
 .ret)
 .skip))
 (.seq (.reg r_rShp_13)
 (.seq (.seq (.reg r_rShp_14)
 (.block 2 (.loop r_rShp_l18)))
 (.seq (.reg r_rShp_19)
 .ret)))))))))
def res_rShp:List RDesc:=[(.tmp 6)]
theorem e_rShp_0:EqR r_rShp_0 t_rShp_0 [3,4]:=fun _ _ _=>rfl
theorem e_rShp_1:EqR r_rShp_1 [⟨.mv (.c (.str ⟨#[]⟩)),some 7,none,[],[]⟩] []:=fun _ _ _=>rfl
theorem e_rShp_2:EqR r_rShp_2 [⟨.mv (.c (.int .i64 0)),some 8,none,[],[]⟩] []:=fun _ _ _=>rfl
theorem e_rShp_3:EqR r_rShp_3 t_rShp_3 []:=fun _ _ _=>rfl
theorem e_rShp_4:EqR r_rShp_4 t_rShp_4 []:=fun _ _ _=>rfl
theorem e_rShp_5:EqR r_rShp_5 t_rShp_5 []:=fun _ _ _=>rfl
theorem e_rShp_7 (C:FuncId->List AV->AV->Prop) (σ:St) (K:St->Prop):runReg C r_rShp_7 σ K = runHead C [] [⟨.bin .add (.t 21) (.t 30),some 31,none,[],[]⟩,⟨.mv (.t 31),some 7,none,[],[]⟩] h_rShp_7 (σ.kills [24,28]) K:=rfl
theorem e_rShp_8:EqR r_rShp_8 [⟨.faddr 2 (.t 4),some 32,none,[],[]⟩,⟨.load 1 false (.t 32),some 33,none,[],[]⟩] []:=fun _ _ _=>rfl
theorem e_rShp_9:EqR r_rShp_9 t_rShp_9 []:=fun _ _ _=>rfl
theorem e_rShp_10:EqR r_rShp_10 t_rShp_10 [39]:=fun _ _ _=>rfl
theorem e_rShp_11:EqR r_rShp_11 t_rShp_11 []:=fun _ _ _=>rfl
theorem e_rShp_12 (C:FuncId->List AV->AV->Prop) (σ:St) (K:St->Prop):runReg C r_rShp_12 σ K = runHead C [] [⟨.bin .add (.t 51) (.t 55),some 56,none,[],[]⟩,⟨.mv (.t 56),some 6,none,[],[]⟩] h_rShp_12 (σ.kills [49,55]) K:=rfl
theorem e_rShp_13:EqR r_rShp_13 t_rShp_13 [61]:=fun _ _ _=>rfl
theorem e_rShp_14:EqR r_rShp_14 [⟨.mv (.c (.int .i64 0)),some 9,none,[],[]⟩] []:=fun _ _ _=>rfl
theorem e_rShp_15:EqR r_rShp_15 t_rShp_15 []:=fun _ _ _=>rfl
theorem e_rShp_16:EqR r_rShp_16 t_rShp_16 [78]:=fun _ _ _=>rfl
theorem e_rShp_17:EqR r_rShp_17 t_rShp_17 []:=fun _ _ _=>rfl
theorem e_rShp_19:EqR r_rShp_19 [⟨.mv (.t 7),some 81,none,[],[]⟩,⟨.mv (.t 81),some 6,none,[],[]⟩] []:=fun _ _ _=>rfl
theorem fn_rShp {args:List AV} {r:AV} (ha:args.length.ble Tryd.f9.ntmps = true) (h:run (AFn Tryd.prog) ir_rShp (endQ res_rShp r) (initSt args)):AFn Tryd.prog 9 args r :=
 AFn.of_code (pv:=false) (hint:=fun _=>[]) (c:=Tryd.f9.body.getD .skip) (by kernel_rfl) (by kernel_rfl) Tryd.func9 (by kernel_rfl) (by kernel_rfl) (by kernel_rfl) (of_decide_eq_true (by kernel_rfl)) (Nat.le_of_ble_eq_true ha) (Nat.le_of_ble_eq_true (by kernel_rfl)) (run_ok h)
attribute [local go_sem ↓] ir_rShp
attribute [local go_sem] res_rShp e_rShp_0 t_rShp_0 e_rShp_1 e_rShp_2 e_rShp_3 t_rShp_3 e_rShp_4 t_rShp_4 e_rShp_5 t_rShp_5 e_rShp_7 h_rShp_7 e_rShp_8 e_rShp_9 t_rShp_9 e_rShp_10 t_rShp_10 e_rShp_11 t_rShp_11 e_rShp_12 h_rShp_12 e_rShp_13 t_rShp_13 e_rShp_14 e_rShp_15 t_rShp_15 e_rShp_16 t_rShp_16 e_rShp_17 t_rShp_17 e_rShp_19
def dpInv (n:Nd) (s:Spn) (d:Int) (k:Nat) (σ:St):Prop :=
 ∃ j:Nat,j≤deepN d∧k = deepN d - j∧σ.T 2 = .int .i64 d∧σ.T 3 = .ptr 3 0 0∧σ.T 4 = .ptr 4 0 0∧σ.H 3 = some ⟨10,27,[n.a],0⟩∧σ.H 4 = some ⟨3,29,[s.a],0⟩∧σ.T 7 = .str (padF j)∧σ.T 8 = .int .i64 j
def drInv (n:Nd) (s:Spn) (d:Int) (k:Nat) (σ:St):Prop :=
 ∃ j:Nat,j≤n.rows.length∧k = n.rows.length - j∧σ.T 3 = .ptr 3 0 0∧σ.H 3 = some ⟨10,27,[n.a],0⟩∧σ.T 7 = .str (shpR n s d j)∧σ.T 9 = .int .i64 j
theorem doc_open (n:Nd) (s:Spn) (d:Int) (h:s.op = true):padF (deepN d) ++ (decS n.slot ++ (⟨#[32]⟩:ByteArray) ++ quoteF s.lo ++ (⟨#[46,46]⟩:ByteArray)) ++ (⟨#[42]⟩:ByteArray) = headF n d ++ (⟨#[32]⟩:ByteArray) ++ endsF s:=by
 unfold headF endsF
 rw [if_pos h]
 apply ba_ext
 simp only [ByteArray.data_append,Array.toList_append,List.append_assoc]
 rfl
theorem doc_shut (n:Nd) (s:Spn) (d:Int) (h:s.op = false):padF (deepN d) ++ (decS n.slot ++ (⟨#[32]⟩:ByteArray) ++ quoteF s.lo ++ (⟨#[46,46]⟩:ByteArray)) ++ quoteF s.hi = headF n d ++ (⟨#[32]⟩:ByteArray) ++ endsF s:=by
 unfold headF endsF
 rw [if_neg (by rw [h]; simp)]
 apply ba_ext
 simp only [ByteArray.data_append,Array.toList_append,List.append_assoc]
set_option maxHeartbeats 4000000 in
theorem rShp_ok (n:Nd) (s:Spn) (d:Int) (h:n.Thin) (h1:s.lo.size≤2000) (h2:s.hi.size≤2000):AFn Tryd.prog 9 [n.a,s.a,.int .i64 d] (.str (n.shp s d)):=by
 refine fn_rShp rfl ?_
 have a2:=deepN_le d
 have hrow:=h.nrow
 have hkid:=h.nkid
 have hmsg:=h.nmsg
 have q1:=quoteF_size s.lo
 have q2:=quoteF_size s.hi
 have a3:=decS_short n.slot h.slot.1 h.slot.2
 have a4:=decS_short n.rows.length (by omega) (by omega)
 have a5:=decS_short n.kids.length (by omega) (by omega)
 have a6:=decS_short n.msgs.length (by omega) (by omega)
 have a7:=headF_size n d h
 have a8:=endsF_size s h1 h2
 have c1:=rDec_ok n.slot h.slot
 have c2:=rQuote_ok s.lo (by omega)
 have c3:=rQuote_ok s.hi (by omega)
 have c4:=rDec_ok n.rows.length ⟨by omega,by omega⟩
 have c5:=rDec_ok n.kids.length ⟨by omega,by omega⟩
 have c6:=rDec_ok n.msgs.length ⟨by omega,by omega⟩
 have e1:(⟨#[32]⟩:ByteArray).size = 1:=rfl
 have e2:(⟨#[46,46]⟩:ByteArray).size = 2:=rfl
 have e3:(⟨#[32,32]⟩:ByteArray).size = 2:=rfl
 have e4:(⟨#[42]⟩:ByteArray).size = 1:=rfl
 have e5:(⟨#[32,107,105,100,115,32]⟩:ByteArray).size = 6:=rfl
 have e6:(⟨#[32,109,115,103,115,32]⟩:ByteArray).size = 6:=rfl
 have e7:(⟨#[32,114,111,119,115,32]⟩:ByteArray).size = 6:=rfl
 simp (maxSteps:=9^7) only [go_sem,↓reduceIte,reduceCtorEq,Nat.reduceEqDiff,Nat.reduceBEq,Nat.reduceAdd,Nat.reduceSub,Nat.reduceMul,Nat.reduceLT,Nat.reduceLeDiff,Nat.reduceBNe,Int.reduceBEq,Int.reduceBNe,Int.reduceLT,Int.reduceLE,Nd.a,Par.a,Spn.a]
 refine run_loop (dpInv n s d) (k:=deepN d) ⟨0,by omega,rfl,?_,?_,?_,?_,?_,?_,?_⟩ ?_ <;> try (simp (maxSteps:=9^7) only [go_sem,↓reduceIte,reduceCtorEq,Nat.reduceEqDiff,Nat.reduceBEq,Nat.reduceAdd,Nat.reduceSub,Nat.reduceMul,Nat.reduceLT,Nat.reduceLeDiff,Nat.reduceBNe,Int.reduceBEq,Int.reduceBNe,Int.reduceLT,Int.reduceLE,Nd.a,Par.a,Spn.a,padF])
 ·rfl
 rintro k σ ⟨j,hj,rfl,t2,t3,t4,o3,o4,t7,t8⟩
 simp only [r_rShp_l6]
 have pj:=padF_size j
 by_cases hlt:j < deepN d
 ·have g1:(j:Int) < d:=by unfold deepN at hlt; omega
  have g2:(j:Int) < 100:=by omega
  have hw:=wrapS (j:=j) (by omega)
  have hp:padF j ++ (⟨#[32,32]⟩:ByteArray) = padF (j + 1):=rfl
  simp (maxSteps:=9^7) only [go_sem,↓reduceIte,reduceCtorEq,Nat.reduceEqDiff,Nat.reduceBEq,Nat.reduceAdd,Nat.reduceSub,Nat.reduceMul,Nat.reduceLT,Nat.reduceLeDiff,Nat.reduceBNe,Int.reduceBEq,Int.reduceBNe,Int.reduceLT,Int.reduceLE,Nd.a,Par.a,Spn.a,t2,t7,t8,g1,g2,hw,hp,e3,pj]
  refine ⟨by omega,deepN d - (j + 1),by omega,j + 1,by omega,rfl,?_,?_,?_,?_,?_,?_,?_⟩ <;>
   (simp (maxSteps:=9^7) only [go_sem,↓reduceIte,reduceCtorEq,Nat.reduceEqDiff,Nat.reduceBEq,Nat.reduceAdd,Nat.reduceSub,Nat.reduceMul,Nat.reduceLT,Nat.reduceLeDiff,Nat.reduceBNe,Int.reduceBEq,Int.reduceBNe,Int.reduceLT,Int.reduceLE,Nd.a,Par.a,Spn.a,t2,t3,t4,o3,o4,t7,t8,hw])
 obtain rfl:j = deepN d:=by omega
 by_cases h0:n.level = 0
 case neg =>
  have b0:(n.level == 0) = false:=by simp [h0]
  have b1:(n.level != 0) = true:=by simp [bne,h0]
  have es:=(shp_kids n s d h0).symm
  cases ho:s.op with
  | true =>
   have ed:=doc_open n s d ho
   by_cases g1:((deepN d:Nat):Int) < d
   ·have g2:¬ ((deepN d:Nat):Int) < 100:=by unfold deepN at g1 ⊢; omega
    (repeat (first | simp (maxSteps:=9^7) only [go_sem,↓reduceIte,reduceCtorEq,Nat.reduceEqDiff,Nat.reduceBEq,Nat.reduceAdd,Nat.reduceSub,Nat.reduceMul,Nat.reduceLT,Nat.reduceLeDiff,Nat.reduceBNe,Int.reduceBEq,Int.reduceBNe,Int.reduceLT,Int.reduceLE,Nd.a,Par.a,Spn.a,t2,t3,t4,o3,o4,t7,t8,g1,g2,ho,ed,e1,e2,e4,pj,ByteArray.size_append,List.length_map,es,b1,e5,e6] | refine calling (c1) ?_ | refine callingH (c1) ?_ | refine calling (c2) ?_ | refine callingH (c2) ?_ | refine calling (c3) ?_ | refine callingH (c3) ?_ | refine calling (c5) ?_ | refine callingH (c5) ?_ | refine calling (c6) ?_ | refine callingH (c6) ?_ | refine And.intro (by omega) ?_ | refine And.intro (fun d hd=>by (repeat (rcases hd with rfl | hd; · exact ⟨rfl,rfl⟩)); cases hd) ?_))
    all_goals omega
   ·(repeat (first | simp (maxSteps:=9^7) only [go_sem,↓reduceIte,reduceCtorEq,Nat.reduceEqDiff,Nat.reduceBEq,Nat.reduceAdd,Nat.reduceSub,Nat.reduceMul,Nat.reduceLT,Nat.reduceLeDiff,Nat.reduceBNe,Int.reduceBEq,Int.reduceBNe,Int.reduceLT,Int.reduceLE,Nd.a,Par.a,Spn.a,t2,t3,t4,o3,o4,t7,t8,g1,ho,ed,e1,e2,e4,pj,ByteArray.size_append,List.length_map,es,b1,e5,e6] | refine calling (c1) ?_ | refine callingH (c1) ?_ | refine calling (c2) ?_ | refine callingH (c2) ?_ | refine calling (c3) ?_ | refine callingH (c3) ?_ | refine calling (c5) ?_ | refine callingH (c5) ?_ | refine calling (c6) ?_ | refine callingH (c6) ?_ | refine And.intro (by omega) ?_ | refine And.intro (fun d hd=>by (repeat (rcases hd with rfl | hd; · exact ⟨rfl,rfl⟩)); cases hd) ?_))
    all_goals omega
  | false =>
   have ed:=doc_shut n s d ho
   by_cases g1:((deepN d:Nat):Int) < d
   ·have g2:¬ ((deepN d:Nat):Int) < 100:=by unfold deepN at g1 ⊢; omega
    (repeat (first | simp (maxSteps:=9^7) only [go_sem,↓reduceIte,reduceCtorEq,Nat.reduceEqDiff,Nat.reduceBEq,Nat.reduceAdd,Nat.reduceSub,Nat.reduceMul,Nat.reduceLT,Nat.reduceLeDiff,Nat.reduceBNe,Int.reduceBEq,Int.reduceBNe,Int.reduceLT,Int.reduceLE,Nd.a,Par.a,Spn.a,t2,t3,t4,o3,o4,t7,t8,g1,g2,ho,ed,e1,e2,e4,pj,ByteArray.size_append,List.length_map,es,b1,e5,e6] | refine calling (c1) ?_ | refine callingH (c1) ?_ | refine calling (c2) ?_ | refine callingH (c2) ?_ | refine calling (c3) ?_ | refine callingH (c3) ?_ | refine calling (c5) ?_ | refine callingH (c5) ?_ | refine calling (c6) ?_ | refine callingH (c6) ?_ | refine And.intro (by omega) ?_ | refine And.intro (fun d hd=>by (repeat (rcases hd with rfl | hd; · exact ⟨rfl,rfl⟩)); cases hd) ?_))
    all_goals omega
   ·(repeat (first | simp (maxSteps:=9^7) only [go_sem,↓reduceIte,reduceCtorEq,Nat.reduceEqDiff,Nat.reduceBEq,Nat.reduceAdd,Nat.reduceSub,Nat.reduceMul,Nat.reduceLT,Nat.reduceLeDiff,Nat.reduceBNe,Int.reduceBEq,Int.reduceBNe,Int.reduceLT,Int.reduceLE,Nd.a,Par.a,Spn.a,t2,t3,t4,o3,o4,t7,t8,g1,ho,ed,e1,e2,e4,pj,ByteArray.size_append,List.length_map,es,b1,e5,e6] | refine calling (c1) ?_ | refine callingH (c1) ?_ | refine calling (c2) ?_ | refine callingH (c2) ?_ | refine calling (c3) ?_ | refine callingH (c3) ?_ | refine calling (c5) ?_ | refine callingH (c5) ?_ | refine calling (c6) ?_ | refine callingH (c6) ?_ | refine And.intro (by omega) ?_ | refine And.intro (fun d hd=>by (repeat (rcases hd with rfl | hd; · exact ⟨rfl,rfl⟩)); cases hd) ?_))
    all_goals omega
 have b1:(n.level != 0) = false:=by simp [bne,h0]
 have eal:=shpR_all n s d h0
 have e0:headF n d ++ (⟨#[32]⟩:ByteArray) ++ endsF s ++ ((⟨#[32,114,111,119,115,32]⟩:ByteArray) ++ decS n.rows.length) = shpR n s d 0:=(ba_assoc _ _ _).symm.trans (shpR_zero n s d).symm
 cases ho:s.op with
 | true =>
  have ed:=doc_open n s d ho
  by_cases g1:((deepN d:Nat):Int) < d
  ·have g2:¬ ((deepN d:Nat):Int) < 100:=by unfold deepN at g1 ⊢; omega
   (repeat (first | simp (maxSteps:=9^7) only [go_sem,↓reduceIte,reduceCtorEq,Nat.reduceEqDiff,Nat.reduceBEq,Nat.reduceAdd,Nat.reduceSub,Nat.reduceMul,Nat.reduceLT,Nat.reduceLeDiff,Nat.reduceBNe,Int.reduceBEq,Int.reduceBNe,Int.reduceLT,Int.reduceLE,Nd.a,Par.a,Spn.a,t2,t3,t4,o3,o4,t7,t8,g1,g2,ho,ed,e1,e2,e4,pj,ByteArray.size_append,List.length_map,b1,e7] | refine calling (c1) ?_ | refine callingH (c1) ?_ | refine calling (c2) ?_ | refine callingH (c2) ?_ | refine calling (c3) ?_ | refine callingH (c3) ?_ | refine calling (c4) ?_ | refine callingH (c4) ?_ | refine And.intro (by omega) ?_ | refine And.intro (fun d hd=>by (repeat (rcases hd with rfl | hd; · exact ⟨rfl,rfl⟩)); cases hd) ?_))
   refine run_loop (drInv n s d) (k:=n.rows.length) ⟨0,by omega,rfl,?_,?_,?_,?_⟩ ?_
   iterate 3 focus ((simp (maxSteps:=9^7) only [go_sem,↓reduceIte,reduceCtorEq,Nat.reduceEqDiff,Nat.reduceBEq,Nat.reduceAdd,Nat.reduceSub,Nat.reduceMul,Nat.reduceLT,Nat.reduceLeDiff,Nat.reduceBNe,Int.reduceBEq,Int.reduceBNe,Int.reduceLT,Int.reduceLE,Nd.a,Par.a,Spn.a,t2,t3,t4,o3,o4,t7,t8,g1,g2,ho,ed,e1,e2,e4,pj,ByteArray.size_append,List.length_map,e0]) <;> rfl)
   ·simp (maxSteps:=9^7) only [go_sem,↓reduceIte,reduceCtorEq,Nat.reduceEqDiff,Nat.reduceBEq,Nat.reduceAdd,Nat.reduceSub,Nat.reduceMul,Nat.reduceLT,Nat.reduceLeDiff,Nat.reduceBNe,Int.reduceBEq,Int.reduceBNe,Int.reduceLT,Int.reduceLE,Nd.a,Par.a,Spn.a]
    try rfl
   rintro k σ ⟨j,hj,rfl,t3,o3,t7,t9⟩
   simp only [r_rShp_l18]
   have sj:=shpR_size n s d j h h0 h1 h2
   by_cases hlt:j < n.rows.length
   ·have hlt':(j:Int) < (n.rows.length:Int):=by omega
    obtain ⟨x,hx⟩:=get_lt hlt
    have hgj:=at_map (f:=Par.a) hx
    simp only [Par.a] at hgj
    have hw:=wrapS (j:=j) (by omega)
    have s1:=h.rws x (List.mem_of_getElem? hx)
    have q8:=quoteF_size x.key
    have c8:=rQuote_ok x.key (by omega)
    have hn:shpR n s d j ++ ((⟨#[32]⟩:ByteArray) ++ quoteF x.key) = shpR n s d (j + 1):=by rw [shpR_next n s d hx,ba_assoc]
    (repeat (first | simp (maxSteps:=9^7) only [go_sem,↓reduceIte,reduceCtorEq,Nat.reduceEqDiff,Nat.reduceBEq,Nat.reduceAdd,Nat.reduceSub,Nat.reduceMul,Nat.reduceLT,Nat.reduceLeDiff,Nat.reduceBNe,Int.reduceBEq,Int.reduceBNe,Int.reduceLT,Int.reduceLE,Nd.a,Par.a,Spn.a,t3,o3,t7,t9,hlt',hgj,hlt,hn,e1,ByteArray.size_append,List.length_map,Int.toNat_natCast] | refine calling (c8) ?_ | refine callingH (c8) ?_ | refine And.intro (by omega) ?_ | refine And.intro (fun d hd=>by (repeat (rcases hd with rfl | hd; · exact ⟨rfl,rfl⟩)); cases hd) ?_))
    refine ⟨n.rows.length - (j + 1),by omega,j + 1,by omega,rfl,?_,?_,?_,?_⟩ <;>
     (simp (maxSteps:=9^7) only [go_sem,↓reduceIte,reduceCtorEq,Nat.reduceEqDiff,Nat.reduceBEq,Nat.reduceAdd,Nat.reduceSub,Nat.reduceMul,Nat.reduceLT,Nat.reduceLeDiff,Nat.reduceBNe,Int.reduceBEq,Int.reduceBNe,Int.reduceLT,Int.reduceLE,Nd.a,Par.a,Spn.a,t3,o3,t7,t9,hw,hn])
   ·have hlt':¬ (j:Int) < (n.rows.length:Int):=by omega
    obtain rfl:j = n.rows.length:=by omega
    simp (maxSteps:=9^7) only [go_sem,↓reduceIte,reduceCtorEq,Nat.reduceEqDiff,Nat.reduceBEq,Nat.reduceAdd,Nat.reduceSub,Nat.reduceMul,Nat.reduceLT,Nat.reduceLeDiff,Nat.reduceBNe,Int.reduceBEq,Int.reduceBNe,Int.reduceLT,Int.reduceLE,Nd.a,Par.a,Spn.a,t3,o3,t7,t9,hlt',eal,List.length_map]
  ·(repeat (first | simp (maxSteps:=9^7) only [go_sem,↓reduceIte,reduceCtorEq,Nat.reduceEqDiff,Nat.reduceBEq,Nat.reduceAdd,Nat.reduceSub,Nat.reduceMul,Nat.reduceLT,Nat.reduceLeDiff,Nat.reduceBNe,Int.reduceBEq,Int.reduceBNe,Int.reduceLT,Int.reduceLE,Nd.a,Par.a,Spn.a,t2,t3,t4,o3,o4,t7,t8,g1,ho,ed,e1,e2,e4,pj,ByteArray.size_append,List.length_map,b1,e7] | refine calling (c1) ?_ | refine callingH (c1) ?_ | refine calling (c2) ?_ | refine callingH (c2) ?_ | refine calling (c3) ?_ | refine callingH (c3) ?_ | refine calling (c4) ?_ | refine callingH (c4) ?_ | refine And.intro (by omega) ?_ | refine And.intro (fun d hd=>by (repeat (rcases hd with rfl | hd; · exact ⟨rfl,rfl⟩)); cases hd) ?_))
   refine run_loop (drInv n s d) (k:=n.rows.length) ⟨0,by omega,rfl,?_,?_,?_,?_⟩ ?_
   iterate 3 focus ((simp (maxSteps:=9^7) only [go_sem,↓reduceIte,reduceCtorEq,Nat.reduceEqDiff,Nat.reduceBEq,Nat.reduceAdd,Nat.reduceSub,Nat.reduceMul,Nat.reduceLT,Nat.reduceLeDiff,Nat.reduceBNe,Int.reduceBEq,Int.reduceBNe,Int.reduceLT,Int.reduceLE,Nd.a,Par.a,Spn.a,t2,t3,t4,o3,o4,t7,t8,g1,ho,ed,e1,e2,e4,pj,ByteArray.size_append,List.length_map,e0]) <;> rfl)
   ·simp (maxSteps:=9^7) only [go_sem,↓reduceIte,reduceCtorEq,Nat.reduceEqDiff,Nat.reduceBEq,Nat.reduceAdd,Nat.reduceSub,Nat.reduceMul,Nat.reduceLT,Nat.reduceLeDiff,Nat.reduceBNe,Int.reduceBEq,Int.reduceBNe,Int.reduceLT,Int.reduceLE,Nd.a,Par.a,Spn.a]
    try rfl
   rintro k σ ⟨j,hj,rfl,t3,o3,t7,t9⟩
   simp only [r_rShp_l18]
   have sj:=shpR_size n s d j h h0 h1 h2
   by_cases hlt:j < n.rows.length
   ·have hlt':(j:Int) < (n.rows.length:Int):=by omega
    obtain ⟨x,hx⟩:=get_lt hlt
    have hgj:=at_map (f:=Par.a) hx
    simp only [Par.a] at hgj
    have hw:=wrapS (j:=j) (by omega)
    have s1:=h.rws x (List.mem_of_getElem? hx)
    have q8:=quoteF_size x.key
    have c8:=rQuote_ok x.key (by omega)
    have hn:shpR n s d j ++ ((⟨#[32]⟩:ByteArray) ++ quoteF x.key) = shpR n s d (j + 1):=by rw [shpR_next n s d hx,ba_assoc]
    (repeat (first | simp (maxSteps:=9^7) only [go_sem,↓reduceIte,reduceCtorEq,Nat.reduceEqDiff,Nat.reduceBEq,Nat.reduceAdd,Nat.reduceSub,Nat.reduceMul,Nat.reduceLT,Nat.reduceLeDiff,Nat.reduceBNe,Int.reduceBEq,Int.reduceBNe,Int.reduceLT,Int.reduceLE,Nd.a,Par.a,Spn.a,t3,o3,t7,t9,hlt',hgj,hlt,hn,e1,ByteArray.size_append,List.length_map,Int.toNat_natCast] | refine calling (c8) ?_ | refine callingH (c8) ?_ | refine And.intro (by omega) ?_ | refine And.intro (fun d hd=>by (repeat (rcases hd with rfl | hd; · exact ⟨rfl,rfl⟩)); cases hd) ?_))
    refine ⟨n.rows.length - (j + 1),by omega,j + 1,by omega,rfl,?_,?_,?_,?_⟩ <;>
     (simp (maxSteps:=9^7) only [go_sem,↓reduceIte,reduceCtorEq,Nat.reduceEqDiff,Nat.reduceBEq,Nat.reduceAdd,Nat.reduceSub,Nat.reduceMul,Nat.reduceLT,Nat.reduceLeDiff,Nat.reduceBNe,Int.reduceBEq,Int.reduceBNe,Int.reduceLT,Int.reduceLE,Nd.a,Par.a,Spn.a,t3,o3,t7,t9,hw,hn])
   ·have hlt':¬ (j:Int) < (n.rows.length:Int):=by omega
    obtain rfl:j = n.rows.length:=by omega
    simp (maxSteps:=9^7) only [go_sem,↓reduceIte,reduceCtorEq,Nat.reduceEqDiff,Nat.reduceBEq,Nat.reduceAdd,Nat.reduceSub,Nat.reduceMul,Nat.reduceLT,Nat.reduceLeDiff,Nat.reduceBNe,Int.reduceBEq,Int.reduceBNe,Int.reduceLT,Int.reduceLE,Nd.a,Par.a,Spn.a,t3,o3,t7,t9,hlt',eal,List.length_map]
 | false =>
  have ed:=doc_shut n s d ho
  by_cases g1:((deepN d:Nat):Int) < d
  ·have g2:¬ ((deepN d:Nat):Int) < 100:=by unfold deepN at g1 ⊢; omega
   (repeat (first | simp (maxSteps:=9^7) only [go_sem,↓reduceIte,reduceCtorEq,Nat.reduceEqDiff,Nat.reduceBEq,Nat.reduceAdd,Nat.reduceSub,Nat.reduceMul,Nat.reduceLT,Nat.reduceLeDiff,Nat.reduceBNe,Int.reduceBEq,Int.reduceBNe,Int.reduceLT,Int.reduceLE,Nd.a,Par.a,Spn.a,t2,t3,t4,o3,o4,t7,t8,g1,g2,ho,ed,e1,e2,e4,pj,ByteArray.size_append,List.length_map,b1,e7] | refine calling (c1) ?_ | refine callingH (c1) ?_ | refine calling (c2) ?_ | refine callingH (c2) ?_ | refine calling (c3) ?_ | refine callingH (c3) ?_ | refine calling (c4) ?_ | refine callingH (c4) ?_ | refine And.intro (by omega) ?_ | refine And.intro (fun d hd=>by (repeat (rcases hd with rfl | hd; · exact ⟨rfl,rfl⟩)); cases hd) ?_))
   refine run_loop (drInv n s d) (k:=n.rows.length) ⟨0,by omega,rfl,?_,?_,?_,?_⟩ ?_
   iterate 3 focus ((simp (maxSteps:=9^7) only [go_sem,↓reduceIte,reduceCtorEq,Nat.reduceEqDiff,Nat.reduceBEq,Nat.reduceAdd,Nat.reduceSub,Nat.reduceMul,Nat.reduceLT,Nat.reduceLeDiff,Nat.reduceBNe,Int.reduceBEq,Int.reduceBNe,Int.reduceLT,Int.reduceLE,Nd.a,Par.a,Spn.a,t2,t3,t4,o3,o4,t7,t8,g1,g2,ho,ed,e1,e2,e4,pj,ByteArray.size_append,List.length_map,e0]) <;> rfl)
   ·simp (maxSteps:=9^7) only [go_sem,↓reduceIte,reduceCtorEq,Nat.reduceEqDiff,Nat.reduceBEq,Nat.reduceAdd,Nat.reduceSub,Nat.reduceMul,Nat.reduceLT,Nat.reduceLeDiff,Nat.reduceBNe,Int.reduceBEq,Int.reduceBNe,Int.reduceLT,Int.reduceLE,Nd.a,Par.a,Spn.a]
    try rfl
   rintro k σ ⟨j,hj,rfl,t3,o3,t7,t9⟩
   simp only [r_rShp_l18]
   have sj:=shpR_size n s d j h h0 h1 h2
   by_cases hlt:j < n.rows.length
   ·have hlt':(j:Int) < (n.rows.length:Int):=by omega
    obtain ⟨x,hx⟩:=get_lt hlt
    have hgj:=at_map (f:=Par.a) hx
    simp only [Par.a] at hgj
    have hw:=wrapS (j:=j) (by omega)
    have s1:=h.rws x (List.mem_of_getElem? hx)
    have q8:=quoteF_size x.key
    have c8:=rQuote_ok x.key (by omega)
    have hn:shpR n s d j ++ ((⟨#[32]⟩:ByteArray) ++ quoteF x.key) = shpR n s d (j + 1):=by rw [shpR_next n s d hx,ba_assoc]
    (repeat (first | simp (maxSteps:=9^7) only [go_sem,↓reduceIte,reduceCtorEq,Nat.reduceEqDiff,Nat.reduceBEq,Nat.reduceAdd,Nat.reduceSub,Nat.reduceMul,Nat.reduceLT,Nat.reduceLeDiff,Nat.reduceBNe,Int.reduceBEq,Int.reduceBNe,Int.reduceLT,Int.reduceLE,Nd.a,Par.a,Spn.a,t3,o3,t7,t9,hlt',hgj,hlt,hn,e1,ByteArray.size_append,List.length_map,Int.toNat_natCast] | refine calling (c8) ?_ | refine callingH (c8) ?_ | refine And.intro (by omega) ?_ | refine And.intro (fun d hd=>by (repeat (rcases hd with rfl | hd; · exact ⟨rfl,rfl⟩)); cases hd) ?_))
    refine ⟨n.rows.length - (j + 1),by omega,j + 1,by omega,rfl,?_,?_,?_,?_⟩ <;>
     (simp (maxSteps:=9^7) only [go_sem,↓reduceIte,reduceCtorEq,Nat.reduceEqDiff,Nat.reduceBEq,Nat.reduceAdd,Nat.reduceSub,Nat.reduceMul,Nat.reduceLT,Nat.reduceLeDiff,Nat.reduceBNe,Int.reduceBEq,Int.reduceBNe,Int.reduceLT,Int.reduceLE,Nd.a,Par.a,Spn.a,t3,o3,t7,t9,hw,hn])
   ·have hlt':¬ (j:Int) < (n.rows.length:Int):=by omega
    obtain rfl:j = n.rows.length:=by omega
    simp (maxSteps:=9^7) only [go_sem,↓reduceIte,reduceCtorEq,Nat.reduceEqDiff,Nat.reduceBEq,Nat.reduceAdd,Nat.reduceSub,Nat.reduceMul,Nat.reduceLT,Nat.reduceLeDiff,Nat.reduceBNe,Int.reduceBEq,Int.reduceBNe,Int.reduceLT,Int.reduceLE,Nd.a,Par.a,Spn.a,t3,o3,t7,t9,hlt',eal,List.length_map]
  ·(repeat (first | simp (maxSteps:=9^7) only [go_sem,↓reduceIte,reduceCtorEq,Nat.reduceEqDiff,Nat.reduceBEq,Nat.reduceAdd,Nat.reduceSub,Nat.reduceMul,Nat.reduceLT,Nat.reduceLeDiff,Nat.reduceBNe,Int.reduceBEq,Int.reduceBNe,Int.reduceLT,Int.reduceLE,Nd.a,Par.a,Spn.a,t2,t3,t4,o3,o4,t7,t8,g1,ho,ed,e1,e2,e4,pj,ByteArray.size_append,List.length_map,b1,e7] | refine calling (c1) ?_ | refine callingH (c1) ?_ | refine calling (c2) ?_ | refine callingH (c2) ?_ | refine calling (c3) ?_ | refine callingH (c3) ?_ | refine calling (c4) ?_ | refine callingH (c4) ?_ | refine And.intro (by omega) ?_ | refine And.intro (fun d hd=>by (repeat (rcases hd with rfl | hd; · exact ⟨rfl,rfl⟩)); cases hd) ?_))
   refine run_loop (drInv n s d) (k:=n.rows.length) ⟨0,by omega,rfl,?_,?_,?_,?_⟩ ?_
   iterate 3 focus ((simp (maxSteps:=9^7) only [go_sem,↓reduceIte,reduceCtorEq,Nat.reduceEqDiff,Nat.reduceBEq,Nat.reduceAdd,Nat.reduceSub,Nat.reduceMul,Nat.reduceLT,Nat.reduceLeDiff,Nat.reduceBNe,Int.reduceBEq,Int.reduceBNe,Int.reduceLT,Int.reduceLE,Nd.a,Par.a,Spn.a,t2,t3,t4,o3,o4,t7,t8,g1,ho,ed,e1,e2,e4,pj,ByteArray.size_append,List.length_map,e0]) <;> rfl)
   ·simp (maxSteps:=9^7) only [go_sem,↓reduceIte,reduceCtorEq,Nat.reduceEqDiff,Nat.reduceBEq,Nat.reduceAdd,Nat.reduceSub,Nat.reduceMul,Nat.reduceLT,Nat.reduceLeDiff,Nat.reduceBNe,Int.reduceBEq,Int.reduceBNe,Int.reduceLT,Int.reduceLE,Nd.a,Par.a,Spn.a]
    try rfl
   rintro k σ ⟨j,hj,rfl,t3,o3,t7,t9⟩
   simp only [r_rShp_l18]
   have sj:=shpR_size n s d j h h0 h1 h2
   by_cases hlt:j < n.rows.length
   ·have hlt':(j:Int) < (n.rows.length:Int):=by omega
    obtain ⟨x,hx⟩:=get_lt hlt
    have hgj:=at_map (f:=Par.a) hx
    simp only [Par.a] at hgj
    have hw:=wrapS (j:=j) (by omega)
    have s1:=h.rws x (List.mem_of_getElem? hx)
    have q8:=quoteF_size x.key
    have c8:=rQuote_ok x.key (by omega)
    have hn:shpR n s d j ++ ((⟨#[32]⟩:ByteArray) ++ quoteF x.key) = shpR n s d (j + 1):=by rw [shpR_next n s d hx,ba_assoc]
    (repeat (first | simp (maxSteps:=9^7) only [go_sem,↓reduceIte,reduceCtorEq,Nat.reduceEqDiff,Nat.reduceBEq,Nat.reduceAdd,Nat.reduceSub,Nat.reduceMul,Nat.reduceLT,Nat.reduceLeDiff,Nat.reduceBNe,Int.reduceBEq,Int.reduceBNe,Int.reduceLT,Int.reduceLE,Nd.a,Par.a,Spn.a,t3,o3,t7,t9,hlt',hgj,hlt,hn,e1,ByteArray.size_append,List.length_map,Int.toNat_natCast] | refine calling (c8) ?_ | refine callingH (c8) ?_ | refine And.intro (by omega) ?_ | refine And.intro (fun d hd=>by (repeat (rcases hd with rfl | hd; · exact ⟨rfl,rfl⟩)); cases hd) ?_))
    refine ⟨n.rows.length - (j + 1),by omega,j + 1,by omega,rfl,?_,?_,?_,?_⟩ <;>
     (simp (maxSteps:=9^7) only [go_sem,↓reduceIte,reduceCtorEq,Nat.reduceEqDiff,Nat.reduceBEq,Nat.reduceAdd,Nat.reduceSub,Nat.reduceMul,Nat.reduceLT,Nat.reduceLeDiff,Nat.reduceBNe,Int.reduceBEq,Int.reduceBNe,Int.reduceLT,Int.reduceLE,Nd.a,Par.a,Spn.a,t3,o3,t7,t9,hw,hn])
   ·have hlt':¬ (j:Int) < (n.rows.length:Int):=by omega
    obtain rfl:j = n.rows.length:=by omega
    simp (maxSteps:=9^7) only [go_sem,↓reduceIte,reduceCtorEq,Nat.reduceEqDiff,Nat.reduceBEq,Nat.reduceAdd,Nat.reduceSub,Nat.reduceMul,Nat.reduceLT,Nat.reduceLeDiff,Nat.reduceBNe,Int.reduceBEq,Int.reduceBNe,Int.reduceLT,Int.reduceLE,Nd.a,Par.a,Spn.a,t3,o3,t7,t9,hlt',eal,List.length_map]
end
section
/-
 Are nodes few,with few things? The document's Light,walked.
-/
open Go.RowKit
attribute [local go_sem ↓] runOp headOp
def sumN {α:Type} (f:α->Nat):List α->Nat
 | []=>0
 | x :: l=>f x + sumN f l
theorem sumN_at {α:Type} {f:α->Nat} {l:List α} {j:Nat} {x:α} (h:l[j]? = some x):sumN f (l.drop j) = f x + sumN f (l.drop (j + 1)):=by
 rw [drop_at h]; rfl
theorem sumN_mem {α:Type} {f:α->Nat}:∀ {l:List α} {x:α},x ∈ l->f x≤sumN f l
 | y :: l,x,h=>by
  show _≤f y + sumN f l
  rcases List.mem_cons.1 h with rfl | h
  ·omega
  ·have:=sumN_mem (f:=f) h; omega
theorem sumN_len {α:Type} {f:α->Nat} (hf:∀ x,1≤f x):∀ l:List α,l.length≤sumN f l
 | []=>Nat.le_refl _
 | x :: l=>by
  have:=sumN_len hf l
  have:=hf x
  show l.length + 1≤f x + sumN f l
  omega
def Par.bulk (p:Par):Nat:=1 + p.key.size + p.val.size
def Msg.bulkN (m:Msg):Nat:=1 + m.key.size + m.hi.size + m.val.size
def strBulk (s:ByteArray):Nat:=s.size + 1
def longInv (l:List AV) (most:Int) (rest:Nat->Nat) (r:Bool) (k:Nat) (σ:St):Prop :=
 ∃ (j n:Nat),j≤l.length∧k = l.length - j∧σ.T 0 = .sl l∧σ.T 1 = .int .i64 most∧σ.T 5 = .int .i64 n∧σ.T 6 = .int .i64 j∧n≤900000000000000∧decide (((n + rest j:Nat):Int)≤most) = r
/-! ### percolate/percolateref09.Long -/
def r_rLong9_0:Reg:=⟨[],[⟨.mv (.c (.bool false)),some 4,none,[],[]⟩],[],[],false⟩
def r_rLong9_1:Reg:=⟨[],[⟨.mv (.c (.int .i64 0)),some 5,none,[],[]⟩],[],[],false⟩
def r_rLong9_2:Reg:=⟨[],[⟨.mv (.c (.int .i64 0)),some 6,none,[],[]⟩],[],[],false⟩
def t_rLong9_3:List ROp:=[⟨.mv (.t 6),some 7,none,[],[]⟩,⟨.mv (.t 0),some 8,none,[],[]⟩,⟨.len false (.t 8),some 9,none,[],[]⟩,⟨.bin .lss (.t 7) (.t 9),some 10,none,[],[]⟩,⟨.mv (.t 10),some 11,none,[],[]⟩,⟨.mv (.t 5),some 12,(some (11,true)),[],[]⟩,⟨.mv (.t 1),some 13,(some (11,true)),[],[]⟩,⟨.bin .leq (.t 12) (.t 13),some 14,(some (11,true)),[],[]⟩,⟨.pick (.t 11) (.t 14) (.c (.bool false)),some 15,none,[],[]⟩]
def r_rLong9_3:Reg:=⟨[],t_rLong9_3,[],[],false⟩
def h_rLong9_4:List ROp:=[⟨.mv (.t 5),some 18,none,[],[]⟩,⟨.mv (.t 0),some 19,none,[],[]⟩,⟨.mv (.t 6),some 20,none,[],[]⟩,⟨.iaddr 2 (.t 19) (.t 20),some 21,none,[],[]⟩,⟨.faddr 0 (.t 21),some 22,none,[],[]⟩,⟨.load 1 false (.t 22),some 23,none,[],[]⟩,⟨.len true (.t 23),some 24,none,[],[]⟩,⟨.bin .add (.c (.int .i64 1)) (.t 24),some 25,none,[],[]⟩,⟨.mv (.t 0),some 26,none,[],[]⟩,⟨.mv (.t 6),some 27,none,[],[]⟩,⟨.iaddr 2 (.t 26) (.t 27),some 28,none,[],[]⟩,⟨.faddr 1 (.t 28),some 29,none,[],[]⟩,⟨.load 1 false (.t 29),some 30,none,[],[]⟩,⟨.len true (.t 30),some 31,none,[],[]⟩,⟨.bin .add (.t 25) (.t 31),some 32,none,[],[]⟩]
def r_rLong9_4:Reg:=⟨h_rLong9_4,[⟨.bin .add (.t 18) (.t 32),some 33,none,[],[]⟩,⟨.mv (.t 33),some 5,none,[],[]⟩],[],[],true⟩
def t_rLong9_5:List ROp:=[⟨.mv (.t 6),some 16,none,[],[]⟩,⟨.bin .add (.t 16) (.c (.int .i64 1)),some 17,none,[],[]⟩,⟨.mv (.t 17),some 6,none,[],[]⟩]
def r_rLong9_5:Reg:=⟨[],t_rLong9_5,[],[],false⟩
def r_rLong9_l6:IR:=(.seq (.seq (.reg r_rLong9_3)
 (.cond (.t 15) .skip
 (.exit 0)))
 (.seq (.block 1 (.reg r_rLong9_4))
 (.reg r_rLong9_5)))
def t_rLong9_7:List ROp:=[⟨.mv (.t 5),some 34,none,[],[]⟩,⟨.mv (.t 1),some 35,none,[],[]⟩,⟨.bin .leq (.t 34) (.t 35),some 36,none,[],[]⟩,⟨.mv (.t 36),some 4,none,[],[]⟩]
def r_rLong9_7:Reg:=⟨[],t_rLong9_7,[],[],false⟩
def ir_rLong9:IR:=(.seq (.reg r_rLong9_0)
 (.seq (.reg r_rLong9_1)
 (.seq (.seq (.reg r_rLong9_2)
 (.block 0 (.loop r_rLong9_l6)))
 (.seq (.reg r_rLong9_7)
 .ret))))
def res_rLong9:List RDesc:=[(.tmp 4)]
theorem e_rLong9_0:EqR r_rLong9_0 [⟨.mv (.c (.bool false)),some 4,none,[],[]⟩] []:=fun _ _ _=>rfl
theorem e_rLong9_1:EqR r_rLong9_1 [⟨.mv (.c (.int .i64 0)),some 5,none,[],[]⟩] []:=fun _ _ _=>rfl
theorem e_rLong9_2:EqR r_rLong9_2 [⟨.mv (.c (.int .i64 0)),some 6,none,[],[]⟩] []:=fun _ _ _=>rfl
theorem e_rLong9_3:EqR r_rLong9_3 t_rLong9_3 []:=fun _ _ _=>rfl
theorem e_rLong9_4 (C:FuncId->List AV->AV->Prop) (σ:St) (K:St->Prop):runReg C r_rLong9_4 σ K = runHead C [] [⟨.bin .add (.t 18) (.t 32),some 33,none,[],[]⟩,⟨.mv (.t 33),some 5,none,[],[]⟩] h_rLong9_4 (σ.kills []) K:=rfl
theorem e_rLong9_5:EqR r_rLong9_5 t_rLong9_5 []:=fun _ _ _=>rfl
theorem e_rLong9_7:EqR r_rLong9_7 t_rLong9_7 []:=fun _ _ _=>rfl
theorem fn_rLong9 {args:List AV} {r:AV} (ha:args.length.ble Tryd.f18.ntmps = true) (h:run (AFn Tryd.prog) ir_rLong9 (endQ res_rLong9 r) (initSt args)):AFn Tryd.prog 18 args r :=
 AFn.of_code (pv:=false) (hint:=fun _=>[]) (c:=Tryd.f18.body.getD .skip) (by kernel_rfl) (by kernel_rfl) Tryd.func18 (by kernel_rfl) (by kernel_rfl) (by kernel_rfl) (of_decide_eq_true (by kernel_rfl)) (Nat.le_of_ble_eq_true ha) (Nat.le_of_ble_eq_true (by kernel_rfl)) (run_ok h)
/-! ### percolate/percolateref05.Few -/
def r_rFewN_0:Reg:=⟨[],[⟨.mv (.c (.bool false)),some 4,none,[],[]⟩],[],[],false⟩
def r_rFewN_1:Reg:=⟨[],[⟨.mv (.c (.int .i64 0)),some 5,none,[],[]⟩],[],[],false⟩
def r_rFewN_2:Reg:=⟨[],[⟨.mv (.c (.int .i64 0)),some 6,none,[],[]⟩],[],[],false⟩
def t_rFewN_3:List ROp:=[⟨.mv (.t 6),some 7,none,[],[]⟩,⟨.mv (.t 0),some 8,none,[],[]⟩,⟨.len false (.t 8),some 9,none,[],[]⟩,⟨.bin .lss (.t 7) (.t 9),some 10,none,[],[]⟩,⟨.mv (.t 10),some 11,none,[],[]⟩,⟨.mv (.t 5),some 12,(some (11,true)),[],[]⟩,⟨.mv (.t 1),some 13,(some (11,true)),[],[]⟩,⟨.bin .leq (.t 12) (.t 13),some 14,(some (11,true)),[],[]⟩,⟨.pick (.t 11) (.t 14) (.c (.bool false)),some 15,none,[],[]⟩]
def r_rFewN_3:Reg:=⟨[],t_rFewN_3,[],[],false⟩
def h_rFewN_4:List ROp:=[⟨.mv (.t 5),some 18,none,[],[]⟩,⟨.mv (.t 0),some 19,none,[],[]⟩,⟨.mv (.t 6),some 20,none,[],[]⟩,⟨.iaddr 6 (.t 19) (.t 20),some 21,none,[],[]⟩,⟨.faddr 2 (.t 21),some 22,none,[],[]⟩,⟨.load 1 false (.t 22),some 23,none,[],[]⟩,⟨.len true (.t 23),some 24,none,[],[]⟩,⟨.bin .add (.c (.int .i64 1)) (.t 24),some 25,none,[],[]⟩,⟨.mv (.t 0),some 26,none,[],[]⟩,⟨.mv (.t 6),some 27,none,[],[]⟩,⟨.iaddr 6 (.t 26) (.t 27),some 28,none,[],[]⟩,⟨.faddr 3 (.t 28),some 29,none,[],[]⟩,⟨.load 1 false (.t 29),some 30,none,[],[]⟩,⟨.len true (.t 30),some 31,none,[],[]⟩,⟨.bin .add (.t 25) (.t 31),some 32,none,[],[]⟩,⟨.mv (.t 0),some 33,none,[],[]⟩,⟨.mv (.t 6),some 34,none,[],[]⟩,⟨.iaddr 6 (.t 33) (.t 34),some 35,none,[],[]⟩,⟨.faddr 5 (.t 35),some 36,none,[],[]⟩,⟨.load 1 false (.t 36),some 37,none,[],[]⟩,⟨.len true (.t 37),some 38,none,[],[]⟩,⟨.bin .add (.t 32) (.t 38),some 39,none,[],[]⟩]
def r_rFewN_4:Reg:=⟨h_rFewN_4,[⟨.bin .add (.t 18) (.t 39),some 40,none,[],[]⟩,⟨.mv (.t 40),some 5,none,[],[]⟩],[],[],true⟩
def t_rFewN_5:List ROp:=[⟨.mv (.t 6),some 16,none,[],[]⟩,⟨.bin .add (.t 16) (.c (.int .i64 1)),some 17,none,[],[]⟩,⟨.mv (.t 17),some 6,none,[],[]⟩]
def r_rFewN_5:Reg:=⟨[],t_rFewN_5,[],[],false⟩
def r_rFewN_l6:IR:=(.seq (.seq (.reg r_rFewN_3)
 (.cond (.t 15) .skip
 (.exit 0)))
 (.seq (.block 1 (.reg r_rFewN_4))
 (.reg r_rFewN_5)))
def t_rFewN_7:List ROp:=[⟨.mv (.t 5),some 41,none,[],[]⟩,⟨.mv (.t 1),some 42,none,[],[]⟩,⟨.bin .leq (.t 41) (.t 42),some 43,none,[],[]⟩,⟨.mv (.t 43),some 4,none,[],[]⟩]
def r_rFewN_7:Reg:=⟨[],t_rFewN_7,[],[],false⟩
def ir_rFewN:IR:=(.seq (.reg r_rFewN_0)
 (.seq (.reg r_rFewN_1)
 (.seq (.seq (.reg r_rFewN_2)
 (.block 0 (.loop r_rFewN_l6)))
 (.seq (.reg r_rFewN_7)
 .ret))))
def res_rFewN:List RDesc:=[(.tmp 4)]
theorem e_rFewN_0:EqR r_rFewN_0 [⟨.mv (.c (.bool false)),some 4,none,[],[]⟩] []:=fun _ _ _=>rfl
theorem e_rFewN_1:EqR r_rFewN_1 [⟨.mv (.c (.int .i64 0)),some 5,none,[],[]⟩] []:=fun _ _ _=>rfl
theorem e_rFewN_2:EqR r_rFewN_2 [⟨.mv (.c (.int .i64 0)),some 6,none,[],[]⟩] []:=fun _ _ _=>rfl
theorem e_rFewN_3:EqR r_rFewN_3 t_rFewN_3 []:=fun _ _ _=>rfl
theorem e_rFewN_4 (C:FuncId->List AV->AV->Prop) (σ:St) (K:St->Prop):runReg C r_rFewN_4 σ K = runHead C [] [⟨.bin .add (.t 18) (.t 39),some 40,none,[],[]⟩,⟨.mv (.t 40),some 5,none,[],[]⟩] h_rFewN_4 (σ.kills []) K:=rfl
theorem e_rFewN_5:EqR r_rFewN_5 t_rFewN_5 []:=fun _ _ _=>rfl
theorem e_rFewN_7:EqR r_rFewN_7 t_rFewN_7 []:=fun _ _ _=>rfl
theorem fn_rFewN {args:List AV} {r:AV} (ha:args.length.ble Tryd.f20.ntmps = true) (h:run (AFn Tryd.prog) ir_rFewN (endQ res_rFewN r) (initSt args)):AFn Tryd.prog 20 args r :=
 AFn.of_code (pv:=false) (hint:=fun _=>[]) (c:=Tryd.f20.body.getD .skip) (by kernel_rfl) (by kernel_rfl) Tryd.func20 (by kernel_rfl) (by kernel_rfl) (by kernel_rfl) (of_decide_eq_true (by kernel_rfl)) (Nat.le_of_ble_eq_true ha) (Nat.le_of_ble_eq_true (by kernel_rfl)) (run_ok h)
/-! ### percolate/percolateref01.Long -/
def r_rLong1_0:Reg:=⟨[],[⟨.mv (.c (.int .i64 0)),some 4,none,[],[]⟩],[],[],false⟩
def r_rLong1_1:Reg:=⟨[],[⟨.mv (.c (.int .i64 0)),some 5,none,[],[]⟩],[],[],false⟩
def r_rLong1_2:Reg:=⟨[],[⟨.mv (.c (.int .i64 0)),some 6,none,[],[]⟩],[],[],false⟩
def t_rLong1_3:List ROp:=[⟨.mv (.t 6),some 7,none,[],[]⟩,⟨.mv (.t 0),some 8,none,[],[]⟩,⟨.len false (.t 8),some 9,none,[],[]⟩,⟨.bin .lss (.t 7) (.t 9),some 10,none,[],[]⟩,⟨.mv (.t 10),some 11,none,[],[]⟩,⟨.mv (.t 5),some 12,(some (11,true)),[],[]⟩,⟨.mv (.t 1),some 13,(some (11,true)),[],[]⟩,⟨.bin .leq (.t 12) (.t 13),some 14,(some (11,true)),[],[]⟩,⟨.pick (.t 11) (.t 14) (.c (.bool false)),some 15,none,[],[]⟩]
def r_rLong1_3:Reg:=⟨[],t_rLong1_3,[],[],false⟩
def t_rLong1_4:List ROp:=[⟨.mv (.t 5),some 18,none,[],[]⟩,⟨.mv (.t 0),some 19,none,[],[]⟩,⟨.mv (.t 6),some 20,none,[],[]⟩,⟨.iaddr 1 (.t 19) (.t 20),some 21,none,[],[]⟩,⟨.load 1 false (.t 21),some 22,none,[],[]⟩,⟨.len true (.t 22),some 23,none,[],[]⟩,⟨.bin .add (.t 23) (.c (.int .i64 1)),some 24,none,[],[]⟩,⟨.bin .add (.t 18) (.t 24),some 25,none,[],[]⟩,⟨.mv (.t 25),some 5,none,[],[]⟩]
def r_rLong1_4:Reg:=⟨[],t_rLong1_4,[],[],false⟩
def t_rLong1_5:List ROp:=[⟨.mv (.t 6),some 16,none,[],[]⟩,⟨.bin .add (.t 16) (.c (.int .i64 1)),some 17,none,[],[]⟩,⟨.mv (.t 17),some 6,none,[],[]⟩]
def r_rLong1_5:Reg:=⟨[],t_rLong1_5,[],[],false⟩
def r_rLong1_l6:IR:=(.seq (.seq (.reg r_rLong1_3)
 (.cond (.t 15) .skip
 (.exit 0)))
 (.seq (.block 1 (.reg r_rLong1_4))
 (.reg r_rLong1_5)))
def r_rLong1_7:Reg:=⟨[],[⟨.mv (.t 5),some 26,none,[],[]⟩,⟨.mv (.t 26),some 4,none,[],[]⟩],[],[],false⟩
def ir_rLong1:IR:=(.seq (.reg r_rLong1_0)
 (.seq (.reg r_rLong1_1)
 (.seq (.seq (.reg r_rLong1_2)
 (.block 0 (.loop r_rLong1_l6)))
 (.seq (.reg r_rLong1_7)
 .ret))))
def res_rLong1:List RDesc:=[(.tmp 4)]
theorem e_rLong1_0:EqR r_rLong1_0 [⟨.mv (.c (.int .i64 0)),some 4,none,[],[]⟩] []:=fun _ _ _=>rfl
theorem e_rLong1_1:EqR r_rLong1_1 [⟨.mv (.c (.int .i64 0)),some 5,none,[],[]⟩] []:=fun _ _ _=>rfl
theorem e_rLong1_2:EqR r_rLong1_2 [⟨.mv (.c (.int .i64 0)),some 6,none,[],[]⟩] []:=fun _ _ _=>rfl
theorem e_rLong1_3:EqR r_rLong1_3 t_rLong1_3 []:=fun _ _ _=>rfl
theorem e_rLong1_4:EqR r_rLong1_4 t_rLong1_4 []:=fun _ _ _=>rfl
theorem e_rLong1_5:EqR r_rLong1_5 t_rLong1_5 []:=fun _ _ _=>rfl
theorem e_rLong1_7:EqR r_rLong1_7 [⟨.mv (.t 5),some 26,none,[],[]⟩,⟨.mv (.t 26),some 4,none,[],[]⟩] []:=fun _ _ _=>rfl
theorem fn_rLong1 {args:List AV} {r:AV} (ha:args.length.ble Tryd.f19.ntmps = true) (h:run (AFn Tryd.prog) ir_rLong1 (endQ res_rLong1 r) (initSt args)):AFn Tryd.prog 19 args r :=
 AFn.of_code (pv:=false) (hint:=fun _=>[]) (c:=Tryd.f19.body.getD .skip) (by kernel_rfl) (by kernel_rfl) Tryd.func19 (by kernel_rfl) (by kernel_rfl) (by kernel_rfl) (of_decide_eq_true (by kernel_rfl)) (Nat.le_of_ble_eq_true ha) (Nat.le_of_ble_eq_true (by kernel_rfl)) (run_ok h)
attribute [local go_sem ↓] ir_rLong9
attribute [local go_sem] res_rLong9 e_rLong9_0 e_rLong9_1 e_rLong9_2 e_rLong9_3 t_rLong9_3 e_rLong9_4 h_rLong9_4 e_rLong9_5 t_rLong9_5 e_rLong9_7 t_rLong9_7
attribute [local go_sem ↓] ir_rFewN
attribute [local go_sem] res_rFewN e_rFewN_0 e_rFewN_1 e_rFewN_2 e_rFewN_3 t_rFewN_3 e_rFewN_4 h_rFewN_4 e_rFewN_5 t_rFewN_5 e_rFewN_7 t_rFewN_7
attribute [local go_sem ↓] ir_rLong1
attribute [local go_sem] res_rLong1 e_rLong1_0 e_rLong1_1 e_rLong1_2 e_rLong1_3 t_rLong1_3 e_rLong1_4 t_rLong1_4 e_rLong1_5 t_rLong1_5 e_rLong1_7
theorem rLong9_ok (l:List Par) (most:Int) (h1:0≤most) (h2:most≤1000000) (hs:∀ m,m ∈ l->m.key.size≤281474976710656∧m.val.size≤281474976710656) (hl:l.length≤281474976710656) :
  AFn Tryd.prog 18 [.sl (l.map Par.a),.int .i64 most] (.bool (decide ((sumN Par.bulk l:Int)≤most))):=by
 refine fn_rLong9 rfl ?_
 simp (maxSteps:=9^7) only [go_sem,↓reduceIte,reduceCtorEq,Nat.reduceEqDiff,Nat.reduceBEq,Nat.reduceAdd,Nat.reduceSub,Nat.reduceMul,Nat.reduceLT,Nat.reduceLeDiff,Nat.reduceBNe,Int.reduceBEq,Int.reduceBNe,Int.reduceLT,Int.reduceLE,Msg.a,Par.a,Nd.a]
 refine run_loop (longInv (l.map Par.a) most (fun j=>sumN Par.bulk (l.drop j)) (decide ((sumN Par.bulk l:Int)≤most))) (k:=(l.map Par.a).length) ⟨0,0,by omega,rfl,rfl,rfl,rfl,rfl,by omega,?_⟩ ?_
 ·simp
 rintro k σ ⟨j,n,hj,rfl,t0,t1,t5,t6,hn2,hr⟩
 rw [List.length_map] at hj
 simp only [r_rLong9_l6]
 by_cases hlt:j < l.length
 ·have hlt':(j:Int) < (l.length:Int):=by omega
  by_cases hm:(n:Int)≤most
  ·obtain ⟨x,hx⟩:=get_lt hlt
   have hgj:=at_map (f:=Par.a) hx
   simp only [Par.a] at hgj
   have hw:=wrapS (j:=j) (by omega)
   obtain ⟨s1,s3⟩:=hs x (List.mem_of_getElem? hx)
   have w1:IntKind.i64.wrap (1 + (x.key.size:Int)) = 1 + (x.key.size:Int):=IntWalk.i64_in _ (by omega)
   have w3:IntKind.i64.wrap (1 + (x.key.size:Int) + (x.val.size:Int)) = 1 + (x.key.size:Int) + (x.val.size:Int):=IntWalk.i64_in _ (by omega)
   have w4:IntKind.i64.wrap ((n:Int) + (1 + (x.key.size:Int) + (x.val.size:Int))) = ((n + x.bulk:Nat):Int):=by
    rw [IntWalk.i64_in _ (by omega)]; unfold Par.bulk; omega
   simp only [sumN_at hx] at hr
   simp (maxSteps:=9^7) only [go_sem,↓reduceIte,reduceCtorEq,Nat.reduceEqDiff,Nat.reduceBEq,Nat.reduceAdd,Nat.reduceSub,Nat.reduceMul,Nat.reduceLT,Nat.reduceLeDiff,Nat.reduceBNe,Int.reduceBEq,Int.reduceBNe,Int.reduceLT,Int.reduceLE,Msg.a,Par.a,Nd.a,t0,t1,t5,t6,hlt',hm,hgj,List.length_map,Int.toNat_natCast,w1,w3,w4,hw]
   (repeat refine And.intro (by omega) ?_)
   refine ⟨l.length - (j + 1),by omega,j + 1,n + x.bulk,by rw [List.length_map]; omega,by rw [List.length_map],?_,?_,?_,?_,by unfold Par.bulk; omega,?_⟩
   iterate 4 focus ((simp (maxSteps:=9^7) only [go_sem,↓reduceIte,reduceCtorEq,Nat.reduceEqDiff,Nat.reduceBEq,Nat.reduceAdd,Nat.reduceSub,Nat.reduceMul,Nat.reduceLT,Nat.reduceLeDiff,Nat.reduceBNe,Int.reduceBEq,Int.reduceBNe,Int.reduceLT,Int.reduceLE,Msg.a,Par.a,Nd.a,t0,t1,t5,t6]) <;> rfl)
   ·rw [← hr,Nat.add_assoc]
  ·simp (maxSteps:=9^7) only [go_sem,↓reduceIte,reduceCtorEq,Nat.reduceEqDiff,Nat.reduceBEq,Nat.reduceAdd,Nat.reduceSub,Nat.reduceMul,Nat.reduceLT,Nat.reduceLeDiff,Nat.reduceBNe,Int.reduceBEq,Int.reduceBNe,Int.reduceLT,Int.reduceLE,Msg.a,Par.a,Nd.a,t0,t1,t5,t6,hlt',hm,List.length_map]
   have:¬ ((n + sumN Par.bulk (l.drop j):Nat):Int)≤most:=by omega
   simp only [decide_eq_false this] at hr
   exact of_decide_eq_false hr.symm
 ·have hlt':¬ (j:Int) < (l.length:Int):=by omega
  simp (maxSteps:=9^7) only [go_sem,↓reduceIte,reduceCtorEq,Nat.reduceEqDiff,Nat.reduceBEq,Nat.reduceAdd,Nat.reduceSub,Nat.reduceMul,Nat.reduceLT,Nat.reduceLeDiff,Nat.reduceBNe,Int.reduceBEq,Int.reduceBNe,Int.reduceLT,Int.reduceLE,Msg.a,Par.a,Nd.a,t0,t1,t5,t6,hlt',List.length_map]
  rw [← hr]
  show decide (((n + sumN Par.bulk (l.drop j):Nat):Int)≤most) = _
  rw [List.drop_eq_nil_of_le (by omega)]
  exact decide_eq_decide.2 Iff.rfl
theorem rFewN_ok (l:List Msg) (most:Int) (h1:0≤most) (h2:most≤1000000) (hs:∀ m,m ∈ l->m.key.size≤281474976710656∧m.hi.size≤281474976710656∧m.val.size≤281474976710656) (hl:l.length≤281474976710656) :
  AFn Tryd.prog 20 [.sl (l.map Msg.a),.int .i64 most] (.bool (decide ((sumN Msg.bulkN l:Int)≤most))):=by
 refine fn_rFewN rfl ?_
 simp (maxSteps:=9^7) only [go_sem,↓reduceIte,reduceCtorEq,Nat.reduceEqDiff,Nat.reduceBEq,Nat.reduceAdd,Nat.reduceSub,Nat.reduceMul,Nat.reduceLT,Nat.reduceLeDiff,Nat.reduceBNe,Int.reduceBEq,Int.reduceBNe,Int.reduceLT,Int.reduceLE,Msg.a,Par.a,Nd.a]
 refine run_loop (longInv (l.map Msg.a) most (fun j=>sumN Msg.bulkN (l.drop j)) (decide ((sumN Msg.bulkN l:Int)≤most))) (k:=(l.map Msg.a).length) ⟨0,0,by omega,rfl,rfl,rfl,rfl,rfl,by omega,?_⟩ ?_
 ·simp
 rintro k σ ⟨j,n,hj,rfl,t0,t1,t5,t6,hn2,hr⟩
 rw [List.length_map] at hj
 simp only [r_rFewN_l6]
 by_cases hlt:j < l.length
 ·have hlt':(j:Int) < (l.length:Int):=by omega
  by_cases hm:(n:Int)≤most
  ·obtain ⟨x,hx⟩:=get_lt hlt
   have hgj:=at_map (f:=Msg.a) hx
   simp only [Msg.a] at hgj
   have hw:=wrapS (j:=j) (by omega)
   obtain ⟨s1,s2,s3⟩:=hs x (List.mem_of_getElem? hx)
   have w1:IntKind.i64.wrap (1 + (x.key.size:Int)) = 1 + (x.key.size:Int):=IntWalk.i64_in _ (by omega)
   have w2:IntKind.i64.wrap (1 + (x.key.size:Int) + (x.hi.size:Int)) = 1 + (x.key.size:Int) + (x.hi.size:Int):=IntWalk.i64_in _ (by omega)
   have w3:IntKind.i64.wrap (1 + (x.key.size:Int) + (x.hi.size:Int) + (x.val.size:Int)) = 1 + (x.key.size:Int) + (x.hi.size:Int) + (x.val.size:Int):=IntWalk.i64_in _ (by omega)
   have w4:IntKind.i64.wrap ((n:Int) + (1 + (x.key.size:Int) + (x.hi.size:Int) + (x.val.size:Int))) = ((n + x.bulkN:Nat):Int):=by
    rw [IntWalk.i64_in _ (by omega)]; unfold Msg.bulkN; omega
   simp only [sumN_at hx] at hr
   simp (maxSteps:=9^7) only [go_sem,↓reduceIte,reduceCtorEq,Nat.reduceEqDiff,Nat.reduceBEq,Nat.reduceAdd,Nat.reduceSub,Nat.reduceMul,Nat.reduceLT,Nat.reduceLeDiff,Nat.reduceBNe,Int.reduceBEq,Int.reduceBNe,Int.reduceLT,Int.reduceLE,Msg.a,Par.a,Nd.a,t0,t1,t5,t6,hlt',hm,hgj,List.length_map,Int.toNat_natCast,w1,w2,w3,w4,hw]
   (repeat refine And.intro (by omega) ?_)
   refine ⟨l.length - (j + 1),by omega,j + 1,n + x.bulkN,by rw [List.length_map]; omega,by rw [List.length_map],?_,?_,?_,?_,by unfold Msg.bulkN; omega,?_⟩
   iterate 4 focus ((simp (maxSteps:=9^7) only [go_sem,↓reduceIte,reduceCtorEq,Nat.reduceEqDiff,Nat.reduceBEq,Nat.reduceAdd,Nat.reduceSub,Nat.reduceMul,Nat.reduceLT,Nat.reduceLeDiff,Nat.reduceBNe,Int.reduceBEq,Int.reduceBNe,Int.reduceLT,Int.reduceLE,Msg.a,Par.a,Nd.a,t0,t1,t5,t6]) <;> rfl)
   ·rw [← hr,Nat.add_assoc]
  ·simp (maxSteps:=9^7) only [go_sem,↓reduceIte,reduceCtorEq,Nat.reduceEqDiff,Nat.reduceBEq,Nat.reduceAdd,Nat.reduceSub,Nat.reduceMul,Nat.reduceLT,Nat.reduceLeDiff,Nat.reduceBNe,Int.reduceBEq,Int.reduceBNe,Int.reduceLT,Int.reduceLE,Msg.a,Par.a,Nd.a,t0,t1,t5,t6,hlt',hm,List.length_map]
   have:¬ ((n + sumN Msg.bulkN (l.drop j):Nat):Int)≤most:=by omega
   simp only [decide_eq_false this] at hr
   exact of_decide_eq_false hr.symm
 ·have hlt':¬ (j:Int) < (l.length:Int):=by omega
  simp (maxSteps:=9^7) only [go_sem,↓reduceIte,reduceCtorEq,Nat.reduceEqDiff,Nat.reduceBEq,Nat.reduceAdd,Nat.reduceSub,Nat.reduceMul,Nat.reduceLT,Nat.reduceLeDiff,Nat.reduceBNe,Int.reduceBEq,Int.reduceBNe,Int.reduceLT,Int.reduceLE,Msg.a,Par.a,Nd.a,t0,t1,t5,t6,hlt',List.length_map]
  rw [← hr]
  show decide (((n + sumN Msg.bulkN (l.drop j):Nat):Int)≤most) = _
  rw [List.drop_eq_nil_of_le (by omega)]
  exact decide_eq_decide.2 Iff.rfl
/-- with an early end -/
def sGo (most:Int):Nat->List ByteArray->Nat
 | n,[]=>n
 | n,x :: l=>if (n:Int)≤most then sGo most (n + strBulk x) l else n
theorem sGo_iff (most:Int):∀ (l:List ByteArray) (n:Nat),decide (most < (sGo most n l:Int)) = !decide (((n + sumN strBulk l:Nat):Int)≤most)
 | [],n=>by
  show decide (most < (n:Int)) = !decide (((n + 0:Nat):Int)≤most)
  by_cases h:(n:Int)≤most
  ·rw [decide_eq_false (by omega),decide_eq_true (by omega)]; rfl
  ·rw [decide_eq_true (by omega),decide_eq_false (by omega)]; rfl
 | x :: l,n=>by
  rw [sGo]
  by_cases h:(n:Int)≤most
  ·rw [if_pos h,sGo_iff most l (n + strBulk x),Nat.add_assoc]; rfl
  ·rw [if_neg h,decide_eq_true (by omega),decide_eq_false (by omega)]; rfl
def long1Inv (l:List ByteArray) (most:Int) (r:Nat) (k:Nat) (σ:St):Prop :=
 ∃ (j n:Nat),j≤l.length∧k = l.length - j∧σ.T 0 = .sl (l.map .str)∧σ.T 1 = .int .i64 most∧σ.T 5 = .int .i64 n∧σ.T 6 = .int .i64 j∧n≤900000000000000∧sGo most n (l.drop j) = r
theorem rLong1_ok (l:List ByteArray) (most:Int) (h1:0≤most) (h2:most≤1000000) (hs:∀ m,m ∈ l->m.size≤281474976710656) (hl:l.length≤281474976710656) :
  AFn Tryd.prog 19 [.sl (l.map .str),.int .i64 most] (.int .i64 (sGo most 0 l:Int)):=by
 refine fn_rLong1 rfl ?_
 simp (maxSteps:=9^7) only [go_sem,↓reduceIte,reduceCtorEq,Nat.reduceEqDiff,Nat.reduceBEq,Nat.reduceAdd,Nat.reduceSub,Nat.reduceMul,Nat.reduceLT,Nat.reduceLeDiff,Nat.reduceBNe,Int.reduceBEq,Int.reduceBNe,Int.reduceLT,Int.reduceLE,Msg.a,Par.a,Nd.a]
 refine run_loop (long1Inv l most (sGo most 0 l)) (k:=l.length) ⟨0,0,by omega,rfl,rfl,rfl,rfl,rfl,by omega,?_⟩ ?_
 ·rfl
 rintro k σ ⟨j,n,hj,rfl,t0,t1,t5,t6,hn2,hr⟩
 simp only [r_rLong1_l6]
 by_cases hlt:j < l.length
 ·have hlt':(j:Int) < (l.length:Int):=by omega
  obtain ⟨x,hx⟩:=get_lt hlt
  rw [drop_at hx,sGo] at hr
  by_cases hm:(n:Int)≤most
  ·have hgj:=at_map (f:=AV.str) hx
   have hw:=wrapS (j:=j) (by omega)
   have s1:=hs x (List.mem_of_getElem? hx)
   have w1:IntKind.i64.wrap ((x.size:Int) + 1) = (x.size:Int) + 1:=IntWalk.i64_in _ (by omega)
   have w4:IntKind.i64.wrap ((n:Int) + ((x.size:Int) + 1)) = ((n + strBulk x:Nat):Int):=by
    rw [IntWalk.i64_in _ (by omega)]; unfold strBulk; omega
   rw [if_pos hm] at hr
   simp (maxSteps:=9^7) only [go_sem,↓reduceIte,reduceCtorEq,Nat.reduceEqDiff,Nat.reduceBEq,Nat.reduceAdd,Nat.reduceSub,Nat.reduceMul,Nat.reduceLT,Nat.reduceLeDiff,Nat.reduceBNe,Int.reduceBEq,Int.reduceBNe,Int.reduceLT,Int.reduceLE,Msg.a,Par.a,Nd.a,t0,t1,t5,t6,hlt',hm,hgj,List.length_map,Int.toNat_natCast,w1,w4,hw]
   (repeat refine And.intro (by omega) ?_)
   refine ⟨l.length - (j + 1),by omega,j + 1,n + strBulk x,by omega,rfl,?_,?_,?_,?_,by unfold strBulk; omega,hr⟩ <;> (simp (maxSteps:=9^7) only [go_sem,↓reduceIte,reduceCtorEq,Nat.reduceEqDiff,Nat.reduceBEq,Nat.reduceAdd,Nat.reduceSub,Nat.reduceMul,Nat.reduceLT,Nat.reduceLeDiff,Nat.reduceBNe,Int.reduceBEq,Int.reduceBNe,Int.reduceLT,Int.reduceLE,Msg.a,Par.a,Nd.a,t0,t1,t5,t6])
  ·rw [if_neg hm] at hr
   simp (maxSteps:=9^7) only [go_sem,↓reduceIte,reduceCtorEq,Nat.reduceEqDiff,Nat.reduceBEq,Nat.reduceAdd,Nat.reduceSub,Nat.reduceMul,Nat.reduceLT,Nat.reduceLeDiff,Nat.reduceBNe,Int.reduceBEq,Int.reduceBNe,Int.reduceLT,Int.reduceLE,Msg.a,Par.a,Nd.a,t0,t1,t5,t6,hlt',hm,List.length_map,← hr]
 ·have hlt':¬ (j:Int) < (l.length:Int):=by omega
  rw [List.drop_eq_nil_of_le (by omega),sGo] at hr
  simp (maxSteps:=9^7) only [go_sem,↓reduceIte,reduceCtorEq,Nat.reduceEqDiff,Nat.reduceBEq,Nat.reduceAdd,Nat.reduceSub,Nat.reduceMul,Nat.reduceLT,Nat.reduceLeDiff,Nat.reduceBNe,Int.reduceBEq,Int.reduceBNe,Int.reduceLT,Int.reduceLE,Msg.a,Par.a,Nd.a,t0,t1,t5,t6,hlt',List.length_map,← hr]
/-! ### Light -/
def Nd.light (most:Int) (x:Nd):Bool:=decide ((sumN Par.bulk x.rows:Int)≤most) && decide ((sumN strBulk x.pivots:Int)≤most) && decide ((x.kids.length:Int)≤most) && decide ((sumN Msg.bulkN x.msgs:Int)≤most) && decide ((x.high.size:Int)≤most)
def lightB (l:List Nd) (n most:Int):Bool:=decide ((l.length:Int)≤n) && l.all (Nd.light most)
/-! ### percolate/percolateref17.Light -/
def r_light_0:Reg:=⟨[],[⟨.mv (.c (.bool false)),some 6,none,[],[]⟩],[],[],false⟩
def t_light_1:List ROp:=[⟨.mv (.t 0),some 8,none,[],[]⟩,⟨.len false (.t 8),some 9,none,[],[]⟩,⟨.mv (.t 1),some 10,none,[],[]⟩,⟨.bin .gtr (.t 9) (.t 10),some 11,none,[],[]⟩]
def r_light_1:Reg:=⟨[],t_light_1,[],[],false⟩
def r_light_2:Reg:=⟨[],[⟨.mv (.c (.bool false)),some 6,none,[],[]⟩],[],[],false⟩
def r_light_3:Reg:=⟨[],[⟨.mv (.c (.int .i64 0)),some 7,none,[],[]⟩],[],[],false⟩
def t_light_4:List ROp:=[⟨.mv (.t 7),some 12,none,[],[]⟩,⟨.mv (.t 0),some 13,none,[],[]⟩,⟨.len false (.t 13),some 14,none,[],[]⟩,⟨.bin .lss (.t 12) (.t 14),some 15,none,[],[]⟩]
def r_light_4:Reg:=⟨[],t_light_4,[],[],false⟩
def t_light_5:List ROp:=[⟨.mv (.t 0),some 18,none,[24,33,54],[]⟩,⟨.mv (.t 7),some 19,none,[24,33,54],[]⟩,⟨.iaddr 10 (.t 18) (.t 19),some 20,none,[24,33,54],[]⟩,⟨.faddr 9 (.t 20),some 21,none,[24,33,54],[]⟩,⟨.load 1 false (.t 21),some 22,none,[24,33,54],[]⟩,⟨.mv (.t 2),some 23,none,[24,33,54],[]⟩,⟨.callv (.c (.clo 18 [] [])) [(.t 22),(.t 23)],some 24,none,[33,54],[]⟩,⟨.un .not (.t 24),some 25,none,[33,54],[]⟩,⟨.mv (.t 25),some 26,none,[33,54],[]⟩,⟨.mv (.t 0),some 27,(some (26,false)),[33,54],[]⟩,⟨.mv (.t 7),some 28,(some (26,false)),[33,54],[]⟩,⟨.iaddr 10 (.t 27) (.t 28),some 29,(some (26,false)),[33,54],[]⟩,⟨.faddr 2 (.t 29),some 30,(some (26,false)),[33,54],[]⟩,⟨.load 1 false (.t 30),some 31,(some (26,false)),[33,54],[]⟩,⟨.mv (.t 2),some 32,(some (26,false)),[33,54],[]⟩,⟨.callv (.c (.clo 19 [] [])) [(.t 31),(.t 32)],some 33,(some (26,false)),[54],[]⟩,⟨.mv (.t 2),some 34,(some (26,false)),[54],[]⟩,⟨.bin .gtr (.t 33) (.t 34),some 35,(some (26,false)),[54],[]⟩,⟨.pick (.t 26) (.c (.bool true)) (.t 35),some 36,none,[54],[]⟩,⟨.mv (.t 36),some 37,none,[54],[]⟩,⟨.mv (.t 0),some 38,(some (37,false)),[54],[]⟩,⟨.mv (.t 7),some 39,(some (37,false)),[54],[]⟩,⟨.iaddr 10 (.t 38) (.t 39),some 40,(some (37,false)),[54],[]⟩,⟨.faddr 3 (.t 40),some 41,(some (37,false)),[54],[]⟩,⟨.load 1 false (.t 41),some 42,(some (37,false)),[54],[]⟩,⟨.len false (.t 42),some 43,(some (37,false)),[54],[]⟩,⟨.mv (.t 2),some 44,(some (37,false)),[54],[]⟩,⟨.bin .gtr (.t 43) (.t 44),some 45,(some (37,false)),[54],[]⟩,⟨.pick (.t 37) (.c (.bool true)) (.t 45),some 46,none,[54],[]⟩,⟨.mv (.t 46),some 47,none,[54],[]⟩,⟨.mv (.t 0),some 48,(some (47,false)),[54],[]⟩,⟨.mv (.t 7),some 49,(some (47,false)),[54],[]⟩,⟨.iaddr 10 (.t 48) (.t 49),some 50,(some (47,false)),[54],[]⟩,⟨.faddr 8 (.t 50),some 51,(some (47,false)),[54],[]⟩,⟨.load 1 false (.t 51),some 52,(some (47,false)),[54],[]⟩,⟨.mv (.t 2),some 53,(some (47,false)),[54],[]⟩,⟨.callv (.c (.clo 20 [] [])) [(.t 52),(.t 53)],some 54,(some (47,false)),[],[]⟩,⟨.un .not (.t 54),some 55,(some (47,false)),[],[]⟩,⟨.pick (.t 47) (.c (.bool true)) (.t 55),some 56,none,[],[]⟩,⟨.mv (.t 56),some 57,none,[],[]⟩,⟨.mv (.t 0),some 58,(some (57,false)),[],[]⟩,⟨.mv (.t 7),some 59,(some (57,false)),[],[]⟩,⟨.iaddr 10 (.t 58) (.t 59),some 60,(some (57,false)),[],[]⟩,⟨.faddr 4 (.t 60),some 61,(some (57,false)),[],[]⟩,⟨.load 1 false (.t 61),some 62,(some (57,false)),[],[]⟩,⟨.len true (.t 62),some 63,(some (57,false)),[],[]⟩,⟨.mv (.t 2),some 64,(some (57,false)),[],[]⟩,⟨.bin .gtr (.t 63) (.t 64),some 65,(some (57,false)),[],[]⟩,⟨.pick (.t 57) (.c (.bool true)) (.t 65),some 66,none,[],[]⟩]
def r_light_5:Reg:=⟨[],t_light_5,[24,33,54],[],false⟩
def r_light_6:Reg:=⟨[],[⟨.mv (.c (.bool false)),some 6,none,[],[]⟩],[],[],false⟩
def t_light_7:List ROp:=[⟨.mv (.t 7),some 16,none,[],[]⟩,⟨.bin .add (.t 16) (.c (.int .i64 1)),some 17,none,[],[]⟩,⟨.mv (.t 17),some 7,none,[],[]⟩]
def r_light_7:Reg:=⟨[],t_light_7,[],[],false⟩
def r_light_l8:IR:=(.seq (.seq (.reg r_light_4)
 (.cond (.t 15) .skip
 (.exit 0)))
 (.seq (.block 1 (.seq (.reg r_light_5)
 (.cond (.t 66) (.seq (.reg r_light_6)
 .ret)
 .skip)))
 (.reg r_light_7)))
def r_light_9:Reg:=⟨[],[⟨.mv (.c (.bool true)),some 6,none,[],[]⟩],[],[],false⟩
def ir_light:IR:=(.seq (.reg r_light_0)
 (.seq (.seq (.reg r_light_1)
 (.cond (.t 11) (.seq (.reg r_light_2)
 .ret)
 .skip))
 (.seq (.seq (.reg r_light_3)
 (.block 0 (.loop r_light_l8)))
 (.seq (.reg r_light_9)
 .ret))))
def res_light:List RDesc:=[(.tmp 6)]
theorem e_light_0:EqR r_light_0 [⟨.mv (.c (.bool false)),some 6,none,[],[]⟩] []:=fun _ _ _=>rfl
theorem e_light_1:EqR r_light_1 t_light_1 []:=fun _ _ _=>rfl
theorem e_light_2:EqR r_light_2 [⟨.mv (.c (.bool false)),some 6,none,[],[]⟩] []:=fun _ _ _=>rfl
theorem e_light_3:EqR r_light_3 [⟨.mv (.c (.int .i64 0)),some 7,none,[],[]⟩] []:=fun _ _ _=>rfl
theorem e_light_4:EqR r_light_4 t_light_4 []:=fun _ _ _=>rfl
theorem e_light_5:EqR r_light_5 t_light_5 [24,33,54]:=fun _ _ _=>rfl
theorem e_light_6:EqR r_light_6 [⟨.mv (.c (.bool false)),some 6,none,[],[]⟩] []:=fun _ _ _=>rfl
theorem e_light_7:EqR r_light_7 t_light_7 []:=fun _ _ _=>rfl
theorem e_light_9:EqR r_light_9 [⟨.mv (.c (.bool true)),some 6,none,[],[]⟩] []:=fun _ _ _=>rfl
theorem fn_light {args:List AV} {r:AV} (ha:args.length.ble Tryd.f5.ntmps = true) (h:run (AFn Tryd.prog) ir_light (endQ res_light r) (initSt args)):AFn Tryd.prog 5 args r :=
 AFn.of_code (pv:=false) (hint:=fun _=>[]) (c:=Tryd.f5.body.getD .skip) (by kernel_rfl) (by kernel_rfl) Tryd.func5 (by kernel_rfl) (by kernel_rfl) (by kernel_rfl) (of_decide_eq_true (by kernel_rfl)) (Nat.le_of_ble_eq_true ha) (Nat.le_of_ble_eq_true (by kernel_rfl)) (run_ok h)
attribute [local go_sem ↓] ir_light
attribute [local go_sem] res_light e_light_0 e_light_1 t_light_1 e_light_2 e_light_3 e_light_4 t_light_4 e_light_5 t_light_5 e_light_6 e_light_7 t_light_7 e_light_9
def lightInv (l:List Nd) (n most:Int) (r:Bool) (k:Nat) (σ:St):Prop :=
 ∃ j:Nat,j≤l.length∧k = l.length - j∧σ.T 0 = .sl (l.map Nd.a)∧σ.T 2 = .int .i64 most∧σ.T 7 = .int .i64 j∧(l.drop j).all (Nd.light most) = r
theorem light_ok (l:List Nd) (n most:Int) (h1:0≤most) (h2:most≤1000000) (hs:∀ x,x ∈ l->x.ok) (hl:l.length≤281474976710656) :
  AFn Tryd.prog 5 [.sl (l.map Nd.a),.int .i64 n,.int .i64 most] (.bool (lightB l n most)):=by
 refine fn_light rfl ?_
 unfold lightB
 by_cases hn:(l.length:Int)≤n
 case neg =>
  have hn':n < (l.length:Int):=by omega
  rw [decide_eq_false hn]
  simp (maxSteps:=9^7) only [go_sem,↓reduceIte,reduceCtorEq,Nat.reduceEqDiff,Nat.reduceBEq,Nat.reduceAdd,Nat.reduceSub,Nat.reduceMul,Nat.reduceLT,Nat.reduceLeDiff,Nat.reduceBNe,Int.reduceBEq,Int.reduceBNe,Int.reduceLT,Int.reduceLE,Msg.a,Par.a,Nd.a,hn',List.length_map,Bool.false_and]
 have hn':¬ n < (l.length:Int):=by omega
 rw [decide_eq_true hn]
 obtain ⟨R,hR⟩:∃ R,l.all (Nd.light most) = R:=⟨_,rfl⟩
 rw [hR]
 simp (maxSteps:=9^7) only [go_sem,↓reduceIte,reduceCtorEq,Nat.reduceEqDiff,Nat.reduceBEq,Nat.reduceAdd,Nat.reduceSub,Nat.reduceMul,Nat.reduceLT,Nat.reduceLeDiff,Nat.reduceBNe,Int.reduceBEq,Int.reduceBNe,Int.reduceLT,Int.reduceLE,Msg.a,Par.a,Nd.a,hn',List.length_map,Bool.true_and]
 refine run_loop (lightInv l n most R) (k:=l.length) ⟨0,by omega,rfl,rfl,rfl,rfl,hR⟩ ?_
 clear hR
 rintro k σ ⟨j,hj,rfl,t0,t2,t7,hr⟩
 simp only [r_light_l8]
 by_cases hlt:j < l.length
 ·have hlt':(j:Int) < (l.length:Int):=by omega
  obtain ⟨x,hx⟩:=get_lt hlt
  have hgj:=at_map (f:=Nd.a) hx
  simp only [Nd.a] at hgj
  have hw:=wrapS (j:=j) (by omega)
  have ok:=hs x (List.mem_of_getElem? hx)
  have c1:=rLong9_ok x.rows most h1 h2 (fun m hm=>⟨(ok.rows.2 m hm).key,(ok.rows.2 m hm).val⟩) ok.rows.1
  have c2:=rLong1_ok x.pivots most h1 h2 ok.pivots.2 ok.pivots.1
  have c3:=rFewN_ok x.msgs most h1 h2 (fun m hm=>⟨(ok.msgs.2 m hm).key,(ok.msgs.2 m hm).hi,(ok.msgs.2 m hm).val⟩) ok.msgs.1
  have e2:=sGo_iff most x.pivots 0
  rw [drop_at hx,List.all_cons] at hr
  unfold Nd.light at hr
  rw [Nat.zero_add] at e2
  have z0:IntKind.i64.wrap (j:Int) = (j:Int):=IntWalk.i64_in _ (by omega)
  cases q1:decide ((sumN Par.bulk x.rows:Int)≤most) with
  | false =>
   rw [q1] at c1 hr
   simp only [Bool.false_and] at hr
   (repeat (first | simp (maxSteps:=9^7) only [go_sem,↓reduceIte,reduceCtorEq,Nat.reduceEqDiff,Nat.reduceBEq,Nat.reduceAdd,Nat.reduceSub,Nat.reduceMul,Nat.reduceLT,Nat.reduceLeDiff,Nat.reduceBNe,Int.reduceBEq,Int.reduceBNe,Int.reduceLT,Int.reduceLE,Msg.a,Par.a,Nd.a,t0,t2,t7,hlt',hgj,List.length_map,Int.toNat_natCast,← hr] | refine calling (c1) ?_ | refine callingH (c1) ?_ | refine And.intro (by omega) ?_ | refine And.intro (fun d hd=>by (repeat (rcases hd with rfl | hd; · exact ⟨rfl,rfl⟩)); cases hd) ?_))
  | true =>
   rw [q1] at c1 hr
   cases q2:decide ((sumN strBulk x.pivots:Int)≤most) with
   | false =>
    rw [q2] at e2 hr
    have e3:=of_decide_eq_true e2
    simp only [Bool.false_and,Bool.and_false] at hr
    (repeat (first | simp (maxSteps:=9^7) only [go_sem,↓reduceIte,reduceCtorEq,Nat.reduceEqDiff,Nat.reduceBEq,Nat.reduceAdd,Nat.reduceSub,Nat.reduceMul,Nat.reduceLT,Nat.reduceLeDiff,Nat.reduceBNe,Int.reduceBEq,Int.reduceBNe,Int.reduceLT,Int.reduceLE,Msg.a,Par.a,Nd.a,t0,t2,t7,hlt',hgj,List.length_map,Int.toNat_natCast,e3,← hr] | refine calling (c1) ?_ | refine callingH (c1) ?_ | refine calling (c2) ?_ | refine callingH (c2) ?_ | refine And.intro (by omega) ?_ | refine And.intro (fun d hd=>by (repeat (rcases hd with rfl | hd; · exact ⟨rfl,rfl⟩)); cases hd) ?_))
   | true =>
    rw [q2] at e2 hr
    have e3:=of_decide_eq_false e2
    by_cases q3:(x.kids.length:Int)≤most
    case neg =>
     rw [decide_eq_false q3] at hr
     have q3':most < (x.kids.length:Int):=by omega
     simp only [Bool.false_and,Bool.and_false] at hr
     (repeat (first | simp (maxSteps:=9^7) only [go_sem,↓reduceIte,reduceCtorEq,Nat.reduceEqDiff,Nat.reduceBEq,Nat.reduceAdd,Nat.reduceSub,Nat.reduceMul,Nat.reduceLT,Nat.reduceLeDiff,Nat.reduceBNe,Int.reduceBEq,Int.reduceBNe,Int.reduceLT,Int.reduceLE,Msg.a,Par.a,Nd.a,t0,t2,t7,hlt',hgj,List.length_map,Int.toNat_natCast,e3,q3',← hr] | refine calling (c1) ?_ | refine callingH (c1) ?_ | refine calling (c2) ?_ | refine callingH (c2) ?_ | refine And.intro (by omega) ?_ | refine And.intro (fun d hd=>by (repeat (rcases hd with rfl | hd; · exact ⟨rfl,rfl⟩)); cases hd) ?_))
     all_goals omega
    rw [decide_eq_true q3] at hr
    have q3':¬ most < (x.kids.length:Int):=by omega
    cases q4:decide ((sumN Msg.bulkN x.msgs:Int)≤most) with
    | false =>
     rw [q4] at c3 hr
     simp only [Bool.false_and,Bool.and_false] at hr
     (repeat (first | simp (maxSteps:=9^7) only [go_sem,↓reduceIte,reduceCtorEq,Nat.reduceEqDiff,Nat.reduceBEq,Nat.reduceAdd,Nat.reduceSub,Nat.reduceMul,Nat.reduceLT,Nat.reduceLeDiff,Nat.reduceBNe,Int.reduceBEq,Int.reduceBNe,Int.reduceLT,Int.reduceLE,Msg.a,Par.a,Nd.a,t0,t2,t7,hlt',hgj,List.length_map,Int.toNat_natCast,e3,q3',← hr] | refine calling (c1) ?_ | refine callingH (c1) ?_ | refine calling (c2) ?_ | refine callingH (c2) ?_ | refine calling (c3) ?_ | refine callingH (c3) ?_ | refine And.intro (by omega) ?_ | refine And.intro (fun d hd=>by (repeat (rcases hd with rfl | hd; · exact ⟨rfl,rfl⟩)); cases hd) ?_))
    | true =>
     rw [q4] at c3 hr
     by_cases q5:(x.high.size:Int)≤most
     case neg =>
      rw [decide_eq_false q5] at hr
      have q5':most < (x.high.size:Int):=by omega
      simp only [Bool.false_and,Bool.and_false] at hr
      (repeat (first | simp (maxSteps:=9^7) only [go_sem,↓reduceIte,reduceCtorEq,Nat.reduceEqDiff,Nat.reduceBEq,Nat.reduceAdd,Nat.reduceSub,Nat.reduceMul,Nat.reduceLT,Nat.reduceLeDiff,Nat.reduceBNe,Int.reduceBEq,Int.reduceBNe,Int.reduceLT,Int.reduceLE,Msg.a,Par.a,Nd.a,t0,t2,t7,hlt',hgj,List.length_map,Int.toNat_natCast,e3,q3',q5',← hr] | refine calling (c1) ?_ | refine callingH (c1) ?_ | refine calling (c2) ?_ | refine callingH (c2) ?_ | refine calling (c3) ?_ | refine callingH (c3) ?_ | refine And.intro (by omega) ?_ | refine And.intro (fun d hd=>by (repeat (rcases hd with rfl | hd; · exact ⟨rfl,rfl⟩)); cases hd) ?_))
      all_goals omega
     rw [decide_eq_true q5] at hr
     have q5':¬ most < (x.high.size:Int):=by omega
     simp only [Bool.true_and,Bool.and_true] at hr
     (repeat (first | simp (maxSteps:=9^7) only [go_sem,↓reduceIte,reduceCtorEq,Nat.reduceEqDiff,Nat.reduceBEq,Nat.reduceAdd,Nat.reduceSub,Nat.reduceMul,Nat.reduceLT,Nat.reduceLeDiff,Nat.reduceBNe,Int.reduceBEq,Int.reduceBNe,Int.reduceLT,Int.reduceLE,Msg.a,Par.a,Nd.a,t0,t2,t7,hlt',hgj,List.length_map,Int.toNat_natCast,e3,q3',q5',hw] | refine calling (c1) ?_ | refine callingH (c1) ?_ | refine calling (c2) ?_ | refine callingH (c2) ?_ | refine calling (c3) ?_ | refine callingH (c3) ?_ | refine And.intro (by omega) ?_ | refine And.intro (fun d hd=>by (repeat (rcases hd with rfl | hd; · exact ⟨rfl,rfl⟩)); cases hd) ?_))
     refine ⟨l.length - (j + 1),by omega,j + 1,by omega,rfl,?_,?_,?_,hr⟩ <;> (simp (maxSteps:=9^7) only [go_sem,↓reduceIte,reduceCtorEq,Nat.reduceEqDiff,Nat.reduceBEq,Nat.reduceAdd,Nat.reduceSub,Nat.reduceMul,Nat.reduceLT,Nat.reduceLeDiff,Nat.reduceBNe,Int.reduceBEq,Int.reduceBNe,Int.reduceLT,Int.reduceLE,Msg.a,Par.a,Nd.a,t0,t2,t7,hw])
 ·have hlt':¬ (j:Int) < (l.length:Int):=by omega
  rw [List.drop_eq_nil_of_le (by omega)] at hr
  simp (maxSteps:=9^7) only [go_sem,↓reduceIte,reduceCtorEq,Nat.reduceEqDiff,Nat.reduceBEq,Nat.reduceAdd,Nat.reduceSub,Nat.reduceMul,Nat.reduceLT,Nat.reduceLeDiff,Nat.reduceBNe,Int.reduceBEq,Int.reduceBNe,Int.reduceLT,Int.reduceLE,Msg.a,Par.a,Nd.a,t0,t2,t7,hlt',List.length_map,← hr,List.all_nil]
end
section
/-
 The law ShapeLines: any node as a line.
-/
open Go.RowKit
attribute [local go_sem ↓] runOp headOp
/-! ### percolate/percolatelaw58.ShapeLines -/
def t_linesL_0:List ROp:=[⟨.box 10 27 (.t 0),some 3,none,[4],[]⟩,⟨.box 3 29 (.t 1),some 4,none,[],[]⟩,⟨.mv (.c (.bool false)),some 6,none,[],[]⟩]
def r_linesL_0:Reg:=⟨[],t_linesL_0,[3,4],[],false⟩
def t_linesL_1:List ROp:=[⟨.load 10 true (.t 3),some 7,none,[8,9,14],[]⟩,⟨.bsl 10 27 [(.t 7)],some 8,none,[9,14],[]⟩,⟨.callv (.c (.clo 5 [] [])) [(.t 8),(.c (.int .i64 1)),(.c (.int .i64 2000))],some 9,none,[14],[]⟩,⟨.un .not (.t 9),some 10,none,[14],[]⟩,⟨.mv (.t 10),some 11,none,[14],[]⟩,⟨.load 3 true (.t 4),some 12,(some (11,false)),[14],[]⟩,⟨.load 3 true (.t 4),some 13,(some (11,false)),[14],[]⟩,⟨.callv (.c (.clo 6 [] [])) [(.t 12),(.t 13),(.c (.str ⟨#[]⟩)),(.c (.int .i64 300))],some 14,(some (11,false)),[],[]⟩,⟨.un .not (.t 14),some 15,(some (11,false)),[],[]⟩,⟨.pick (.t 11) (.c (.bool true)) (.t 15),some 16,none,[],[]⟩]
def r_linesL_1:Reg:=⟨[],t_linesL_1,[8,9,14],[],false⟩
def r_linesL_2:Reg:=⟨[],[⟨.callv (.c (.clo 7 [] [])) [],some 17,none,[],[]⟩,⟨.mv (.t 17),some 6,none,[],[]⟩],[17],[],false⟩
def t_linesL_3:List ROp:=[⟨.callv (.c (.clo 9 [] [])) [(.t 22),(.t 23),(.t 24)],some 25,none,[28],[]⟩,⟨.bin .eql (.t 21) (.t 25),some 26,none,[28],[]⟩,⟨.mv (.t 26),some 27,none,[28],[]⟩,⟨.callv (.c (.clo 7 [] [])) [],some 28,(some (27,true)),[],[]⟩,⟨.pick (.t 27) (.t 28) (.c (.bool false)),some 29,none,[],[]⟩,⟨.mv (.t 29),some 6,none,[],[]⟩]
def h_linesL_3:List ROp:=[⟨.load 10 true (.t 3),some 18,none,[21,25,28],[]⟩,⟨.load 3 true (.t 4),some 19,none,[21,25,28],[]⟩,⟨.mv (.t 2),some 20,none,[21,25,28],[]⟩,⟨.callv (.c (.clo 8 [] [])) [(.t 18),(.t 19),(.t 20)],some 21,none,[25,28],[]⟩,⟨.load 10 true (.t 3),some 22,none,[21,25,28],[]⟩,⟨.load 3 true (.t 4),some 23,none,[21,25,28],[]⟩,⟨.mv (.t 2),some 24,none,[21,25,28],[]⟩]
def r_linesL_3:Reg:=⟨h_linesL_3,t_linesL_3,[21,25,28],[],true⟩
def ir_linesL:IR:=(.seq (.reg r_linesL_0)
 (.seq (.seq (.reg r_linesL_1)
 (.cond (.t 16) (.seq (.reg r_linesL_2)
 .ret)
 .skip))
 (.seq (.reg r_linesL_3)
 .ret)))
def res_linesL:List RDesc:=[(.tmp 6)]
theorem e_linesL_0:EqR r_linesL_0 t_linesL_0 [3,4]:=fun _ _ _=>rfl
theorem e_linesL_1:EqR r_linesL_1 t_linesL_1 [8,9,14]:=fun _ _ _=>rfl
theorem e_linesL_2:EqR r_linesL_2 [⟨.callv (.c (.clo 7 [] [])) [],some 17,none,[],[]⟩,⟨.mv (.t 17),some 6,none,[],[]⟩] [17]:=fun _ _ _=>rfl
theorem e_linesL_3 (C:FuncId->List AV->AV->Prop) (σ:St) (K:St->Prop):runReg C r_linesL_3 σ K = runHead C [] t_linesL_3 h_linesL_3 (σ.kills [21,25,28]) K:=rfl
theorem fn_linesL {args:List AV} {r:AV} (ha:args.length.ble Tryd.f3.ntmps = true) (h:run (AFn Tryd.prog) ir_linesL (endQ res_linesL r) (initSt args)):AFn Tryd.prog 3 args r :=
 AFn.of_code (pv:=false) (hint:=fun _=>[]) (c:=Tryd.f3.body.getD .skip) (by kernel_rfl) (by kernel_rfl) Tryd.func3 (by kernel_rfl) (by kernel_rfl) (by kernel_rfl) (of_decide_eq_true (by kernel_rfl)) (Nat.le_of_ble_eq_true ha) (Nat.le_of_ble_eq_true (by kernel_rfl)) (run_ok h)
/-! ### percolate/percolateref02.Short -/
def t_rShort_0:List ROp:=[⟨.box 3 29 (.t 0),some 4,none,[5],[]⟩,⟨.box 3 29 (.t 1),some 5,none,[],[]⟩,⟨.mv (.c (.bool false)),some 8,none,[],[]⟩]
def r_rShort_0:Reg:=⟨[],t_rShort_0,[4,5],[],false⟩
def t_rShort_1:List ROp:=[⟨.faddr 0 (.t 4),some 9,none,[],[]⟩,⟨.load 1 false (.t 9),some 10,none,[],[]⟩,⟨.len true (.t 10),some 11,none,[],[]⟩,⟨.faddr 1 (.t 4),some 12,none,[],[]⟩,⟨.load 1 false (.t 12),some 13,none,[],[]⟩,⟨.len true (.t 13),some 14,none,[],[]⟩,⟨.bin .add (.t 11) (.t 14),some 15,none,[],[]⟩,⟨.mv (.t 3),some 16,none,[],[]⟩,⟨.bin .leq (.t 15) (.t 16),some 17,none,[],[]⟩,⟨.mv (.t 17),some 18,none,[],[]⟩,⟨.faddr 0 (.t 5),some 19,(some (18,true)),[],[]⟩,⟨.load 1 false (.t 19),some 20,(some (18,true)),[],[]⟩,⟨.len true (.t 20),some 21,(some (18,true)),[],[]⟩,⟨.faddr 1 (.t 5),some 22,(some (18,true)),[],[]⟩,⟨.load 1 false (.t 22),some 23,(some (18,true)),[],[]⟩,⟨.len true (.t 23),some 24,(some (18,true)),[],[]⟩,⟨.bin .add (.t 21) (.t 24),some 25,(some (18,true)),[],[]⟩,⟨.mv (.t 3),some 26,(some (18,true)),[],[]⟩,⟨.bin .leq (.t 25) (.t 26),some 27,(some (18,true)),[],[]⟩,⟨.pick (.t 18) (.t 27) (.c (.bool false)),some 28,none,[],[]⟩,⟨.mv (.t 28),some 29,none,[],[]⟩,⟨.mv (.t 2),some 30,(some (29,true)),[],[]⟩,⟨.len true (.t 30),some 31,(some (29,true)),[],[]⟩,⟨.mv (.t 3),some 32,(some (29,true)),[],[]⟩,⟨.bin .leq (.t 31) (.t 32),some 33,(some (29,true)),[],[]⟩,⟨.pick (.t 29) (.t 33) (.c (.bool false)),some 34,none,[],[]⟩,⟨.mv (.t 34),some 8,none,[],[]⟩]
def r_rShort_1:Reg:=⟨[],t_rShort_1,[],[],false⟩
def ir_rShort:IR:=(.seq (.reg r_rShort_0)
 (.seq (.reg r_rShort_1)
 .ret))
def res_rShort:List RDesc:=[(.tmp 8)]
theorem e_rShort_0:EqR r_rShort_0 t_rShort_0 [4,5]:=fun _ _ _=>rfl
theorem e_rShort_1:EqR r_rShort_1 t_rShort_1 []:=fun _ _ _=>rfl
theorem fn_rShort {args:List AV} {r:AV} (ha:args.length.ble Tryd.f6.ntmps = true) (h:run (AFn Tryd.prog) ir_rShort (endQ res_rShort r) (initSt args)):AFn Tryd.prog 6 args r :=
 AFn.of_code (pv:=false) (hint:=fun _=>[]) (c:=Tryd.f6.body.getD .skip) (by kernel_rfl) (by kernel_rfl) Tryd.func6 (by kernel_rfl) (by kernel_rfl) (by kernel_rfl) (of_decide_eq_true (by kernel_rfl)) (Nat.le_of_ble_eq_true ha) (Nat.le_of_ble_eq_true (by kernel_rfl)) (run_ok h)
attribute [local go_sem ↓] ir_linesL
attribute [local go_sem] res_linesL e_linesL_0 t_linesL_0 e_linesL_1 t_linesL_1 e_linesL_2 e_linesL_3 t_linesL_3 h_linesL_3
attribute [local go_sem ↓] ir_rShort
attribute [local go_sem] res_rShort e_rShort_0 t_rShort_0 e_rShort_1 t_rShort_1
def shortB (s:Spn):Bool:=decide ((s.lo.size:Int) + (s.hi.size:Int)≤300)
theorem rShort_ok (s:Spn) (h1:s.lo.size≤281474976710656) (h2:s.hi.size≤281474976710656):AFn Tryd.prog 6 [s.a,s.a,.str (⟨#[]⟩:ByteArray),.int .i64 300] (.bool (shortB s)):=by
 refine fn_rShort rfl ?_
 obtain ⟨lo,hi,op⟩:=s
 unfold shortB
 simp only at h1 h2 ⊢
 have hw:IntKind.i64.wrap ((lo.size:Int) + (hi.size:Int)) = (lo.size:Int) + (hi.size:Int):=IntWalk.i64_in _ (by omega)
 have e0:(⟨#[]⟩:ByteArray).size = 0:=rfl
 by_cases h:(lo.size:Int) + (hi.size:Int)≤300
 ·simp (maxSteps:=9^7) only [go_sem,↓reduceIte,reduceCtorEq,Nat.reduceEqDiff,Nat.reduceBEq,Nat.reduceAdd,Nat.reduceSub,Nat.reduceMul,Nat.reduceLT,Nat.reduceLeDiff,Nat.reduceBNe,Int.reduceBEq,Int.reduceBNe,Int.reduceLT,Int.reduceLE,Nd.a,Spn.a,hw,h,e0]
  try rfl
 ·simp (maxSteps:=9^7) only [go_sem,↓reduceIte,reduceCtorEq,Nat.reduceEqDiff,Nat.reduceBEq,Nat.reduceAdd,Nat.reduceSub,Nat.reduceMul,Nat.reduceLT,Nat.reduceLeDiff,Nat.reduceBNe,Int.reduceBEq,Int.reduceBNe,Int.reduceLT,Int.reduceLE,Nd.a,Spn.a,hw,h,e0]
  try rfl
theorem thin_of {n:Nd} (ok:n.ok) (h:n.light 2000 = true):n.Thin:=by
 unfold Nd.light at h
 simp only [Bool.and_eq_true,decide_eq_true_eq] at h
 obtain ⟨⟨⟨⟨h1,h2⟩,h3⟩,h4⟩,h5⟩:=h
 have l1:=sumN_len (f:=Par.bulk) (fun x=>by unfold Par.bulk; omega) n.rows
 have l4:=sumN_len (f:=Msg.bulkN) (fun x=>by unfold Msg.bulkN; omega) n.msgs
 refine ⟨ok.slot,by omega,by omega,fun p hp=>?_,by omega⟩
 have:=sumN_mem (f:=Par.bulk) hp
 have e:p.bulk = 1 + p.key.size + p.val.size:=rfl
 omega
theorem linesL_law (n:Nd) (s:Spn) (d:Int) (on:n.ok) (h1:s.lo.size≤281474976710656) (h2:s.hi.size≤281474976710656):AFn Tryd.prog 3 [n.a,s.a,.int .i64 d] (.bool true):=by
 refine fn_linesL rfl ?_
 have c1:=light_ok [n] 1 2000 (by omega) (by omega) (fun x hx=>by rw [List.mem_singleton.1 hx]; exact on) (by simp)
 have c2:=rShort_ok s h1 h2
 have aw:=awake58_ok
 have e1:lightB [n] 1 2000 = n.light 2000:=by
  unfold lightB
  simp
 rw [e1] at c1
 simp only [Spn.a] at c2
 cases q1:n.light 2000 with
 | false =>
  rw [q1] at c1
  simp only [List.map_cons,List.map_nil] at c1
  (repeat (first | simp (maxSteps:=9^7) only [go_sem,↓reduceIte,reduceCtorEq,Nat.reduceEqDiff,Nat.reduceBEq,Nat.reduceAdd,Nat.reduceSub,Nat.reduceMul,Nat.reduceLT,Nat.reduceLeDiff,Nat.reduceBNe,Int.reduceBEq,Int.reduceBNe,Int.reduceLT,Int.reduceLE,Nd.a,Spn.a] | refine calling (c1) ?_ | refine callingH (c1) ?_ | refine calling (aw) ?_ | refine callingH (aw) ?_ | refine And.intro (by omega) ?_ | refine And.intro (fun d hd=>by (repeat (rcases hd with rfl | hd; · exact ⟨rfl,rfl⟩)); cases hd) ?_))
 | true =>
  rw [q1] at c1
  simp only [List.map_cons,List.map_nil] at c1
  cases q2:shortB s with
  | false =>
   rw [q2] at c2
   (repeat (first | simp (maxSteps:=9^7) only [go_sem,↓reduceIte,reduceCtorEq,Nat.reduceEqDiff,Nat.reduceBEq,Nat.reduceAdd,Nat.reduceSub,Nat.reduceMul,Nat.reduceLT,Nat.reduceLeDiff,Nat.reduceBNe,Int.reduceBEq,Int.reduceBNe,Int.reduceLT,Int.reduceLE,Nd.a,Spn.a] | refine calling (c1) ?_ | refine callingH (c1) ?_ | refine calling (c2) ?_ | refine callingH (c2) ?_ | refine calling (aw) ?_ | refine callingH (aw) ?_ | refine And.intro (by omega) ?_ | refine And.intro (fun d hd=>by (repeat (rcases hd with rfl | hd; · exact ⟨rfl,rfl⟩)); cases hd) ?_))
  | true =>
   rw [q2] at c2
   have f:=thin_of on q1
   unfold shortB at q2
   have q2:=of_decide_eq_true q2
   have k1:=shLine_ok n s d f (by omega) (by omega)
   have k2:=rShp_ok n s d f (by omega) (by omega)
   generalize n.shp s d = nl at *
   simp only [Spn.a] at k1 k2
   (repeat (first | simp (maxSteps:=9^7) only [go_sem,↓reduceIte,reduceCtorEq,Nat.reduceEqDiff,Nat.reduceBEq,Nat.reduceAdd,Nat.reduceSub,Nat.reduceMul,Nat.reduceLT,Nat.reduceLeDiff,Nat.reduceBNe,Int.reduceBEq,Int.reduceBNe,Int.reduceLT,Int.reduceLE,Nd.a,Spn.a,beq_self_eq_true] | refine calling (c1) ?_ | refine callingH (c1) ?_ | refine calling (c2) ?_ | refine callingH (c2) ?_ | refine calling (k1) ?_ | refine callingH (k1) ?_ | refine calling (k2) ?_ | refine callingH (k2) ?_ | refine calling (aw) ?_ | refine callingH (aw) ?_ | refine And.intro (by omega) ?_ | refine And.intro (fun d hd=>by (repeat (rcases hd with rfl | hd; · exact ⟨rfl,rfl⟩)); cases hd) ?_))
def SpnT:Ty:=.st [.str,.str,.bool]
theorem Spn.of {c:List AV} (h:TypedC SpnT c):∃ x:Spn,AV.agg c = x.a∧x.lo.size≤281474976710656∧x.hi.size≤281474976710656:=by
 obtain ⟨c0,r0,rfl,h0,h⟩:=st_cons h
 obtain ⟨c1,r1,rfl,h1,h⟩:=st_cons h
 obtain ⟨c2,r2,rfl,h2,h⟩:=st_cons h
 obtain rfl:=st_nil h
 obtain ⟨v0,rfl,b0⟩:=str_inv h0
 obtain ⟨v1,rfl,b1⟩:=str_inv h1
 obtain ⟨v2,rfl⟩:=bool_inv h2
 exact ⟨⟨v0,v1,v2⟩,rfl,b0,b1⟩
theorem reads_agg8 {w:World} {fs:List Ty} {c:Array Value} {ds:List AV} (h:ReadsAs w (.st fs) c.toList ds):VR (fun b _=>b < w.heap.size) w (.agg ds) (.agg c):=by
 have:=VR.agg (Pr:=fun b _=>b < w.heap.size) (w:=w) ds c.toList h.2.1 h.2.2
 simpa using this
theorem linesL_walk (c0 c1:Array Value) (d:Int) (w:World) (hG:Glob w) (f0:∃ ds,ReadsAs w NdT c0.toList ds) (f1:∃ ds,ReadsAs w SpnT c1.toList ds) (_:-9223372036854775808≤d∧d≤9223372036854775807) :
  Calls Tryd.prog 3 #[.agg c0,.agg c1,.int .i64 d] w fun e w'=>e = .returned (.bool true)∧Below w.heap.size w w':=by
 obtain ⟨d0,r0⟩:=f0
 obtain ⟨d1,r1⟩:=f1
 obtain ⟨n,e0,on⟩:=Nd.of r0.1
 obtain ⟨s,e1,h1,h2⟩:=Spn.of r1.1
 have v0:=reads_agg8 r0
 have v1:=reads_agg8 r1
 rw [e0] at v0
 rw [e1] at v1
 refine run_args (vs:=[.agg c0,.agg c1,.int .i64 d]) hG rfl (fun j d u hj hu=>?_) (linesL_law n s d on h1 h2)
 match j with
 | 0=>cases hj; cases hu; exact v0
 | 1=>cases hj; cases hu; exact v1
 | 2=>cases hj; cases hu; exact .int _ _
 | j + 3=>simp at hj
end
section
/-
 'Rows.ShapeLinesSaid' is proved: the law percolatelaw58.ShapeLines returns true at every input,and its arguments read as they did. No condition.
-/
namespace shapeLines
open Go.ChangeShapes Go.WideShapes Go.ChangeAt Go.RowKit
open Go.ChangeMaps (open_string shut_string)
set_option maxRecDepth 100000 in
theorem lifted (os:Os) (started:os.Started) (H:Type) (enc:TypeId × Value->H) :
  ReturnsInHanded {} Tryd.checked os 3 .any (fun w args=>(Rows.shapeLinesSpec.pre enc Tryd.prog Tryd.f3 [] false w args∧laidMetH Tryd.prog Rows.shapeLinesRow.laid w)∧sizedMet enc Tryd.prog Tryd.f3 (OpenSpec.ofChange Rows.shapeLinesSpec) false w args) (Rows.shapeLinesSpec.post enc Tryd.prog Tryd.f3 false true false false):=by
 refine returnsInHanded_of_row (C:=Tryd.checked) (s:=OpenSpec.ofChange Rows.shapeLinesSpec) (F:=fun _ _ _=>0) ownK started (by kernel_rfl) Tryd.func3
  (ChangeSpec.witness_shaped (enc:=enc) (C:=Tryd.checked) (os:=os) (X:=fun w _=>laidMetH Tryd.prog Rows.shapeLinesRow.laid w) false (World.laidAll Tryd.prog os Rows.shapeLinesRow.laid) #[.agg #[.int .i64 0,.int .i64 0,.slice none 0 0,.slice none 0 0,.string .empty,.bool false,.int .i64 0,.int .i64 0,.slice none 0 0,.slice none 0 0],.agg #[.string .empty,.string .empty,.bool false],.int .i64 0] 8 (World.laidAll_os _ _ _)
   (World.shaped_of_ZipB (by kernel_rfl) (by kernel_rfl)) (by kernel_rfl) (by kernel_rfl) (by kernel_rfl)
   (by rw [MakeChecks.laidMetH_plain _ _ _ (by kernel_rfl)]; exact laidMet_laidAll _ (by kernel_rfl) (by kernel_rfl))) ?_
 intro W base args ds gs before hval0 hW hcnd hk hsz hL hsh _
 have hval:∀ (j:Nat) t v,Tryd.f3.params[j]? = some t->args[j]? = some v->Value.okWide Tryd.prog W .any base t v:=hval0
 have hW':=hW
 obtain ⟨p,q,hA0,hV,rfl,hfz,hnd⟩:=hW
 have hA:DataW.TrodAll enc Tryd.prog W 0 (fun _=>true) true Tryd.f3.params.toList args.toList ds p:=hA0
 rw [Tryd.params3] at hA hval
 obtain ⟨v0,vs0,d0,ds0,p0,q0,hargs,rfl,rfl,h0,r0⟩:=trodAll_cons hA
 obtain ⟨v1,vs1,d1,ds1,p1,q1,rfl,rfl,rfl,h1,r1⟩:=trodAll_cons r0
 obtain ⟨v2,vs2,d2,ds2,p2,q2,rfl,rfl,rfl,h2,r2⟩:=trodAll_cons r1
 obtain ⟨rfl,rfl,rfl⟩:=trodAll_nil r2
 obtain rfl:args = #[v0,v1,v2]:=by cases args; simp_all
 obtain ⟨rfl,rfl⟩:=trodVars_none hV
 have hw0:(d0.weights Tryd.prog 27).all (·≤reachBytes) = true:=weightsEach_mem hsz 0 27 d0 rfl rfl
 obtain ⟨c0,rfl,hc0⟩:=okWide_struct Tryd.underlying27 (hval 0 27 v0 rfl rfl)
 obtain ⟨fu0,ht0⟩:=h0
 have f0:∃ ds,ReadsAs W (NdT) c0.toList ds:=typed_in 8 (x:=(d0,p0)) (by kernel_rfl) hw0 ht0
 have hw1:(d1.weights Tryd.prog 29).all (·≤reachBytes) = true:=weightsEach_mem hsz 1 29 d1 rfl rfl
 obtain ⟨c1,rfl,hc1⟩:=okWide_struct Tryd.underlying29 (hval 1 29 v1 rfl rfl)
 obtain ⟨fu1,ht1⟩:=h1
 have f1:∃ ds,ReadsAs W (SpnT) c1.toList ds:=typed_in 8 (x:=(d1,p1)) (by kernel_rfl) hw1 ht1
 obtain ⟨a2,rfl,hd2,hp2,w2⟩:=open_int Tryd.underlying3 (hval 2 3 v2 rfl rfl) h2
 have f2:=bounds_i64 w2
 have hL':=hL
 rw [MakeChecks.laidMetH_plain _ _ _ (by kernel_rfl)] at hL'
 have hL3:laidMet Tryd.prog (("internal/strconv.uint64pow10",Rows.laid_internal_strconv_uint64pow10) :: []) W:=(laidMet.tail (laidMet.tail hL'))
 rw [show (Rows.laid_internal_strconv_uint64pow10:DataW Unit) = Lib.tabData .u64 Lib.pow10Tab by kernel_rfl] at hL3
 have htab:PowTab W:=Lib.tabIs_of_head (g:=1) (t:=136) (e:=109) (n:=20) (by kernel_rfl) (by kernel_rfl) Tryd.underlying136 Tryd.underlying109 (by kernel_rfl) (by kernel_rfl) hL3
 refine (linesL_walk c0 c1 a2 W (Glob.start hsh htab) f0 f1 f2).mono fun e W' ⟨he,hb⟩=>?_
 subst he
 exact ⟨_,rfl,post_law laidOut hW' rfl rfl rfl rfl rfl Tryd.underlying4 (by intro t ht; rw [Tryd.params3] at ht; simp only [List.mem_cons,List.not_mem_nil,or_false] at ht; rcases ht with rfl | rfl | rfl <;> exact ⟨by kernel_rfl,of_decide_eq_true (by kernel_rfl)⟩) hb⟩
theorem holds:Rows.ShapeLinesSaid :=
 OpenClaim.holds_of_wide 3 Tryd.f3 rfl rfl rfl rfl rfl rfl rfl ⟨rfl,rfl,rfl,rfl,rfl⟩ rfl rfl rfl rfl rfl (by kernel_rfl) Tryd.func3 (by kernel_rfl)
  (of_decide_eq_true (by kernel_rfl)) (by unfold Func.isWrapper; first | (rw [if_pos (by decide +kernel)]; kernel_rfl) | (rw [if_neg (by decide +kernel)]; exact ⟨rfl,rfl⟩))
  (fun os started H enc _=>lifted os started H enc)
theorem proved:Rows.ShapeLinesCardSaid :=
 Claim7.holds_tied_plain_at .later [] [.data,.data,.data] true (true, "65174b724838637a4395bffcbce5ba363d23968bee96d6c48148cbfbc31af104") false holds (fun _ h=>by cases h) (by kernel_rfl) (fun _ h=>by cases h) shapeLines_row_tie rfl ⟨rfl,rfl⟩ (by kernel_rfl) rfl
  (fun f fn hf hfn=>by
   obtain rfl:f = 3:=Option.some.inj ((show Tryd.prog.funcNamed "percolate/percolatelaw58.ShapeLines" = some 3 by kernel_rfl).symm.trans hf) |>.symm
   obtain rfl:fn = Tryd.f3:=(Option.some.inj (Tryd.func3.symm.trans hfn)).symm
   exact ⟨by kernel_rfl,fun j t ht=>by
    rw [Tryd.params3] at ht
    have hm:t ∈ [27,29,3]:=by simpa using Array.mem_of_getElem? ht
    have hall:([27,29,3].all fun u=>!Tryd.prog.wantsStandIn u) = true:=by kernel_rfl
    exact (show Tryd.prog.wantsStandIn t = false by simpa using List.all_eq_true.1 hall t hm)⟩)
  (by kernel_rfl)
end shapeLines
end
end Go.Proofs.YtkfciapeikkmfaaDoor
