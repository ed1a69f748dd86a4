/-
  'Rows.GaugeLinesSaid' is proved: the law percolatelaw50.GaugeLines returns true at every input, and its arguments read as they did. No condition.
-/
import Derived.SizedLaws
import Derived.Test.YtelmejaiapdgnaaDoorCards
import Derived.Test.YtelmejaiapdgnaaDoorTie
import Derived.Deep.DeepHandedRow
import Derived.LaidLaws
import Derived.Lay
import Derived.SevenTiedAt
import Derived.Test.YtelmejaiapdgnaaDoorGL14
namespace Go.Proofs.YtelmejaiapdgnaaDoor
attribute [local go_sem] ev0 ev1 ev2 ev3 ev4 evA stHOk.eq_1 stHOk.eq_2 stHSt.eq_1 stHSt.eq_2 okV valV fzV okF valF okBld valBld mxOk.eq_1 mxOk.eq_2 mxVal.eq_1 mxVal.eq_2 cellFit.eq_1 cellFit.eq_2 cellFit.eq_3 cellEq.eq_1 cellEq.eq_2 cellEq.eq_3 upd_at AV.flatB AV.flatBs binIok binIV binSok binSV cellsOk.eq_1 cellsOk.eq_2 cellsVal.eq_1 cellsVal.eq_2 objCells.eq_1 objCells.eq_2 objZ.eq_1 objZ.eq_2 objProt.eq_1 objProt.eq_2 oneObj ptrOk.eq_1 ptrOk.eq_2 ptrOk.eq_3 ptrCells.eq_1 ptrCells.eq_2 ptrCells.eq_3 lenOk.eq_1 lenOk.eq_2 lenOk.eq_3 lenOk.eq_4 lenVal.eq_1 lenVal.eq_2 lenVal.eq_3 lenVal.eq_4 faOk.eq_1 faOk.eq_2 faOk.eq_3 faVal.eq_1 faVal.eq_2 faVal.eq_3 iaOk.eq_1 iaOk.eq_2 iaOk.eq_3 iaVal.eq_1 iaVal.eq_2 iaVal.eq_3 slcLen.eq_1 slcLen.eq_2 slcLen.eq_3 slcLen.eq_4 bdOk.eq_1 bdOk.eq_2 bdVal.eq_1 bdVal.eq_2 slcOk.eq_1 slcOk.eq_2 slcOk.eq_3 slcOk.eq_4 slcVal.eq_1 slcVal.eq_2 slcVal.eq_3 slcVal.eq_4 slcFz.eq_1 slcFz.eq_2 loK.eq_1 loK.eq_2 loK.eq_3 rsVal.eq_1 rsVal.eq_2 rsVal.eq_3 byOk.eq_1 byOk.eq_2 byOk.eq_3 byOk.eq_4 byOk.eq_5 byOk.eq_6 byOk.eq_7 byOk.eq_8 byVal.eq_1 byVal.eq_2 byVal.eq_3 byFz.eq_1 byFz.eq_2 byFz.eq_3 byOks byVals byFzs allOne resSt.eq_1 resSt.eq_2 resName.eq_1 resName.eq_2 stOk.eq_1 stOk.eq_2 stArr.eq_1 stArr.eq_2 stSt.eq_1 stSt.eq_2 AV.patch nameOk_none gB.eq_1 gB.eq_2 gB.eq_3 gIs.eq_1 gIs.eq_2 gIs.eq_3 retV resV resVs evalV cellsV St.byval List.getD_cons_zero List.getD_cons_succ List.getD_nil List.map_cons List.map_nil List.length_cons List.length_nil List.take_succ_cons List.take_zero List.drop_succ_cons List.drop_zero List.headD_cons List.set_cons_zero List.append_nil List.nil_append List.cons_append List.contains_cons List.contains_nil List.elem_cons List.elem_nil List.all_cons List.all_nil List.getElem?_cons_zero List.getElem?_cons_succ List.filterMap_cons List.filterMap_nil Option.isSome_some Option.isSome_none Option.map_some Option.map_none Option.some.injEq AV.int.injEq AV.bool.injEq AV.str.injEq AV.tup.injEq AV.agg.injEq AV.sl.injEq List.cons.injEq Bool.false_eq_true Bool.true_eq_false Bool.not_true Bool.not_false Bool.and_true Bool.true_and Bool.or_false Bool.or_true Bool.false_or Bool.true_or Bool.or_self Bool.and_self Bool.not_eq_true' Bool.not_eq_false' Bool.not_not beq_self_eq_true true_and and_true false_and and_false and_self not_true_eq_false not_false_eq_true forall_const true_implies false_implies implies_true imp_self Nat.lt_add_one Nat.le_refl Nat.zero_le Nat.add_zero Nat.zero_add decide_true decide_false decide_eq_true_eq decide_eq_false_iff_not exists_eq_left exists_eq_left' ge_iff_le gt_iff_lt ite_branch ite_branch' nilOk.eq_1 nilOk.eq_2 nilMay.eq_1 nilMay.eq_2 AV.isSl.eq_1 objTy'.eq_1 objTy'.eq_2 apSt.eq_1 apArr.eq_1 apArr.eq_2 apTwo.eq_1 apTwo.eq_2 apSt2.eq_1 apArr2.eq_1 apArr2.eq_2 slOf.eq_1 fitsV List.mem_cons List.not_mem_nil Bool.false_and Bool.and_false primOk.eq_1 primOk.eq_2 primOk.eq_3 primOk.eq_4 primOk.eq_5 primVal.eq_1 primVal.eq_2 primVal.eq_3 primVal.eq_4 primVal.eq_5 mOk.eq_1 mOk.eq_2 mVal.eq_1 mVal.eq_2 mFz.eq_1 mFz.eq_2 mOks mVals mFzs mCalOk.eq_1 mCalOk.eq_2 mFn.eq_1 mFn.eq_2 mArgs.eq_1 mArgs.eq_2 ckOk.eq_1 ckOk.eq_2 cloOk.eq_1 ptrAt.eq_1 sh.eq_1 sh.eq_2 sh.eq_3 sh.eq_4 sh.eq_5 sh.eq_6 retM shH_small evM entOk.eq_1 entOk.eq_2 ents.eq_1 ents.eq_2 kI.eq_1 mpOk.eq_1 mpR.eq_1 lkV.eq_1 lkV.eq_2 remp.eq_2 evP pvOk.eq_1 pvOk.eq_2 pvVal.eq_1 pvVal.eq_2 plOk.eq_1 plOk.eq_2 plOk.eq_3 plV.eq_1 plV.eq_2 plF.eq_1 plF.eq_2 plVal.eq_1 plVal.eq_2 plFz.eq_1 plFz.eq_2 lpOk.eq_1 lpOk.eq_2 lpVal.eq_1 lpVal.eq_2 lpFz.eq_1 lpFz.eq_2 stpOk.eq_1 stpOk.eq_2 stpSt.eq_1 stpSt.eq_2 stpArr.eq_1 keepS.eq_1 keepS.eq_2
section
/-
  A gauge as a line, by the document: walked; and that these are one line.
-/
open Go.RowKit
set_option linter.unusedVariables false
set_option linter.unusedSimpArgs false
set_option maxRecDepth 100000
attribute [local go_sem ↓] runOp headOp
/-! ### percolate/percolateref50.Line -/
def r_rLn_0 : Reg := ⟨[], [⟨(.box 9 37 (.t 0)), (some 1), none, [], []⟩, ⟨(.mv (.c (.str ⟨#[]⟩))), (some 2), none, [], []⟩], [1], [], false⟩
def h_rLn_1 : List ROp := [⟨(.faddr 0 (.t 1)), (some 5), none, [7, 12, 17, 22, 27, 32, 37], []⟩, ⟨(.load 1 false (.t 5)), (some 6), none, [7, 12, 17, 22, 27, 32, 37], []⟩, ⟨(.callv (.c (.clo 26 [] [])) [(.t 6)]), (some 7), none, [12, 17, 22, 27, 32, 37], []⟩, ⟨(.bin .add (.c (.str ⟨#[110, 111, 100, 101, 115, 32]⟩)) (.t 7)), (some 8), none, [12, 17, 22, 27, 32, 37], []⟩, ⟨(.bin .add (.t 8) (.c (.str ⟨#[32, 108, 101, 97, 118, 101, 115, 32]⟩))), (some 9), none, [12, 17, 22, 27, 32, 37], []⟩, ⟨(.faddr 1 (.t 1)), (some 10), none, [7, 12, 17, 22, 27, 32, 37], []⟩, ⟨(.load 1 false (.t 10)), (some 11), none, [7, 12, 17, 22, 27, 32, 37], []⟩, ⟨(.callv (.c (.clo 26 [] [])) [(.t 11)]), (some 12), none, [17, 22, 27, 32, 37], []⟩, ⟨(.bin .add (.t 9) (.t 12)), (some 13), none, [17, 22, 27, 32, 37], []⟩, ⟨(.bin .add (.t 13) (.c (.str ⟨#[32, 104, 101, 105, 103, 104, 116, 32]⟩))), (some 14), none, [17, 22, 27, 32, 37], []⟩, ⟨(.faddr 2 (.t 1)), (some 15), none, [7, 12, 17, 22, 27, 32, 37], []⟩, ⟨(.load 1 false (.t 15)), (some 16), none, [7, 12, 17, 22, 27, 32, 37], []⟩, ⟨(.callv (.c (.clo 26 [] [])) [(.t 16)]), (some 17), none, [22, 27, 32, 37], []⟩, ⟨(.bin .add (.t 14) (.t 17)), (some 18), none, [22, 27, 32, 37], []⟩, ⟨(.bin .add (.t 18) (.c (.str ⟨#[32, 114, 111, 119, 115, 32]⟩))), (some 19), none, [22, 27, 32, 37], []⟩, ⟨(.faddr 3 (.t 1)), (some 20), none, [7, 12, 17, 22, 27, 32, 37], []⟩, ⟨(.load 1 false (.t 20)), (some 21), none, [7, 12, 17, 22, 27, 32, 37], []⟩, ⟨(.callv (.c (.clo 26 [] [])) [(.t 21)]), (some 22), none, [27, 32, 37], []⟩, ⟨(.bin .add (.t 19) (.t 22)), (some 23), none, [27, 32, 37], []⟩, ⟨(.bin .add (.t 23) (.c (.str ⟨#[32, 109, 115, 103, 115, 32]⟩))), (some 24), none, [27, 32, 37], []⟩, ⟨(.faddr 4 (.t 1)), (some 25), none, [7, 12, 17, 22, 27, 32, 37], []⟩, ⟨(.load 1 false (.t 25)), (some 26), none, [7, 12, 17, 22, 27, 32, 37], []⟩, ⟨(.callv (.c (.clo 26 [] [])) [(.t 26)]), (some 27), none, [32, 37], []⟩, ⟨(.bin .add (.t 24) (.t 27)), (some 28), none, [32, 37], []⟩, ⟨(.bin .add (.t 28) (.c (.str ⟨#[32, 98, 121, 116, 101, 115, 32]⟩))), (some 29), none, [32, 37], []⟩, ⟨(.faddr 5 (.t 1)), (some 30), none, [7, 12, 17, 22, 27, 32, 37], []⟩, ⟨(.load 1 false (.t 30)), (some 31), none, [7, 12, 17, 22, 27, 32, 37], []⟩, ⟨(.callv (.c (.clo 26 [] [])) [(.t 31)]), (some 32), none, [37], []⟩, ⟨(.bin .add (.t 29) (.t 32)), (some 33), none, [37], []⟩, ⟨(.bin .add (.t 33) (.c (.str ⟨#[32, 101, 109, 112, 116, 121, 32]⟩))), (some 34), none, [37], []⟩, ⟨(.faddr 6 (.t 1)), (some 35), none, [7, 12, 17, 22, 27, 32, 37], []⟩, ⟨(.load 1 false (.t 35)), (some 36), none, [7, 12, 17, 22, 27, 32, 37], []⟩, ⟨(.callv (.c (.clo 26 [] [])) [(.t 36)]), (some 37), none, [], []⟩]
def r_rLn_1 : Reg := ⟨h_rLn_1, [⟨(.bin .add (.t 34) (.t 37)), (some 38), none, [], []⟩, ⟨(.mv (.t 38)), (some 3), none, [], []⟩], [7, 12, 17, 22, 27, 32, 37], [], true⟩
def r_rLn_2 : Reg := ⟨[], [⟨(.mv (.c (.int .i64 0))), (some 4), none, [], []⟩], [], [], false⟩
def t_rLn_3 : List ROp := [⟨(.mv (.t 4)), (some 39), none, [], []⟩, ⟨(.faddr 7 (.t 1)), (some 40), none, [], []⟩, ⟨(.load 1 false (.t 40)), (some 41), none, [], []⟩, ⟨(.len false (.t 41)), (some 42), none, [], []⟩, ⟨(.bin .lss (.t 39) (.t 42)), (some 43), none, [], []⟩]
def r_rLn_3 : Reg := ⟨[], t_rLn_3, [], [], false⟩
def t_rLn_4 : List ROp := [⟨(.mv (.t 3)), (some 46), none, [52], []⟩, ⟨(.faddr 7 (.t 1)), (some 47), none, [52], []⟩, ⟨(.load 1 false (.t 47)), (some 48), none, [52], []⟩, ⟨(.mv (.t 4)), (some 49), none, [52], []⟩, ⟨(.iaddr 1 (.t 48) (.t 49)), (some 50), none, [52], []⟩, ⟨(.load 1 false (.t 50)), (some 51), none, [52], []⟩, ⟨(.callv (.c (.clo 26 [] [])) [(.t 51)]), (some 52), none, [], []⟩, ⟨(.bin .add (.c (.str ⟨#[32, 108, 101, 118, 101, 108, 32]⟩)) (.t 52)), (some 53), none, [], []⟩, ⟨(.bin .add (.t 53) (.c (.str ⟨#[32]⟩))), (some 54), none, [], []⟩, ⟨(.bin .add (.t 46) (.t 54)), (some 55), none, [], []⟩, ⟨(.mv (.t 55)), (some 3), none, [], []⟩]
def r_rLn_4 : Reg := ⟨[], t_rLn_4, [52], [], false⟩
def t_rLn_5 : List ROp := [⟨(.mv (.t 4)), (some 56), none, [], []⟩, ⟨(.faddr 8 (.t 1)), (some 57), none, [], []⟩, ⟨(.load 1 false (.t 57)), (some 58), none, [], []⟩, ⟨(.len false (.t 58)), (some 59), none, [], []⟩, ⟨(.bin .lss (.t 56) (.t 59)), (some 60), none, [], []⟩]
def r_rLn_5 : Reg := ⟨[], t_rLn_5, [], [], false⟩
def t_rLn_6 : List ROp := [⟨(.mv (.t 3)), (some 61), none, [67], []⟩, ⟨(.faddr 8 (.t 1)), (some 62), none, [67], []⟩, ⟨(.load 1 false (.t 62)), (some 63), none, [67], []⟩, ⟨(.mv (.t 4)), (some 64), none, [67], []⟩, ⟨(.iaddr 1 (.t 63) (.t 64)), (some 65), none, [67], []⟩, ⟨(.load 1 false (.t 65)), (some 66), none, [67], []⟩, ⟨(.callv (.c (.clo 26 [] [])) [(.t 66)]), (some 67), none, [], []⟩, ⟨(.bin .add (.t 61) (.t 67)), (some 68), none, [], []⟩, ⟨(.mv (.t 68)), (some 3), none, [], []⟩]
def r_rLn_6 : Reg := ⟨[], t_rLn_6, [67], [], false⟩
def t_rLn_7 : List ROp := [⟨(.mv (.t 3)), (some 69), none, [], []⟩, ⟨(.bin .add (.t 69) (.c (.str ⟨#[48]⟩))), (some 70), none, [], []⟩, ⟨(.mv (.t 70)), (some 3), none, [], []⟩]
def r_rLn_7 : Reg := ⟨[], t_rLn_7, [], [], false⟩
def t_rLn_8 : List ROp := [⟨(.mv (.t 4)), (some 44), none, [], []⟩, ⟨(.bin .add (.t 44) (.c (.int .i64 1))), (some 45), none, [], []⟩, ⟨(.mv (.t 45)), (some 4), none, [], []⟩]
def r_rLn_8 : Reg := ⟨[], t_rLn_8, [], [], false⟩
def r_rLn_l9 : IR := (.seq (.seq (.reg r_rLn_3)
  (.cond (.t 43) .skip
  (.exit 0)))
  (.seq (.block 1 (.seq (.reg r_rLn_4)
  (.seq (.reg r_rLn_5)
  (.cond (.t 60) (.reg r_rLn_6)
  (.reg r_rLn_7)))))
  (.reg r_rLn_8)))
def r_rLn_10 : Reg := ⟨[], [⟨(.mv (.t 3)), (some 71), none, [], []⟩, ⟨(.mv (.t 71)), (some 2), none, [], []⟩], [], [], false⟩
def ir_rLn : IR := (.seq (.reg r_rLn_0)
  (.seq (.reg r_rLn_1)
  (.seq (.seq (.reg r_rLn_2)
  (.block 0 (.loop r_rLn_l9)))
  (.seq (.reg r_rLn_10)
  .ret))))
def res_rLn : List RDesc := [(.tmp 2)]
theorem e_rLn_0 (C : FuncId → List AV → AV → Prop) (σ : St) (K : St → Prop) : runReg C r_rLn_0 σ K = runOps C [⟨(.box 9 37 (.t 0)), (some 1), none, [], []⟩, ⟨(.mv (.c (.str ⟨#[]⟩))), (some 2), none, [], []⟩] (σ.kills [1]) K := rfl
theorem e_rLn_1 (C : FuncId → List AV → AV → Prop) (σ : St) (K : St → Prop) : runReg C r_rLn_1 σ K = runHead C [] [⟨(.bin .add (.t 34) (.t 37)), (some 38), none, [], []⟩, ⟨(.mv (.t 38)), (some 3), none, [], []⟩] h_rLn_1 (σ.kills [7, 12, 17, 22, 27, 32, 37]) K := rfl
theorem e_rLn_2 (C : FuncId → List AV → AV → Prop) (σ : St) (K : St → Prop) : runReg C r_rLn_2 σ K = runOps C [⟨(.mv (.c (.int .i64 0))), (some 4), none, [], []⟩] (σ.kills []) K := rfl
theorem e_rLn_3 (C : FuncId → List AV → AV → Prop) (σ : St) (K : St → Prop) : runReg C r_rLn_3 σ K = runOps C t_rLn_3 (σ.kills []) K := rfl
theorem e_rLn_4 (C : FuncId → List AV → AV → Prop) (σ : St) (K : St → Prop) : runReg C r_rLn_4 σ K = runOps C t_rLn_4 (σ.kills [52]) K := rfl
theorem e_rLn_5 (C : FuncId → List AV → AV → Prop) (σ : St) (K : St → Prop) : runReg C r_rLn_5 σ K = runOps C t_rLn_5 (σ.kills []) K := rfl
theorem e_rLn_6 (C : FuncId → List AV → AV → Prop) (σ : St) (K : St → Prop) : runReg C r_rLn_6 σ K = runOps C t_rLn_6 (σ.kills [67]) K := rfl
theorem e_rLn_7 (C : FuncId → List AV → AV → Prop) (σ : St) (K : St → Prop) : runReg C r_rLn_7 σ K = runOps C t_rLn_7 (σ.kills []) K := rfl
theorem e_rLn_8 (C : FuncId → List AV → AV → Prop) (σ : St) (K : St → Prop) : runReg C r_rLn_8 σ K = runOps C t_rLn_8 (σ.kills []) K := rfl
theorem e_rLn_10 (C : FuncId → List AV → AV → Prop) (σ : St) (K : St → Prop) : runReg C r_rLn_10 σ K = runOps C [⟨(.mv (.t 3)), (some 71), none, [], []⟩, ⟨(.mv (.t 71)), (some 2), none, [], []⟩] (σ.kills []) K := rfl
theorem fn_rLn {args : List AV} {r : AV} (ha : args.length.ble Tryd.f14.ntmps = true) (h : run (AFn Tryd.prog) ir_rLn (endQ res_rLn r) (initSt args)) : AFn Tryd.prog 14 args r :=
  AFn.of_code (pv := false) (hint := fun _ => []) (c := Tryd.f14.body.getD .skip) (by kernel_rfl) (by kernel_rfl) Tryd.func14 (by kernel_rfl) (by kernel_rfl) (by kernel_rfl) (of_decide_eq_true (by kernel_rfl)) (Nat.le_of_ble_eq_true ha) (Nat.le_of_ble_eq_true (by kernel_rfl)) (run_ok h)
attribute [local go_sem ↓] ir_rLn
attribute [local go_sem] res_rLn e_rLn_0 e_rLn_1 h_rLn_1 e_rLn_2 e_rLn_3 t_rLn_3 e_rLn_4 t_rLn_4 e_rLn_5 t_rLn_5 e_rLn_6 t_rLn_6 e_rLn_7 t_rLn_7 e_rLn_8 t_rLn_8 e_rLn_10
def q_nodes : ByteArray := ⟨#[110, 111, 100, 101, 115, 32]⟩
def q_leaves : ByteArray := ⟨#[32, 108, 101, 97, 118, 101, 115, 32]⟩
def q_height : ByteArray := ⟨#[32, 104, 101, 105, 103, 104, 116, 32]⟩
def q_rows : ByteArray := ⟨#[32, 114, 111, 119, 115, 32]⟩
def q_msgs : ByteArray := ⟨#[32, 109, 115, 103, 115, 32]⟩
def q_bytes : ByteArray := ⟨#[32, 98, 121, 116, 101, 115, 32]⟩
def q_empty : ByteArray := ⟨#[32, 101, 109, 112, 116, 121, 32]⟩
def q_level : ByteArray := ⟨#[32, 108, 101, 118, 101, 108, 32]⟩
def q_sp : ByteArray := ⟨#[32]⟩
def headQ (g : Gau) : ByteArray := q_nodes ++ decS g.nodes ++ q_leaves ++ decS g.leaves ++ q_height ++ decS g.height ++ q_rows ++ decS g.rows ++ q_msgs ++ decS g.msgs ++ q_bytes ++ decS g.bytes ++ q_empty ++ decS g.empty
def lvlQ (ws : List Int) : Nat → List Int → ByteArray → ByteArray
  | _, [], s => s
  | i, n :: r, s => lvlQ ws (i + 1) r (s ++ (q_level ++ decS n ++ q_sp) ++ decS (waitN ws i))
def lineQ (g : Gau) : ByteArray := lvlQ g.waits 0 g.levels (headQ g)
theorem lvlQ_list (ws : List Int) : ∀ (i : Nat) (l : List Int) (s : ByteArray), (lvlQ ws i l s).data.toList = s.data.toList ++ ((lvls ws i l).map fun x => 32 :: x.data.toList).flatten
  | _, [], s => by simp [lvlQ, lvls]
  | i, n :: r, s => by
    rw [lvlQ, lvls, lvlQ_list ws (i + 1) r]
    simp [ByteArray.data_append, q_level, q_sp, w_level]
theorem joinT (l : List (List UInt8)) : Lib.joinTail [32] l = (l.map fun x => 32 :: x).flatten := by
  induction l with
  | nil => rfl
  | cons y r ih =>
    show ([32] ++ y) ++ Lib.joinTail [32] r = _
    rw [ih]; simp
/-- they are one line -/
theorem line_same (g : Gau) : lineQ g = joinB (lineW g) ⟨#[32]⟩ := by
  apply ba_ext
  unfold lineQ
  rw [lvlQ_list]
  have e : (joinB (lineW g) ⟨#[32]⟩).data.toList = Lib.join ((lineW g).map (·.data.toList)) [32] := rfl
  rw [e]
  have e2 : (lineW g).map (·.data.toList) = w_nodes.data.toList :: ((lineW g).drop 1).map (·.data.toList) := rfl
  rw [e2, Lib.join_cons, joinT]
  have e3 : (lineW g).drop 1 = [decS g.nodes, w_leaves, decS g.leaves, w_height, decS g.height, w_rows, decS g.rows, w_msgs, decS g.msgs, w_bytes, decS g.bytes, w_empty, decS g.empty] ++ lvls g.waits 0 g.levels := rfl
  rw [e3]
  simp [headQ, ByteArray.data_append, q_nodes, q_leaves, q_height, q_rows, q_msgs, q_bytes, q_empty, w_nodes, w_leaves, w_height, w_rows, w_msgs, w_bytes, w_empty, Function.comp_def]
def rlI (g : Gau) (R : ByteArray) (k : Nat) (σ : St) : Prop :=
  ∃ (i : Nat) (s : ByteArray), i ≤ g.levels.length ∧ k = g.levels.length - i ∧ s.size ≤ 100000 + 10000 * i ∧ lvlQ g.waits i (g.levels.drop i) s = R ∧ σ.T 1 = .ptr 1 0 0 ∧ σ.H 1 = some ⟨9, 37, [.agg (gauC g)], 0⟩ ∧ σ.T 3 = .str s ∧ σ.T 4 = .int .i64 i
set_option maxHeartbeats 16000000 in
theorem rLn_ok (g : Gau) (hf : g.fits) : AFn Tryd.prog 14 [g.a] (.str (joinB (lineW g) ⟨#[32]⟩)) := by
  refine fn_rLn rfl ?_
  rw [← line_same]
  have hll := hf.ll
  have d1 := rDec_ok _ hf.nodes
  have d2 := rDec_ok _ hf.leaves
  have d3 := rDec_ok _ hf.height
  have d4 := rDec_ok _ hf.rows
  have d5 := rDec_ok _ hf.msgs
  have d6 := rDec_ok _ hf.bytes
  have d7 := rDec_ok _ hf.empty
  have s1 := decS_few hf.nodes
  have s2 := decS_few hf.leaves
  have s3 := decS_few hf.height
  have s4 := decS_few hf.rows
  have s5 := decS_few hf.msgs
  have s6 := decS_few hf.bytes
  have s7 := decS_few hf.empty
  obtain ⟨R, hR⟩ : ∃ R, lineQ g = R := ⟨_, rfl⟩
  rw [hR]
  have hsz : (headQ g).size ≤ 100000 := by
    unfold headQ
    simp only [ByteArray.size_append]
    have : q_nodes.size = 6 ∧ q_leaves.size = 8 ∧ q_height.size = 8 ∧ q_rows.size = 6 ∧ q_msgs.size = 6 ∧ q_bytes.size = 7 ∧ q_empty.size = 7 := ⟨rfl, rfl, rfl, rfl, rfl, rfl, rfl⟩
    omega
  unfold lineQ at hR
  have eg : g.a = .agg (gauC g) := rfl
  rw [eg]
  generalize hH : headQ g = hd at *
  unfold headQ at hH
  unfold gauC
  (repeat (first | simp (maxSteps := 4000000) only [go_sem, ↓reduceIte, reduceCtorEq, Nat.reduceEqDiff, Nat.reduceBEq, Nat.reduceAdd, Nat.reduceSub, Nat.reduceMul, Nat.reduceLT, Nat.reduceLeDiff, Nat.reduceBNe, Int.reduceBEq, Int.reduceBNe, Int.reduceLT, Int.reduceLE, ByteArray.size_append, List.size_toArray, List.length_cons, List.length_nil, Nat.reduceAdd] | refine calling (d1) ?_ | refine callingH (d1) ?_ | refine calling (d2) ?_ | refine callingH (d2) ?_ | refine calling (d3) ?_ | refine callingH (d3) ?_ | refine calling (d4) ?_ | refine callingH (d4) ?_ | refine calling (d5) ?_ | refine callingH (d5) ?_ | refine calling (d6) ?_ | refine callingH (d6) ?_ | refine calling (d7) ?_ | refine callingH (d7) ?_ | refine And.intro (by omega) ?_ | refine And.intro (fun d hd => by (repeat (rcases hd with rfl | hd; · exact ⟨rfl, rfl⟩)); cases hd) ?_))
  refine run_loop (rlI g R) (k := g.levels.length) ⟨0, hd, Nat.zero_le _, rfl, by omega, hR, ?_, ?_, ?_, ?_⟩ ?_
  · simp (maxSteps := 4000000) only [go_sem, ↓reduceIte, reduceCtorEq, Nat.reduceEqDiff, Nat.reduceBEq, Nat.reduceAdd, Nat.reduceSub, Nat.reduceMul, Nat.reduceLT, Nat.reduceLeDiff, Nat.reduceBNe, Int.reduceBEq, Int.reduceBNe, Int.reduceLT, Int.reduceLE]
  · (simp (maxSteps := 4000000) only [go_sem, ↓reduceIte, reduceCtorEq, Nat.reduceEqDiff, Nat.reduceBEq, Nat.reduceAdd, Nat.reduceSub, Nat.reduceMul, Nat.reduceLT, Nat.reduceLeDiff, Nat.reduceBNe, Int.reduceBEq, Int.reduceBNe, Int.reduceLT, Int.reduceLE]) <;> rfl
  · simp (maxSteps := 4000000) only [go_sem, ↓reduceIte, reduceCtorEq, Nat.reduceEqDiff, Nat.reduceBEq, Nat.reduceAdd, Nat.reduceSub, Nat.reduceMul, Nat.reduceLT, Nat.reduceLeDiff, Nat.reduceBNe, Int.reduceBEq, Int.reduceBNe, Int.reduceLT, Int.reduceLE]
    rw [← hH]; rfl
  · (simp (maxSteps := 4000000) only [go_sem, ↓reduceIte, reduceCtorEq, Nat.reduceEqDiff, Nat.reduceBEq, Nat.reduceAdd, Nat.reduceSub, Nat.reduceMul, Nat.reduceLT, Nat.reduceLeDiff, Nat.reduceBNe, Int.reduceBEq, Int.reduceBNe, Int.reduceLT, Int.reduceLE]) <;> rfl
  clear d1 d2 d3 d4 d5 d6 d7 s1 s2 s3 s4 s5 s6 s7 hsz hR hH eg
  rintro k σ ⟨i, s, hi, rfl, hs, hR, t1, h1, t3, t4⟩
  simp only [r_rLn_l9]
  have h1' := h1
  unfold gauC at h1'
  by_cases hlt : i < g.levels.length
  case neg =>
    have hlt' : ¬ (i : Int) < (g.levels.length : Int) := by omega
    have e : g.levels.drop i = [] := List.drop_eq_nil_of_le (by omega)
    rw [e, lvlQ] at hR
    subst hR
    simp (maxSteps := 4000000) only [go_sem, ↓reduceIte, reduceCtorEq, Nat.reduceEqDiff, Nat.reduceBEq, Nat.reduceAdd, Nat.reduceSub, Nat.reduceMul, Nat.reduceLT, Nat.reduceLeDiff, Nat.reduceBNe, Int.reduceBEq, Int.reduceBNe, Int.reduceLT, Int.reduceLE, t1, h1', t3, t4, hlt', List.length_map]
  have hlt' : (i : Int) < (g.levels.length : Int) := by omega
  obtain ⟨x, hx⟩ := get_lt hlt
  have hgx := at_map (f := AV.int .i64) hx
  have dk : g.levels.drop i = x :: g.levels.drop (i + 1) := by rw [List.drop_eq_getElem_cons hlt, (List.getElem?_eq_some_iff.1 hx).2]
  rw [dk, lvlQ] at hR
  unfold q_level q_sp at hR
  have hw := wrapS (j := i) (by omega)
  have cx := rDec_ok x (hf.levels x (List.mem_of_getElem? hx))
  have sx := decS_few (hf.levels x (List.mem_of_getElem? hx))
  have cw := rDec_ok _ (waitN_in hf.waits i)
  have sw := decS_few (waitN_in hf.waits i)
  have fin : ∀ (σ' : St) (s' : ByteArray), s' = s ++ (⟨#[32, 108, 101, 118, 101, 108, 32]⟩ ++ decS x ++ ⟨#[32]⟩) ++ decS (waitN g.waits i) → σ'.T 1 = .ptr 1 0 0 → σ'.H 1 = some ⟨9, 37, [.agg (gauC g)], 0⟩ → σ'.T 3 = .str s' → σ'.T 4 = .int .i64 ((i + 1 : Nat) : Int) → ∃ m, m < g.levels.length - i ∧ rlI g R m σ' := fun σ' s' e a1 a2 a3 a4 =>
    ⟨g.levels.length - (i + 1), by omega, i + 1, s', by omega, rfl, by
      rw [e]
      have z1 : (⟨#[32, 108, 101, 118, 101, 108, 32]⟩ : ByteArray).size = 7 := rfl
      have z2 : (⟨#[32]⟩ : ByteArray).size = 1 := rfl
      simp only [ByteArray.size_append, z1, z2]
      omega, by rw [e]; exact hR, a1, a2, a3, a4⟩
  by_cases hwt : i < g.waits.length
  · have hwt' : (i : Int) < (g.waits.length : Int) := by omega
    obtain ⟨y, hy⟩ := get_lt hwt
    have hgy := at_map (f := AV.int .i64) hy
    have ew : waitN g.waits i = y := by unfold waitN; rw [hy]; rfl
    rw [ew] at cw fin sw
    (repeat (first | simp (maxSteps := 4000000) only [go_sem, ↓reduceIte, reduceCtorEq, Nat.reduceEqDiff, Nat.reduceBEq, Nat.reduceAdd, Nat.reduceSub, Nat.reduceMul, Nat.reduceLT, Nat.reduceLeDiff, Nat.reduceBNe, Int.reduceBEq, Int.reduceBNe, Int.reduceLT, Int.reduceLE, t1, h1', t3, t4, hlt', hlt, hgx, hwt', hwt, hgy, hw, ByteArray.size_append, List.size_toArray, List.length_cons, List.length_nil, Nat.reduceAdd, List.length_map, Int.toNat_natCast] | refine calling (cx) ?_ | refine callingH (cx) ?_ | refine calling (cw) ?_ | refine callingH (cw) ?_ | refine And.intro (by omega) ?_ | refine And.intro (fun d hd => by (repeat (rcases hd with rfl | hd; · exact ⟨rfl, rfl⟩)); cases hd) ?_))
    refine fin _ _ rfl ?_ ?_ ?_ ?_
    · simp (maxSteps := 4000000) only [go_sem, ↓reduceIte, reduceCtorEq, Nat.reduceEqDiff, Nat.reduceBEq, Nat.reduceAdd, Nat.reduceSub, Nat.reduceMul, Nat.reduceLT, Nat.reduceLeDiff, Nat.reduceBNe, Int.reduceBEq, Int.reduceBNe, Int.reduceLT, Int.reduceLE, t1]
    · (simp (maxSteps := 4000000) only [go_sem, ↓reduceIte, reduceCtorEq, Nat.reduceEqDiff, Nat.reduceBEq, Nat.reduceAdd, Nat.reduceSub, Nat.reduceMul, Nat.reduceLT, Nat.reduceLeDiff, Nat.reduceBNe, Int.reduceBEq, Int.reduceBNe, Int.reduceLT, Int.reduceLE, h1]) <;> rfl
    · simp (maxSteps := 4000000) only [go_sem, ↓reduceIte, reduceCtorEq, Nat.reduceEqDiff, Nat.reduceBEq, Nat.reduceAdd, Nat.reduceSub, Nat.reduceMul, Nat.reduceLT, Nat.reduceLeDiff, Nat.reduceBNe, Int.reduceBEq, Int.reduceBNe, Int.reduceLT, Int.reduceLE]
    · simp (maxSteps := 4000000) only [go_sem, ↓reduceIte, reduceCtorEq, Nat.reduceEqDiff, Nat.reduceBEq, Nat.reduceAdd, Nat.reduceSub, Nat.reduceMul, Nat.reduceLT, Nat.reduceLeDiff, Nat.reduceBNe, Int.reduceBEq, Int.reduceBNe, Int.reduceLT, Int.reduceLE]
  · have hwt' : ¬ (i : Int) < (g.waits.length : Int) := by omega
    have ew : waitN g.waits i = 0 := by unfold waitN; rw [List.getElem?_eq_none (by omega)]; rfl
    have ez : decS 0 = ⟨#[48]⟩ := by decide +kernel
    rw [ew, ez] at fin
    (repeat (first | simp (maxSteps := 4000000) only [go_sem, ↓reduceIte, reduceCtorEq, Nat.reduceEqDiff, Nat.reduceBEq, Nat.reduceAdd, Nat.reduceSub, Nat.reduceMul, Nat.reduceLT, Nat.reduceLeDiff, Nat.reduceBNe, Int.reduceBEq, Int.reduceBNe, Int.reduceLT, Int.reduceLE, t1, h1', t3, t4, hlt', hlt, hgx, hwt', hw, ByteArray.size_append, List.size_toArray, List.length_cons, List.length_nil, Nat.reduceAdd, List.length_map, Int.toNat_natCast] | refine calling (cx) ?_ | refine callingH (cx) ?_ | refine And.intro (by omega) ?_ | refine And.intro (fun d hd => by (repeat (rcases hd with rfl | hd; · exact ⟨rfl, rfl⟩)); cases hd) ?_))
    refine fin _ _ rfl ?_ ?_ ?_ ?_
    · simp (maxSteps := 4000000) only [go_sem, ↓reduceIte, reduceCtorEq, Nat.reduceEqDiff, Nat.reduceBEq, Nat.reduceAdd, Nat.reduceSub, Nat.reduceMul, Nat.reduceLT, Nat.reduceLeDiff, Nat.reduceBNe, Int.reduceBEq, Int.reduceBNe, Int.reduceLT, Int.reduceLE, t1]
    · (simp (maxSteps := 4000000) only [go_sem, ↓reduceIte, reduceCtorEq, Nat.reduceEqDiff, Nat.reduceBEq, Nat.reduceAdd, Nat.reduceSub, Nat.reduceMul, Nat.reduceLT, Nat.reduceLeDiff, Nat.reduceBNe, Int.reduceBEq, Int.reduceBNe, Int.reduceLT, Int.reduceLE, h1]) <;> rfl
    · simp (maxSteps := 4000000) only [go_sem, ↓reduceIte, reduceCtorEq, Nat.reduceEqDiff, Nat.reduceBEq, Nat.reduceAdd, Nat.reduceSub, Nat.reduceMul, Nat.reduceLT, Nat.reduceLeDiff, Nat.reduceBNe, Int.reduceBEq, Int.reduceBNe, Int.reduceLT, Int.reduceLE]
    · simp (maxSteps := 4000000) only [go_sem, ↓reduceIte, reduceCtorEq, Nat.reduceEqDiff, Nat.reduceBEq, Nat.reduceAdd, Nat.reduceSub, Nat.reduceMul, Nat.reduceLT, Nat.reduceLeDiff, Nat.reduceBNe, Int.reduceBEq, Int.reduceBNe, Int.reduceLT, Int.reduceLE]
end
section
/-
  The laws of the gauges' lines and of the gauges of trees: walked.
-/
open Go.RowKit
set_option linter.unusedVariables false
set_option linter.unusedSimpArgs false
set_option maxRecDepth 100000
attribute [local go_sem ↓] runOp headOp
/-! ### percolate/percolatelaw50.GaugeLines -/
def t_gGL_0 : List ROp := [⟨(.box 9 37 (.t 0)), (some 2), none, [3], []⟩, ⟨(.box 9 37 (.t 1)), (some 3), none, [], []⟩, ⟨(.mv (.c (.bool false))), (some 4), none, [], []⟩]
def r_gGL_0 : Reg := ⟨[], t_gGL_0, [2, 3], [], false⟩
def t_gGL_1 : List ROp := [⟨(.faddr 7 (.t 2)), (some 5), none, [], []⟩, ⟨(.load 1 false (.t 5)), (some 6), none, [], []⟩, ⟨(.len false (.t 6)), (some 7), none, [], []⟩, ⟨(.faddr 8 (.t 2)), (some 8), none, [], []⟩, ⟨(.load 1 false (.t 8)), (some 9), none, [], []⟩, ⟨(.len false (.t 9)), (some 10), none, [], []⟩, ⟨(.bin .add (.t 7) (.t 10)), (some 11), none, [], []⟩, ⟨(.faddr 7 (.t 3)), (some 12), none, [], []⟩, ⟨(.load 1 false (.t 12)), (some 13), none, [], []⟩, ⟨(.len false (.t 13)), (some 14), none, [], []⟩, ⟨(.bin .add (.t 11) (.t 14)), (some 15), none, [], []⟩, ⟨(.faddr 8 (.t 3)), (some 16), none, [], []⟩, ⟨(.load 1 false (.t 16)), (some 17), none, [], []⟩, ⟨(.len false (.t 17)), (some 18), none, [], []⟩, ⟨(.bin .add (.t 15) (.t 18)), (some 19), none, [], []⟩, ⟨(.bin .gtr (.t 19) (.c (.int .i64 120))), (some 20), none, [], []⟩]
def r_gGL_1 : Reg := ⟨[], t_gGL_1, [], [], false⟩
def r_gGL_2 : Reg := ⟨[], [⟨(.callv (.c (.clo 7 [] [])) []), (some 21), none, [], []⟩, ⟨(.mv (.t 21)), (some 4), none, [], []⟩], [21], [], false⟩
def t_gGL_3 : List ROp := [⟨(.callv (.c (.clo 15 [] [])) [(.t 37), (.t 38)]), (some 39), (some (36, true)), [42], []⟩, ⟨(.pick (.t 36) (.t 39) (.c (.bool false))), (some 40), none, [42], []⟩, ⟨(.mv (.t 40)), (some 41), none, [42], []⟩, ⟨(.callv (.c (.clo 7 [] [])) []), (some 42), (some (41, true)), [], []⟩, ⟨(.pick (.t 41) (.t 42) (.c (.bool false))), (some 43), none, [], []⟩, ⟨(.mv (.t 43)), (some 4), none, [], []⟩]
def h_gGL_3 : List ROp := [⟨(.load 9 true (.t 2)), (some 22), none, [23, 25, 30, 33, 39, 42], []⟩, ⟨(.callv (.c (.clo 13 [] [])) [(.t 22)]), (some 23), none, [25, 30, 33, 39, 42], []⟩, ⟨(.load 9 true (.t 2)), (some 24), none, [23, 25, 30, 33, 39, 42], []⟩, ⟨(.callv (.c (.clo 14 [] [])) [(.t 24)]), (some 25), none, [30, 33, 39, 42], []⟩, ⟨(.bin .eql (.t 23) (.t 25)), (some 26), none, [30, 33, 39, 42], []⟩, ⟨(.mv (.t 26)), (some 27), none, [30, 33, 39, 42], []⟩, ⟨(.load 9 true (.t 2)), (some 28), (some (27, true)), [30, 33, 39, 42], []⟩, ⟨(.load 9 true (.t 3)), (some 29), (some (27, true)), [30, 33, 39, 42], []⟩, ⟨(.callv (.c (.clo 15 [] [])) [(.t 28), (.t 29)]), (some 30), (some (27, true)), [33, 39, 42], []⟩, ⟨(.load 9 true (.t 2)), (some 31), (some (27, true)), [30, 33, 39, 42], []⟩, ⟨(.load 9 true (.t 3)), (some 32), (some (27, true)), [30, 33, 39, 42], []⟩, ⟨(.callv (.c (.clo 11 [] [])) [(.t 31), (.t 32)]), (some 33), (some (27, true)), [39, 42], []⟩, ⟨(.beq false (.t 30) (.t 33)), (some 34), (some (27, true)), [39, 42], []⟩, ⟨(.pick (.t 27) (.t 34) (.c (.bool false))), (some 35), none, [39, 42], []⟩, ⟨(.mv (.t 35)), (some 36), none, [39, 42], []⟩, ⟨(.load 9 true (.t 2)), (some 37), (some (36, true)), [39, 42], []⟩, ⟨(.load 9 true (.t 2)), (some 38), (some (36, true)), [39, 42], []⟩]
def r_gGL_3 : Reg := ⟨h_gGL_3, t_gGL_3, [23, 25, 30, 33, 39, 42], [], true⟩
def ir_gGL : IR := (.seq (.reg r_gGL_0)
  (.seq (.seq (.reg r_gGL_1)
  (.cond (.t 20) (.seq (.reg r_gGL_2)
  .ret)
  .skip))
  (.seq (.reg r_gGL_3)
  .ret)))
def res_gGL : List RDesc := [(.tmp 4)]
theorem e_gGL_0 (C : FuncId → List AV → AV → Prop) (σ : St) (K : St → Prop) : runReg C r_gGL_0 σ K = runOps C t_gGL_0 (σ.kills [2, 3]) K := rfl
theorem e_gGL_1 (C : FuncId → List AV → AV → Prop) (σ : St) (K : St → Prop) : runReg C r_gGL_1 σ K = runOps C t_gGL_1 (σ.kills []) K := rfl
theorem e_gGL_2 (C : FuncId → List AV → AV → Prop) (σ : St) (K : St → Prop) : runReg C r_gGL_2 σ K = runOps C [⟨(.callv (.c (.clo 7 [] [])) []), (some 21), none, [], []⟩, ⟨(.mv (.t 21)), (some 4), none, [], []⟩] (σ.kills [21]) K := rfl
theorem e_gGL_3 (C : FuncId → List AV → AV → Prop) (σ : St) (K : St → Prop) : runReg C r_gGL_3 σ K = runHead C [] t_gGL_3 h_gGL_3 (σ.kills [23, 25, 30, 33, 39, 42]) K := rfl
theorem fn_gGL {args : List AV} {r : AV} (ha : args.length.ble Tryd.f5.ntmps = true) (h : run (AFn Tryd.prog) ir_gGL (endQ res_gGL r) (initSt args)) : AFn Tryd.prog 5 args r :=
  AFn.of_code (pv := false) (hint := fun _ => []) (c := Tryd.f5.body.getD .skip) (by kernel_rfl) (by kernel_rfl) Tryd.func5 (by kernel_rfl) (by kernel_rfl) (by kernel_rfl) (of_decide_eq_true (by kernel_rfl)) (Nat.le_of_ble_eq_true ha) (Nat.le_of_ble_eq_true (by kernel_rfl)) (run_ok h)
/-! ### percolate/percolatelaw50.GaugeOf -/
attribute [local go_sem ↓] ir_gGL
attribute [local go_sem] res_gGL e_gGL_0 t_gGL_0 e_gGL_1 t_gGL_1 e_gGL_2 e_gGL_3 t_gGL_3 h_gGL_3
theorem gau_fits {g : Gau} (h : g.ok) (h1 : g.levels.length ≤ 1000) (h2 : g.waits.length ≤ 1000) : g.fits := by
  obtain ⟨a1, a2, a3, a4, a5, a6, a7, a8, a9⟩ := h
  refine ⟨?_, ?_, ?_, ?_, ?_, ?_, ?_, ?_, ?_, h1, h2⟩
  · unfold inI; omega
  · unfold inI; omega
  · unfold inI; omega
  · unfold inI; omega
  · unfold inI; omega
  · unfold inI; omega
  · unfold inI; omega
  · intro x hx; have := a8.2 x hx; unfold inI; omega
  · intro x hx; have := a9.2 x hx; unfold inI; omega
set_option maxHeartbeats 8000000 in
theorem lines50_law (a b : Gau) (ha : a.ok) (hb : b.ok) : AFn Tryd.prog 5 [a.a, b.a] (.bool true) := by
  refine fn_gGL rfl ?_
  have aw := awk50_ok
  have l1 := ha.levels.1
  have l2 := ha.waits.1
  have l3 := hb.levels.1
  have l4 := hb.waits.1
  have w1 : IntKind.i64.wrap ((a.levels.length : Int) + (a.waits.length : Int)) = (a.levels.length : Int) + (a.waits.length : Int) := IntWalk.i64_in _ (by omega)
  have w2 : IntKind.i64.wrap ((a.levels.length : Int) + (a.waits.length : Int) + (b.levels.length : Int)) = (a.levels.length : Int) + (a.waits.length : Int) + (b.levels.length : Int) := IntWalk.i64_in _ (by omega)
  have w3 : IntKind.i64.wrap ((a.levels.length : Int) + (a.waits.length : Int) + (b.levels.length : Int) + (b.waits.length : Int)) = (a.levels.length : Int) + (a.waits.length : Int) + (b.levels.length : Int) + (b.waits.length : Int) := IntWalk.i64_in _ (by omega)
  by_cases hs : (a.levels.length : Int) + (a.waits.length : Int) + (b.levels.length : Int) + (b.waits.length : Int) > 120
  · (repeat (first | simp (maxSteps := 4000000) only [go_sem, ↓reduceIte, reduceCtorEq, Nat.reduceEqDiff, Nat.reduceBEq, Nat.reduceAdd, Nat.reduceSub, Nat.reduceMul, Nat.reduceLT, Nat.reduceLeDiff, Nat.reduceBNe, Int.reduceBEq, Int.reduceBNe, Int.reduceLT, Int.reduceLE, evG, evP, Nat.reduceMod, Nat.reduceDiv, Nat.reduceSub, Nat.reduceLeDiff, Nat.reduceMul, Nat.reduceAdd, Msg.a, Par.a, Gau.a, List.length_map, w1, w2, w3, hs] | refine calling (aw) ?_ | refine callingH (aw) ?_ | refine And.intro (by omega) ?_ | refine And.intro (fun d hd => by (repeat (rcases hd with rfl | hd; · exact ⟨rfl, rfl⟩)); cases hd) ?_))
  · have c1 := gLn_ok a (gau_fits ha (by omega) (by omega))
    have c2 := rLn_ok a (gau_fits ha (by omega) (by omega))
    have c3 := gSm_ok a b (by omega) (by omega) (by omega) (by omega)
    have c4 := r50S_ok a b (by omega) (by omega) (by omega) (by omega)
    have c5 := gSm_ok a a (by omega) (by omega) (by omega) (by omega)
    rw [gauB_self] at c5
    generalize joinB (lineW a) ⟨#[32]⟩ = L at *
    generalize gauB a b = R at *
    simp only [Gau.a] at c1 c2 c3 c4 c5
    (repeat (first | simp (maxSteps := 4000000) only [go_sem, ↓reduceIte, reduceCtorEq, Nat.reduceEqDiff, Nat.reduceBEq, Nat.reduceAdd, Nat.reduceSub, Nat.reduceMul, Nat.reduceLT, Nat.reduceLeDiff, Nat.reduceBNe, Int.reduceBEq, Int.reduceBNe, Int.reduceLT, Int.reduceLE, evG, evP, Nat.reduceMod, Nat.reduceDiv, Nat.reduceSub, Nat.reduceLeDiff, Nat.reduceMul, Nat.reduceAdd, Msg.a, Par.a, Gau.a, List.length_map, w1, w2, w3, hs, beq_self_eq_true] | refine calling (c1) ?_ | refine callingH (c1) ?_ | refine calling (c2) ?_ | refine callingH (c2) ?_ | refine calling (c3) ?_ | refine callingH (c3) ?_ | refine calling (c4) ?_ | refine callingH (c4) ?_ | refine calling (c5) ?_ | refine callingH (c5) ?_ | refine calling (aw) ?_ | refine callingH (aw) ?_ | refine And.intro (by omega) ?_ | refine And.intro (fun d hd => by (repeat (rcases hd with rfl | hd; · exact ⟨rfl, rfl⟩)); cases hd) ?_))
end
section
/-
  The three laws of the gauges, at what came in.
-/
open Go.RowKit
set_option linter.unusedVariables false
set_option linter.unusedSimpArgs false
set_option maxRecDepth 100000
theorem reads_agg {w : World} {fs : List Ty} {c : Array Value} {ds : List AV} (h : ReadsAs w (.st fs) c.toList ds) : VR (fun b _ => b < w.heap.size) w (.agg ds) (.agg c) := by
  have := VR.agg (Pr := fun b _ => b < w.heap.size) (w := w) ds c.toList h.2.1 h.2.2
  simpa using this
theorem lines50_walk (c1 c2 : Array Value) (w : World) (hG : Glob w) (f0 : ∃ ds, ReadsAs w GauT c1.toList ds) (f1 : ∃ ds, ReadsAs w GauT c2.toList ds) :
    Calls Tryd.prog 5 #[.agg c1, .agg c2] w fun e w' => e = .returned (.bool true) ∧ Below w.heap.size w w' := by
  obtain ⟨d0, r0⟩ := f0
  obtain ⟨d1, r1⟩ := f1
  obtain ⟨a, e0, oa⟩ := Gau.of r0.1
  obtain ⟨b, e1, ob⟩ := Gau.of r1.1
  have v0 := reads_agg r0
  have v1 := reads_agg r1
  rw [e0] at v0
  rw [e1] at v1
  refine run_args (vs := [.agg c1, .agg c2]) hG rfl (fun j d u hj hu => ?_) (lines50_law a b oa ob)
  match j with
  | 0 => cases hj; cases hu; exact v0
  | 1 => cases hj; cases hu; exact v1
  | j + 2 => simp at hj
end
section
/-
  'Rows.GaugeLinesSaid' is proved: the law percolatelaw50.GaugeLines returns true at every input, and its arguments read as they did. No condition.
-/
namespace gaugeLines
open Go.ChangeShapes Go.WideShapes Go.ChangeAt Go.RowKit
open Go.ChangeMaps (open_string shut_string)
set_option linter.unusedVariables false
set_option maxRecDepth 100000 in
theorem lifted (os : Os) (started : os.Started) (H : Type) (enc : TypeId × Value → H) :
    ReturnsInHanded {} Tryd.checked os 5 .any (fun w args => (Rows.gaugeLinesSpec.pre enc Tryd.prog Tryd.f5 [] false w args ∧ laidMetH Tryd.prog Rows.gaugeLinesRow.laid w) ∧ sizedMet enc Tryd.prog Tryd.f5 (OpenSpec.ofChange Rows.gaugeLinesSpec) false w args) (Rows.gaugeLinesSpec.post enc Tryd.prog Tryd.f5 false true false false) := by
  refine returnsInHanded_of_row (C := Tryd.checked) (s := OpenSpec.ofChange Rows.gaugeLinesSpec) (F := fun _ _ _ => 0) ownK started (by kernel_rfl) Tryd.func5
    (ChangeSpec.witness_shaped (enc := enc) (C := Tryd.checked) (os := os) (X := fun w _ => laidMetH Tryd.prog Rows.gaugeLinesRow.laid w) false (World.laidAll Tryd.prog os Rows.gaugeLinesRow.laid) #[.agg #[.int .i64 0, .int .i64 0, .int .i64 0, .int .i64 0, .int .i64 0, .int .i64 0, .int .i64 0, .slice none 0 0, .slice none 0 0], .agg #[.int .i64 0, .int .i64 0, .int .i64 0, .int .i64 0, .int .i64 0, .int .i64 0, .int .i64 0, .slice none 0 0, .slice none 0 0]] 8 (World.laidAll_os _ _ _)
      (World.shaped_of_ZipB (by kernel_rfl) (by kernel_rfl)) (by kernel_rfl) (by kernel_rfl) (by kernel_rfl)
      (by rw [MakeChecks.laidMetH_plain _ _ _ (by kernel_rfl)]; exact laidMet_laidAll _ (by kernel_rfl) (by kernel_rfl))) ?_
  intro W base args ds gs before hval0 hW hcnd hk hsz hL hsh _
  have hval : ∀ (j : Nat) t v, Tryd.f5.params[j]? = some t → args[j]? = some v → Value.okWide Tryd.prog W .any base t v := hval0
  have hW' := hW
  obtain ⟨p, q, hA0, hV, rfl, hfz, hnd⟩ := hW
  have hA : DataW.TrodAll enc Tryd.prog W 0 (fun _ => true) true Tryd.f5.params.toList args.toList ds p := hA0
  rw [Tryd.params5] at hA hval
  obtain ⟨v0, vs0, d0, ds0, p0, q0, hargs, rfl, rfl, h0, r0⟩ := trodAll_cons hA
  obtain ⟨v1, vs1, d1, ds1, p1, q1, rfl, rfl, rfl, h1, r1⟩ := trodAll_cons r0
  obtain ⟨rfl, rfl, rfl⟩ := trodAll_nil r1
  obtain rfl : args = #[v0, v1] := by cases args; simp_all
  obtain ⟨rfl, rfl⟩ := trodVars_none hV
  have hw0 : (d0.weights Tryd.prog 37).all (· ≤ reachBytes) = true := weightsEach_mem hsz 0 37 d0 rfl rfl
  obtain ⟨c0, rfl, hc0⟩ := okWide_struct Tryd.underlying37 (hval 0 37 v0 rfl rfl)
  obtain ⟨fu0, ht0⟩ := h0
  have f0 : ∃ ds, ReadsAs W (GauT) c0.toList ds := typed_in 8 (x := (d0, p0)) (by kernel_rfl) hw0 ht0
  have hw1 : (d1.weights Tryd.prog 37).all (· ≤ reachBytes) = true := weightsEach_mem hsz 1 37 d1 rfl rfl
  obtain ⟨c1, rfl, hc1⟩ := okWide_struct Tryd.underlying37 (hval 1 37 v1 rfl rfl)
  obtain ⟨fu1, ht1⟩ := h1
  have f1 : ∃ ds, ReadsAs W (GauT) c1.toList ds := typed_in 8 (x := (d1, p1)) (by kernel_rfl) hw1 ht1
  have hL' := hL
  rw [MakeChecks.laidMetH_plain _ _ _ (by kernel_rfl)] at hL'
  have hL3 : laidMet Tryd.prog (("internal/strconv.uint64pow10", Rows.laid_internal_strconv_uint64pow10) :: []) W := (laidMet.tail (laidMet.tail hL'))
  rw [show (Rows.laid_internal_strconv_uint64pow10 : DataW Unit) = Lib.tabData .u64 Lib.pow10Tab by kernel_rfl] at hL3
  have htab : PowTab W := Lib.tabIs_of_head (g := 1) (t := 79) (e := 72) (n := 20) (by kernel_rfl) (by kernel_rfl) Tryd.underlying79 Tryd.underlying72 (by kernel_rfl) (by kernel_rfl) hL3
  refine (lines50_walk c0 c1 W (Glob.start hsh htab) f0 f1).mono fun e W' ⟨he, hb⟩ => ?_
  subst he
  exact ⟨_, rfl, post_law laidOut hW' rfl rfl rfl rfl rfl Tryd.underlying4 (by intro t ht; rw [Tryd.params5] at ht; simp only [List.mem_cons, List.not_mem_nil, or_false] at ht; rcases ht with rfl | rfl <;> exact ⟨by kernel_rfl, of_decide_eq_true (by kernel_rfl)⟩) hb⟩
theorem holds : Rows.GaugeLinesSaid :=
  OpenClaim.holds_of_wide 5 Tryd.f5 rfl rfl rfl rfl rfl rfl rfl ⟨rfl, rfl, rfl, rfl, rfl⟩ rfl rfl rfl rfl rfl (by kernel_rfl) Tryd.func5 (by kernel_rfl)
    (of_decide_eq_true (by kernel_rfl)) (by unfold Func.isWrapper; first | (rw [if_pos (by decide +kernel)]; kernel_rfl) | (rw [if_neg (by decide +kernel)]; exact ⟨rfl, rfl⟩))
    (fun os started H enc _ => lifted os started H enc)
theorem proved : Rows.GaugeLinesCardSaid :=
  Claim7.holds_tied_plain_at .later [] [.data, .data, .data] true (true, "e990057c32c98bc34feb26bc7100bbde4d8815cb900e9cea29065f5ffcb988c9") false holds (fun _ h => by cases h) (by kernel_rfl) (fun _ h => by cases h) gaugeLines_row_tie rfl ⟨rfl, rfl⟩ (by kernel_rfl) rfl
    (fun f fn hf hfn => by
      obtain rfl : f = 5 := Option.some.inj ((show Tryd.prog.funcNamed "percolate/percolatelaw50.GaugeLines" = some 5 by kernel_rfl).symm.trans hf) |>.symm
      obtain rfl : fn = Tryd.f5 := (Option.some.inj (Tryd.func5.symm.trans hfn)).symm
      exact ⟨by kernel_rfl, fun j t ht => by
        rw [Tryd.params5] at ht
        have hm : t ∈ [37, 37] := by simpa using Array.mem_of_getElem? ht
        have hall : ([37, 37].all fun u => !Tryd.prog.wantsStandIn u) = true := by kernel_rfl
        exact (show Tryd.prog.wantsStandIn t = false by simpa using List.all_eq_true.1 hall t hm)⟩)
    (by kernel_rfl)
end gaugeLines
end
end Go.Proofs.YtelmejaiapdgnaaDoor
