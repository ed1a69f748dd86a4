/-
  Part 13 of a proof: TrL, TrM, TrN, TrO.
-/
import Derived.Test.YthfdbjocpicbmaaDoorTE12
namespace Go.Proofs.YthfdbjocpicbmaaDoor
attribute [local go_sem] ev0 ev1 ev2 ev3 ev4 evA stHOk.eq_1 stHOk.eq_2 stHSt.eq_1 stHSt.eq_2 okV valV fzV okF valF okBld valBld mxOk.eq_1 mxOk.eq_2 mxVal.eq_1 mxVal.eq_2 cellFit.eq_1 cellFit.eq_2 cellFit.eq_3 cellEq.eq_1 cellEq.eq_2 cellEq.eq_3 upd_at AV.flatB AV.flatBs binIok binIV binSok binSV cellsOk.eq_1 cellsOk.eq_2 cellsVal.eq_1 cellsVal.eq_2 objCells.eq_1 objCells.eq_2 objZ.eq_1 objZ.eq_2 objProt.eq_1 objProt.eq_2 oneObj ptrOk.eq_1 ptrOk.eq_2 ptrOk.eq_3 ptrCells.eq_1 ptrCells.eq_2 ptrCells.eq_3 lenOk.eq_1 lenOk.eq_2 lenOk.eq_3 lenOk.eq_4 lenVal.eq_1 lenVal.eq_2 lenVal.eq_3 lenVal.eq_4 faOk.eq_1 faOk.eq_2 faOk.eq_3 faVal.eq_1 faVal.eq_2 faVal.eq_3 iaOk.eq_1 iaOk.eq_2 iaOk.eq_3 iaVal.eq_1 iaVal.eq_2 iaVal.eq_3 slcLen.eq_1 slcLen.eq_2 slcLen.eq_3 slcLen.eq_4 bdOk.eq_1 bdOk.eq_2 bdVal.eq_1 bdVal.eq_2 slcOk.eq_1 slcOk.eq_2 slcOk.eq_3 slcOk.eq_4 slcVal.eq_1 slcVal.eq_2 slcVal.eq_3 slcVal.eq_4 slcFz.eq_1 slcFz.eq_2 byOk.eq_1 byOk.eq_2 byOk.eq_3 byOk.eq_4 byOk.eq_5 byOk.eq_6 byOk.eq_7 byOk.eq_8 byVal.eq_1 byVal.eq_2 byVal.eq_3 byFz.eq_1 byFz.eq_2 byFz.eq_3 byOks byVals byFzs allOne resSt.eq_1 resSt.eq_2 resName.eq_1 resName.eq_2 stOk.eq_1 stOk.eq_2 stArr.eq_1 stArr.eq_2 stSt.eq_1 stSt.eq_2 AV.patch nameOk_none gB.eq_1 gB.eq_2 gB.eq_3 gIs.eq_1 gIs.eq_2 gIs.eq_3 retV resV resVs evalV cellsV St.byval List.getD_cons_zero List.getD_cons_succ List.getD_nil List.map_cons List.map_nil List.length_cons List.length_nil List.take_succ_cons List.take_zero List.drop_succ_cons List.drop_zero List.headD_cons List.set_cons_zero List.append_nil List.nil_append List.cons_append List.contains_cons List.contains_nil List.elem_cons List.elem_nil List.all_cons List.all_nil List.getElem?_cons_zero List.getElem?_cons_succ List.filterMap_cons List.filterMap_nil Option.isSome_some Option.isSome_none Option.map_some Option.map_none Option.some.injEq AV.int.injEq AV.bool.injEq AV.str.injEq AV.tup.injEq AV.agg.injEq AV.sl.injEq List.cons.injEq Bool.false_eq_true Bool.true_eq_false Bool.not_true Bool.not_false Bool.and_true Bool.true_and Bool.or_false Bool.or_true Bool.false_or Bool.true_or Bool.or_self Bool.and_self Bool.not_eq_true' Bool.not_eq_false' Bool.not_not beq_self_eq_true true_and and_true false_and and_false and_self not_true_eq_false not_false_eq_true forall_const true_implies false_implies implies_true imp_self Nat.lt_add_one Nat.le_refl Nat.zero_le Nat.add_zero Nat.zero_add decide_true decide_false decide_eq_true_eq decide_eq_false_iff_not exists_eq_left exists_eq_left' ge_iff_le gt_iff_lt ite_branch ite_branch' nilOk.eq_1 nilOk.eq_2 nilMay.eq_1 nilMay.eq_2 AV.isSl.eq_1 objTy'.eq_1 objTy'.eq_2 apSt.eq_1 apArr.eq_1 apArr.eq_2 slOf.eq_1 fitsV List.mem_cons List.not_mem_nil Bool.false_and Bool.and_false primOk.eq_1 primOk.eq_2 primOk.eq_3 primOk.eq_4 primOk.eq_5 primVal.eq_1 primVal.eq_2 primVal.eq_3 primVal.eq_4 primVal.eq_5 mOk.eq_1 mOk.eq_2 mVal.eq_1 mVal.eq_2 mFz.eq_1 mFz.eq_2 mOks mVals mFzs mCalOk.eq_1 mCalOk.eq_2 mFn.eq_1 mFn.eq_2 mArgs.eq_1 mArgs.eq_2 ckOk.eq_1 ckOk.eq_2 cloOk.eq_1 ptrAt.eq_1 sh.eq_1 sh.eq_2 sh.eq_3 sh.eq_4 sh.eq_5 sh.eq_6 retM shH_small evM entOk.eq_1 entOk.eq_2 ents.eq_1 ents.eq_2 kI.eq_1 mpOk.eq_1 mpR.eq_1 lkV.eq_1 lkV.eq_2 remp.eq_2 evP pvOk.eq_1 pvOk.eq_2 pvVal.eq_1 pvVal.eq_2 plOk.eq_1 plOk.eq_2 plOk.eq_3 plV.eq_1 plV.eq_2 plF.eq_1 plF.eq_2 plVal.eq_1 plVal.eq_2 plFz.eq_1 plFz.eq_2 lpOk.eq_1 lpOk.eq_2 lpVal.eq_1 lpVal.eq_2 lpFz.eq_1 lpFz.eq_2 stpOk.eq_1 stpOk.eq_2 stpSt.eq_1 stpSt.eq_2 stpArr.eq_1
section
/-
  The answer that a line is: the code, walked (with a private object).
-/
open Go.RowKit Go.Lib
set_option linter.unusedVariables false
set_option linter.unusedSimpArgs false
set_option maxRecDepth 100000
attribute [local go_sem ↓] runOp headOp
theorem wl_bulk : ∀ l : List UInt8, sumN (fun w : List UInt8 => w.length + 1) (wl l) = l.length + 1
  | [] => rfl
  | c :: l => by
    have ih := wl_bulk l
    rw [wl]
    split
    · show (0 + 1) + sumN _ (wl l) = _
      rw [ih, List.length_cons]; omega
    · cases hw : wl l with
      | nil => exact absurd hw (wl_ne l)
      | cons w ws =>
        rw [hw] at ih
        have ih' : (w.length + 1) + sumN (fun w : List UInt8 => w.length + 1) ws = l.length + 1 := ih
        show ((c :: w).length + 1) + sumN (fun w : List UInt8 => w.length + 1) ws = _
        rw [List.length_cons, List.length_cons]; omega
theorem sumN_map {α β : Type} (f : β → Nat) (g : α → β) : ∀ l : List α, sumN f (l.map g) = sumN (fun x => f (g x)) l
  | [] => rfl
  | x :: l => by show f (g x) + _ = _; rw [sumN_map f g l]; rfl
theorem sumN_le {α : Type} {f g : α → Nat} (h : ∀ x, f x ≤ g x) : ∀ l : List α, sumN f l ≤ sumN g l
  | [] => Nat.le_refl _
  | x :: l => by
    have := sumN_le h l
    have := h x
    show f x + sumN f l ≤ g x + sumN g l
    omega
theorem sumN_drop {α : Type} (f : α → Nat) : ∀ (l : List α) (j : Nat), sumN f (l.drop j) ≤ sumN f l
  | [], j => by rw [List.drop_nil]; exact Nat.le_refl _
  | x :: l, 0 => Nat.le_refl _
  | x :: l, j + 1 => by
    have := sumN_drop f l j
    show sumN f (l.drop j) ≤ f x + sumN f l
    omega
theorem words_bulk (s : ByteArray) : sumN (fun w : ByteArray => w.size + 1) (wordsL' s) = s.size + 1 := by
  unfold wordsL'
  rw [sumN_map]
  have h := wl_bulk s.data.toList
  rw [← sz_list] at h
  exact h
theorem cutE_sum (s : ByteArray) : (cutE s).1.size + (cutE s).2.size ≤ s.size := by
  unfold cutE
  rw [sz_list s]
  unfold Lib.cut
  split
  · show (List.toArray _).size + (List.toArray _).size ≤ _
    rw [List.size_toArray, List.size_toArray, List.length_take, List.length_drop]
    show min _ _ + (_ - (_ + 1)) ≤ _
    omega
  · show (List.toArray _).size + (List.toArray _).size ≤ _
    rw [List.size_toArray, List.size_toArray]; exact Nat.le_refl _
theorem pairP_bulk (w : ByteArray) : (pairP w).bulk ≤ w.size + 1 := by
  have a := uq1_size (cutE w).1
  have b := uq1_size (cutE w).2
  have c := cutE_sum w
  show 1 + (uq1 (cutE w).1).size + (uq1 (cutE w).2).size ≤ _
  omega
theorem words_small {s x : ByteArray} (h : x ∈ wordsL' s) : x.size ≤ s.size := by
  have := sumN_mem (f := fun w : ByteArray => w.size + 1) h
  rw [words_bulk] at this
  omega
theorem wordsP_small (s : ByteArray) (j : Nat) : ((wordsL' s).getD j nul).size ≤ s.size := by
  rw [List.getD_eq_getElem?_getD]
  cases hj : (wordsL' s)[j]? with
  | none => exact Nat.zero_le _
  | some x => exact words_small (List.mem_of_getElem? hj)
theorem words_ne (s : ByteArray) : 1 ≤ (wordsL' s).length := by
  unfold wordsL'
  rw [List.length_map]
  exact List.length_pos_iff.2 (wl_ne _)
theorem words_len (s : ByteArray) : (wordsL' s).length ≤ s.size + 1 := by
  have := wl_len s.data.toList
  unfold wordsL'
  rw [List.length_map, sz_list]; exact this
theorem told_bulk (s : ByteArray) : sumN Par.bulk (toldF s).prs ≤ s.size + 1 ∧ (toldF s).val.size ≤ s.size := by
  have h1 := wordsP_small s 1
  unfold toldF toldW
  split
  · exact ⟨Nat.zero_le _, Nat.zero_le _⟩
  · split
    · exact ⟨Nat.zero_le _, Nat.le_trans (uq1_size _) h1⟩
    · split
      · refine ⟨?_, Nat.zero_le _⟩
        show sumN Par.bulk (((wordsL' s).drop 2).map pairP) ≤ _
        rw [sumN_map]
        refine Nat.le_trans (sumN_le (g := fun w : ByteArray => w.size + 1) (fun x => pairP_bulk x) _) ?_
        refine Nat.le_trans (sumN_drop _ _ _) ?_
        rw [words_bulk]; exact Nat.le_refl _
      · exact ⟨Nat.zero_le _, Nat.zero_le _⟩
theorem words_ok' (s : ByteArray) (hs : s.size ≤ 300000) : AFn Tryd.prog 56 [.str s] (.own 1 9 ((wordsL' s).map .str)) := by
  have hl := words_len s
  have hsp : (splitL s ⟨#[32]⟩).length ≤ maxLen := by
    have := congrArg List.length (splitL_wl s)
    rw [List.length_map] at this
    unfold ws at this
    rw [List.length_map] at this
    unfold wordsL' at hl
    rw [List.length_map] at hl
    rw [this]
    exact Nat.le_trans (by omega : _ ≤ 300001) (by decide)
  have hW := words_ok s (by omega) hsp
  rw [splitL_wl s] at hW
  unfold wordsL'
  rw [List.map_map]
  exact hW
/-! ### percolate/trace.told -/
def r_told_0 : Reg := ⟨[], [⟨(.alloc 4 46 (.agg [(.int .i64 0), (.bool false), (.str ⟨#[]⟩), (.cst (.slice none 0 0))])), (some 2), none, [], []⟩], [2], [], false⟩
def t_told_1 : List ROp := [⟨(.mv (.t 0)), (some 8), none, [9], []⟩, ⟨(.callv (.c (.clo 56 [] [])) [(.t 8)]), (some 9), none, [], []⟩, ⟨(.mv (.t 9)), (some 3), none, [], []⟩]
def r_told_1 : Reg := ⟨[], t_told_1, [9], [], false⟩
def t_told_2 : List ROp := [⟨(.mv (.t 3)), (some 11), none, [], []⟩, ⟨(.iaddr 1 (.t 11) (.c (.int .i64 0))), (some 12), none, [], []⟩, ⟨(.load 1 false (.t 12)), (some 13), none, [], []⟩, ⟨(.bin .eql (.t 13) (.c (.str ⟨#[101, 114, 114, 111, 114]⟩))), (some 14), none, [], []⟩, ⟨(.mv (.t 14)), (some 15), none, [], []⟩, ⟨(.mv (.t 3)), (some 16), (some (15, true)), [], []⟩, ⟨(.len false (.t 16)), (some 17), (some (15, true)), [], []⟩, ⟨(.bin .eql (.t 17) (.c (.int .i64 2))), (some 18), (some (15, true)), [], []⟩, ⟨(.pick (.t 15) (.t 18) (.c (.bool false))), (some 19), none, [], []⟩, ⟨(.mv (.t 19)), (some 10), none, [], []⟩]
def r_told_2 : Reg := ⟨[], t_told_2, [], [], false⟩
def t_told_3 : List ROp := [⟨(.mv (.t 3)), (some 21), none, [24], []⟩, ⟨(.iaddr 1 (.t 21) (.c (.int .i64 1))), (some 22), none, [24], []⟩, ⟨(.load 1 false (.t 22)), (some 23), none, [24], []⟩, ⟨(.callv (.c (.clo 57 [] [])) [(.t 23)]), (some 24), none, [], []⟩, ⟨(.mv (.t 24)), (some 20), none, [], []⟩, ⟨(.ext 0 (.t 20)), (some 25), none, [], []⟩, ⟨(.ext 1 (.t 20)), (some 26), none, [], []⟩, ⟨(.mv (.t 25)), (some 4), none, [], []⟩, ⟨(.mv (.t 26)), (some 5), none, [], []⟩]
def r_told_3 : Reg := ⟨[], t_told_3, [24], [], false⟩
def t_told_4 : List ROp := [⟨(.mv (.t 4)), (some 27), none, [], []⟩, ⟨(.faddr 0 (.t 2)), (some 28), none, [], []⟩, ⟨(.store 1 (.t 28) (.t 27)), none, none, [], []⟩]
def r_told_4 : Reg := ⟨[], t_told_4, [], [], false⟩
def t_told_5 : List ROp := [⟨(.mv (.t 3)), (some 30), none, [], []⟩, ⟨(.iaddr 1 (.t 30) (.c (.int .i64 0))), (some 31), none, [], []⟩, ⟨(.load 1 false (.t 31)), (some 32), none, [], []⟩, ⟨(.bin .eql (.t 32) (.c (.str ⟨#[104, 97, 115]⟩))), (some 33), none, [], []⟩, ⟨(.mv (.t 33)), (some 34), none, [], []⟩, ⟨(.mv (.t 3)), (some 35), (some (34, true)), [], []⟩, ⟨(.len false (.t 35)), (some 36), (some (34, true)), [], []⟩, ⟨(.bin .eql (.t 36) (.c (.int .i64 2))), (some 37), (some (34, true)), [], []⟩, ⟨(.pick (.t 34) (.t 37) (.c (.bool false))), (some 38), none, [], []⟩, ⟨(.mv (.t 38)), (some 29), none, [], []⟩]
def r_told_5 : Reg := ⟨[], t_told_5, [], [], false⟩
def r_told_6 : Reg := ⟨[], [⟨(.faddr 1 (.t 2)), (some 39), none, [], []⟩, ⟨(.store 1 (.t 39) (.c (.bool true))), none, none, [], []⟩], [], [], false⟩
def t_told_7 : List ROp := [⟨(.mv (.t 3)), (some 41), none, [44], []⟩, ⟨(.iaddr 1 (.t 41) (.c (.int .i64 1))), (some 42), none, [44], []⟩, ⟨(.load 1 false (.t 42)), (some 43), none, [44], []⟩, ⟨(.callv (.c (.clo 97 [] [])) [(.t 43)]), (some 44), none, [], []⟩, ⟨(.mv (.t 44)), (some 40), none, [], []⟩, ⟨(.ext 0 (.t 40)), (some 45), none, [], []⟩, ⟨(.ext 1 (.t 40)), (some 46), none, [], []⟩, ⟨(.faddr 2 (.t 2)), (some 47), none, [], []⟩, ⟨(.store 1 (.t 47) (.t 45)), none, none, [], []⟩]
def r_told_7 : Reg := ⟨[], t_told_7, [44], [], false⟩
def t_told_8 : List ROp := [⟨(.mv (.t 3)), (some 49), none, [], []⟩, ⟨(.iaddr 1 (.t 49) (.c (.int .i64 0))), (some 50), none, [], []⟩, ⟨(.load 1 false (.t 50)), (some 51), none, [], []⟩, ⟨(.bin .eql (.t 51) (.c (.str ⟨#[112, 97, 105, 114, 115]⟩))), (some 52), none, [], []⟩, ⟨(.mv (.t 52)), (some 53), none, [], []⟩, ⟨(.mv (.t 3)), (some 54), (some (53, true)), [], []⟩, ⟨(.len false (.t 54)), (some 55), (some (53, true)), [], []⟩, ⟨(.bin .gtr (.t 55) (.c (.int .i64 1))), (some 56), (some (53, true)), [], []⟩, ⟨(.pick (.t 53) (.t 56) (.c (.bool false))), (some 57), none, [], []⟩, ⟨(.mv (.t 57)), (some 48), none, [], []⟩]
def r_told_8 : Reg := ⟨[], t_told_8, [], [], false⟩
def t_told_9 : List ROp := [⟨(.mv (.t 3)), (some 58), none, [], []⟩, ⟨(.slc false 1 (.t 58) (some (.c (.int .i64 2))) none), (some 59), none, [], []⟩, ⟨(.len false (.t 59)), (some 60), none, [], []⟩, ⟨(.mv (.c (.int .i64 0))), (some 61), none, [], []⟩]
def r_told_9 : Reg := ⟨[], t_told_9, [], [], false⟩
def r_told_10 : Reg := ⟨[], [⟨(.bin .lss (.t 61) (.t 60)), (some 62), none, [], []⟩], [], [], false⟩
def t_told_11 : List ROp := [⟨(.iaddr 1 (.t 59) (.t 61)), (some 63), none, [], []⟩, ⟨(.load 1 false (.t 63)), (some 64), none, [], []⟩, ⟨(.mv (.t 64)), (some 7), none, [], []⟩]
def r_told_11 : Reg := ⟨[], t_told_11, [], [], false⟩
def t_told_12 : List ROp := [⟨(.append 2 77 32 (.t 66) (.t 69)), (some 70), none, [], []⟩, ⟨(.faddr 3 (.t 2)), (some 71), none, [], []⟩, ⟨(.storep 1 (.t 71) (.t 70)), none, none, [], []⟩]
def h_told_12 : List ROp := [⟨(.faddr 3 (.t 2)), (some 65), none, [68, 69], []⟩, ⟨(.loadp 1 false (.t 65)), (some 66), none, [68, 69], []⟩, ⟨(.mv (.t 7)), (some 67), none, [68, 69], []⟩, ⟨(.callv (.c (.clo 98 [] [])) [(.t 67)]), (some 68), none, [69], []⟩, ⟨(.bsl 2 77 [(.t 68)]), (some 69), none, [], []⟩]
def r_told_12 : Reg := ⟨h_told_12, t_told_12, [68, 69], [], true⟩
def r_told_13 : Reg := ⟨[], [⟨(.bin .add (.t 61) (.c (.int .i64 1))), (some 72), none, [], []⟩, ⟨(.mv (.t 72)), (some 61), none, [], []⟩], [], [], false⟩
def r_told_l14 : IR := (.seq (.reg r_told_10)
  (.seq (.cond (.t 62) .skip
  (.exit 1))
  (.seq (.block 2 (.seq (.reg r_told_11)
  (.reg r_told_12)))
  (.reg r_told_13))))
def r_told_15 : Reg := ⟨[], [⟨(.loadp 4 true (.t 2)), (some 73), none, [], []⟩, ⟨(.store 4 (.t 2) (.t 73)), none, none, [], []⟩], [], [], false⟩
def ir_told : IR := (.seq (.seq (.reg r_told_0)
  (.gini [⟨2, 3, 519, 2, 77⟩]))
  (.seq (.reg r_told_1)
  (.seq (.block 0 (.seq (.reg r_told_2)
  (.cond (.t 10) (.seq (.reg r_told_3)
  (.reg r_told_4))
  (.seq (.reg r_told_5)
  (.cond (.t 29) (.seq (.reg r_told_6)
  (.reg r_told_7))
  (.seq (.reg r_told_8)
  (.cond (.t 48) (.seq (.reg r_told_9)
  (.block 1 (.loop r_told_l14)))
  .skip)))))))
  (.seq (.reg r_told_15)
  .ret))))
def res_told : List RDesc := [(.cell 2 4 true)]
theorem e_told_0 (C : FuncId → List AV → AV → Prop) (σ : St) (K : St → Prop) : runReg C r_told_0 σ K = runOps C [⟨(.alloc 4 46 (.agg [(.int .i64 0), (.bool false), (.str ⟨#[]⟩), (.cst (.slice none 0 0))])), (some 2), none, [], []⟩] (σ.kills [2]) K := rfl
theorem e_told_1 (C : FuncId → List AV → AV → Prop) (σ : St) (K : St → Prop) : runReg C r_told_1 σ K = runOps C t_told_1 (σ.kills [9]) K := rfl
theorem e_told_2 (C : FuncId → List AV → AV → Prop) (σ : St) (K : St → Prop) : runReg C r_told_2 σ K = runOps C t_told_2 (σ.kills []) K := rfl
theorem e_told_3 (C : FuncId → List AV → AV → Prop) (σ : St) (K : St → Prop) : runReg C r_told_3 σ K = runOps C t_told_3 (σ.kills [24]) K := rfl
theorem e_told_4 (C : FuncId → List AV → AV → Prop) (σ : St) (K : St → Prop) : runReg C r_told_4 σ K = runOps C t_told_4 (σ.kills []) K := rfl
theorem e_told_5 (C : FuncId → List AV → AV → Prop) (σ : St) (K : St → Prop) : runReg C r_told_5 σ K = runOps C t_told_5 (σ.kills []) K := rfl
theorem e_told_6 (C : FuncId → List AV → AV → Prop) (σ : St) (K : St → Prop) : runReg C r_told_6 σ K = runOps C [⟨(.faddr 1 (.t 2)), (some 39), none, [], []⟩, ⟨(.store 1 (.t 39) (.c (.bool true))), none, none, [], []⟩] (σ.kills []) K := rfl
theorem e_told_7 (C : FuncId → List AV → AV → Prop) (σ : St) (K : St → Prop) : runReg C r_told_7 σ K = runOps C t_told_7 (σ.kills [44]) K := rfl
theorem e_told_8 (C : FuncId → List AV → AV → Prop) (σ : St) (K : St → Prop) : runReg C r_told_8 σ K = runOps C t_told_8 (σ.kills []) K := rfl
theorem e_told_9 (C : FuncId → List AV → AV → Prop) (σ : St) (K : St → Prop) : runReg C r_told_9 σ K = runOps C t_told_9 (σ.kills []) K := rfl
theorem e_told_10 (C : FuncId → List AV → AV → Prop) (σ : St) (K : St → Prop) : runReg C r_told_10 σ K = runOps C [⟨(.bin .lss (.t 61) (.t 60)), (some 62), none, [], []⟩] (σ.kills []) K := rfl
theorem e_told_11 (C : FuncId → List AV → AV → Prop) (σ : St) (K : St → Prop) : runReg C r_told_11 σ K = runOps C t_told_11 (σ.kills []) K := rfl
theorem e_told_12 (C : FuncId → List AV → AV → Prop) (σ : St) (K : St → Prop) : runReg C r_told_12 σ K = runHead C [] t_told_12 h_told_12 (σ.kills [68, 69]) K := rfl
theorem e_told_13 (C : FuncId → List AV → AV → Prop) (σ : St) (K : St → Prop) : runReg C r_told_13 σ K = runOps C [⟨(.bin .add (.t 61) (.c (.int .i64 1))), (some 72), none, [], []⟩, ⟨(.mv (.t 72)), (some 61), none, [], []⟩] (σ.kills []) K := rfl
theorem e_told_15 (C : FuncId → List AV → AV → Prop) (σ : St) (K : St → Prop) : runReg C r_told_15 σ K = runOps C [⟨(.loadp 4 true (.t 2)), (some 73), none, [], []⟩, ⟨(.store 4 (.t 2) (.t 73)), none, none, [], []⟩] (σ.kills []) K := rfl
theorem fn_told {args : List AV} {r : AV} (ha : args.length.ble Tryd.f59.ntmps = true) (h : run (AFn Tryd.prog) ir_told (endQ res_told r) (initSt args)) : AFn Tryd.prog 59 args r :=
  AFn.of_code (pv := true) (hint := fun _ => []) (c := Tryd.f59.body.getD .skip) (by kernel_rfl) (by kernel_rfl) Tryd.func59 (by kernel_rfl) (by kernel_rfl) (by kernel_rfl) (of_decide_eq_true (by kernel_rfl)) (Nat.le_of_ble_eq_true ha) (Nat.le_of_ble_eq_true (by kernel_rfl)) (run_ok h)
attribute [local go_sem ↓] ir_told
attribute [local go_sem] res_told e_told_0 e_told_1 t_told_1 e_told_2 t_told_2 e_told_3 t_told_3 e_told_4 t_told_4 e_told_5 t_told_5 e_told_6 e_told_7 t_told_7 e_told_8 t_told_8 e_told_9 t_told_9 e_told_10 e_told_11 t_told_11 e_told_12 t_told_12 h_told_12 e_told_13 e_told_15
def toInv (L : List ByteArray) (k : Nat) (σ : St) : Prop :=
  ∃ (j : Nat) (u : Value), j ≤ L.length ∧ k = L.length - j ∧ σ.T 59 = .sl (L.map .str) ∧ σ.T 60 = .int .i64 L.length ∧ σ.T 61 = .int .i64 j ∧ σ.T 2 = .ptr 2 0 0 ∧ σ.H 2 = some ⟨4, 46, [.agg [.int .i64 0, .bool false, .str ⟨#[]⟩, .cst u]], 0⟩ ∧ σ.T 1203 = .vrs 519 0 j u ∧ σ.H 519 = some ⟨2, 77, (L.take j).map (fun w => (pairP w).a), 0⟩
theorem ba_of {a b : ByteArray} (h : (a.toList == b.toList) = true) : a.toList = b.toList := beq_iff_eq.1 h
set_option maxHeartbeats 2000000 in
theorem told_ok (s : ByteArray) (hs : s.size ≤ 300000) : AFn Tryd.prog 59 [.str s] (toldF s).a := by
  refine fn_told rfl ?_
  have cW := words_ok' s hs
  have hne := words_ne s
  have hlen := words_len s
  have hsm := fun j => wordsP_small s j
  have hmem := fun x => words_small (s := s) (x := x)
  unfold toldF
  generalize wordsL' s = W at *
  have hget : ∀ j, j < W.length → (W.map AV.str).getD j .und = .str (W.getD j nul) := by
    intro j hj
    rw [List.getD_eq_getElem?_getD, List.getElem?_map, List.getD_eq_getElem?_getD, List.getElem?_eq_getElem hj]; rfl
  have g0 := hget 0 (by omega)
  have n0 : (0 : Int) < (W.length : Int) := by omega
  have z0 : Int.toNat 0 = 0 := rfl
  have z1 : Int.toNat 1 = 1 := rfl
  have z2 : Int.toNat 2 = 2 := rfl
  have w1 : (errB.toList == errB.toList) = true := by decide +kernel
  have w2 : (hasB.toList == errB.toList) = false := by decide +kernel
  have w3 : (prsB.toList == errB.toList) = false := by decide +kernel
  have w4 : (prsB.toList == hasB.toList) = false := by decide +kernel
  have hE : ((W.getD 0 nul).toList == (⟨#[101, 114, 114, 111, 114]⟩ : ByteArray).toList) = ((W.getD 0 nul).toList == errB.toList) := rfl
  have hH : ((W.getD 0 nul).toList == (⟨#[104, 97, 115]⟩ : ByteArray).toList) = ((W.getD 0 nul).toList == hasB.toList) := rfl
  have hP : ((W.getD 0 nul).toList == (⟨#[112, 97, 105, 114, 115]⟩ : ByteArray).toList) = ((W.getD 0 nul).toList == prsB.toList) := rfl
  unfold toldW
  by_cases c1 : ((W.getD 0 nul).toList == errB.toList) = true ∧ W.length = 2
  · obtain ⟨h1, h2⟩ := c1
    rw [h1] at hE
    have h2' : ((W.length : Int) == 2) = true := by simp [h2]
    have g1 := hget 1 (by omega)
    have n1 : (1 : Int) < (W.length : Int) := by omega
    have s1 := hsm 1
    have c2 := undec_ok (W.getD 1 nul) (by omega)
    rw [udF_shape] at c2
    rw [if_pos ⟨h1, h2⟩]
    generalize W.getD 0 nul = a0 at *
    generalize W.getD 1 nul = a1 at *
    (repeat (first | simp (maxSteps := 4000000) only [go_sem, ↓reduceIte, reduceCtorEq, Nat.reduceEqDiff, Nat.reduceBEq, Nat.reduceAdd, Nat.reduceSub, Nat.reduceMul, Nat.reduceLT, Nat.reduceLeDiff, Nat.reduceBNe, Int.reduceBEq, Int.reduceBNe, Int.reduceLT, Int.reduceLE, Par.a, Opr.a, Ans.a, Evt.a, nul, List.length_map, List.take_length, g0, g1, n0, n1, z0, z1, hE, h2'] | refine calling (cW) ?_ | refine callingH (cW) ?_ | refine calling (c2) ?_ | refine callingH (c2) ?_ | refine And.intro (by omega) ?_ | refine And.intro (fun d hd => by (repeat (rcases hd with rfl | hd; · exact ⟨rfl, rfl⟩)); cases hd) ?_))
  rw [if_neg c1]
  by_cases c2 : ((W.getD 0 nul).toList == hasB.toList) = true ∧ W.length = 2
  · rw [if_pos c2]
    obtain ⟨h1, h2⟩ := c2
    have h1' : ((W.getD 0 nul).toList == errB.toList) = false := by rw [ba_of h1]; exact w2
    rw [h1] at hH
    rw [h1'] at hE
    have h2' : ((W.length : Int) == 2) = true := by simp [h2]
    have g1 := hget 1 (by omega)
    have n1 : (1 : Int) < (W.length : Int) := by omega
    have s1 := hsm 1
    have c2 := unq_ok (W.getD 1 nul) (by omega)
    rw [uqF_shape] at c2
    generalize W.getD 0 nul = a0 at *
    generalize W.getD 1 nul = a1 at *
    (repeat (first | simp (maxSteps := 4000000) only [go_sem, ↓reduceIte, reduceCtorEq, Nat.reduceEqDiff, Nat.reduceBEq, Nat.reduceAdd, Nat.reduceSub, Nat.reduceMul, Nat.reduceLT, Nat.reduceLeDiff, Nat.reduceBNe, Int.reduceBEq, Int.reduceBNe, Int.reduceLT, Int.reduceLE, Par.a, Opr.a, Ans.a, Evt.a, nul, List.length_map, List.take_length, g0, g1, n0, n1, z0, z1, hE, hH, h2'] | refine calling (cW) ?_ | refine callingH (cW) ?_ | refine calling (c2) ?_ | refine callingH (c2) ?_ | refine And.intro (by omega) ?_ | refine And.intro (fun d hd => by (repeat (rcases hd with rfl | hd; · exact ⟨rfl, rfl⟩)); cases hd) ?_))
  rw [if_neg c2]
  by_cases c3 : ((W.getD 0 nul).toList == prsB.toList) = true ∧ 1 < W.length
  · rw [if_pos c3]
    obtain ⟨h1, h2⟩ := c3
    have h1' : ((W.getD 0 nul).toList == errB.toList) = false := by rw [ba_of h1]; exact w3
    have h1'' : ((W.getD 0 nul).toList == hasB.toList) = false := by rw [ba_of h1]; exact w4
    rw [h1] at hP
    rw [h1'] at hE
    rw [h1''] at hH
    have n1 : (1 : Int) < (W.length : Int) := by omega
    have hL : List.take (W.length - 2) (List.drop 2 (List.map AV.str W)) = (W.drop 2).map AV.str := by
      rw [← List.map_drop, List.take_of_length_le (by rw [List.length_map, List.length_drop]; exact Nat.le_refl _)]
    have hm : ∀ w, w ∈ W.drop 2 → w.size ≤ s.size := fun w hw => hmem w (List.mem_of_mem_drop hw)
    have hLl : (W.drop 2).length = W.length - 2 := List.length_drop
    have l2 : 2 ≤ W.length := h2
    have g : (⟨0, false, nul, List.map pairP (List.drop 2 W)⟩ : Ans) = ⟨0, false, nul, List.map pairP (List.drop 2 W)⟩ := rfl
    generalize W.drop 2 = L at *
    generalize W.getD 0 nul = a0 at *
    (repeat (first | simp (maxSteps := 4000000) only [go_sem, ↓reduceIte, reduceCtorEq, Nat.reduceEqDiff, Nat.reduceBEq, Nat.reduceAdd, Nat.reduceSub, Nat.reduceMul, Nat.reduceLT, Nat.reduceLeDiff, Nat.reduceBNe, Int.reduceBEq, Int.reduceBNe, Int.reduceLT, Int.reduceLE, Par.a, Opr.a, Ans.a, Evt.a, nul, List.length_map, List.take_length, g0, n0, n1, z0, z1, z2, hE, hH, hP, hL, l2] | refine calling (cW) ?_ | refine callingH (cW) ?_ | refine And.intro (by omega) ?_ | refine And.intro (fun d hd => by (repeat (rcases hd with rfl | hd; · exact ⟨rfl, rfl⟩)); cases hd) ?_))
    refine run_loop (toInv L) (k := L.length) ⟨0, .slice none 0 0, by omega, rfl, ?_, ?_, ?_, ?_, ?_, ?_, ?_⟩ ?_
    · simp (maxSteps := 4000000) only [go_sem, ↓reduceIte, reduceCtorEq, Nat.reduceEqDiff, Nat.reduceBEq, Nat.reduceAdd, Nat.reduceSub, Nat.reduceMul, Nat.reduceLT, Nat.reduceLeDiff, Nat.reduceBNe, Int.reduceBEq, Int.reduceBNe, Int.reduceLT, Int.reduceLE, Par.a, Opr.a, Ans.a, Evt.a, nul]
    · simp (maxSteps := 4000000) only [go_sem, ↓reduceIte, reduceCtorEq, Nat.reduceEqDiff, Nat.reduceBEq, Nat.reduceAdd, Nat.reduceSub, Nat.reduceMul, Nat.reduceLT, Nat.reduceLeDiff, Nat.reduceBNe, Int.reduceBEq, Int.reduceBNe, Int.reduceLT, Int.reduceLE, Par.a, Opr.a, Ans.a, Evt.a, nul]
    · simp (maxSteps := 4000000) only [go_sem, ↓reduceIte, reduceCtorEq, Nat.reduceEqDiff, Nat.reduceBEq, Nat.reduceAdd, Nat.reduceSub, Nat.reduceMul, Nat.reduceLT, Nat.reduceLeDiff, Nat.reduceBNe, Int.reduceBEq, Int.reduceBNe, Int.reduceLT, Int.reduceLE, Par.a, Opr.a, Ans.a, Evt.a, nul]; rfl
    · simp (maxSteps := 4000000) only [go_sem, ↓reduceIte, reduceCtorEq, Nat.reduceEqDiff, Nat.reduceBEq, Nat.reduceAdd, Nat.reduceSub, Nat.reduceMul, Nat.reduceLT, Nat.reduceLeDiff, Nat.reduceBNe, Int.reduceBEq, Int.reduceBNe, Int.reduceLT, Int.reduceLE, Par.a, Opr.a, Ans.a, Evt.a, nul]
    · simp (maxSteps := 4000000) only [go_sem, ↓reduceIte, reduceCtorEq, Nat.reduceEqDiff, Nat.reduceBEq, Nat.reduceAdd, Nat.reduceSub, Nat.reduceMul, Nat.reduceLT, Nat.reduceLeDiff, Nat.reduceBNe, Int.reduceBEq, Int.reduceBNe, Int.reduceLT, Int.reduceLE, Par.a, Opr.a, Ans.a, Evt.a, nul]
    · simp (maxSteps := 4000000) only [go_sem, ↓reduceIte, reduceCtorEq, Nat.reduceEqDiff, Nat.reduceBEq, Nat.reduceAdd, Nat.reduceSub, Nat.reduceMul, Nat.reduceLT, Nat.reduceLeDiff, Nat.reduceBNe, Int.reduceBEq, Int.reduceBNe, Int.reduceLT, Int.reduceLE, Par.a, Opr.a, Ans.a, Evt.a, nul]
    · simp (maxSteps := 4000000) only [go_sem, ↓reduceIte, reduceCtorEq, Nat.reduceEqDiff, Nat.reduceBEq, Nat.reduceAdd, Nat.reduceSub, Nat.reduceMul, Nat.reduceLT, Nat.reduceLeDiff, Nat.reduceBNe, Int.reduceBEq, Int.reduceBNe, Int.reduceLT, Int.reduceLE, Par.a, Opr.a, Ans.a, Evt.a, nul]
    rintro k σ ⟨j, u, hj, rfl, t59, t60, t61, t2, h2', t1203, h519⟩
    simp only [r_told_l14]
    by_cases hlt : j < L.length
    · have hlt' : (j : Int) < (L.length : Int) := by omega
      obtain ⟨x, hx⟩ := get_lt hlt
      have hgj := at_map (f := AV.str) hx
      have hw := wrapS (j := j) (by omega)
      have cp := pair_ok x (by have := hm x (List.mem_of_getElem? hx); omega)
      have htk : (L.take (j + 1)).map (fun w => (pairP w).a) = (L.take j).map (fun w => (pairP w).a) ++ [(pairP x).a] := by
        rw [take_at hx, List.map_append]; rfl
      have hl : ((L.take j).map (fun w => (pairP w).a)).length = j := by rw [List.length_map, List.length_take]; omega
      have hpa : (pairP x).a = .agg [.str (pairP x).key, .str (pairP x).val] := rfl
      generalize pairP x = px at *
      simp only [hpa] at cp htk
      generalize (L.take j).map (fun w => (pairP w).a) = done at *
      have hd : done.take j = done := List.take_of_length_le (by omega)
      (repeat (first | simp (maxSteps := 4000000) only [go_sem, ↓reduceIte, reduceCtorEq, Nat.reduceEqDiff, Nat.reduceBEq, Nat.reduceAdd, Nat.reduceSub, Nat.reduceMul, Nat.reduceLT, Nat.reduceLeDiff, Nat.reduceBNe, Int.reduceBEq, Int.reduceBNe, Int.reduceLT, Int.reduceLE, Par.a, Opr.a, Ans.a, Evt.a, nul, List.length_map, t59, t60, t61, t2, h2', t1203, h519, hlt', hgj, Int.toNat_natCast, hw, hl] | refine calling (cp) ?_ | refine callingH (cp) ?_ | refine And.intro (by omega) ?_ | refine And.intro (fun d hd => by (repeat (rcases hd with rfl | hd; · exact ⟨rfl, rfl⟩)); cases hd) ?_))
      refine ⟨⟨by omega, fun d hd => by (repeat (rcases hd with rfl | hd; · exact ⟨rfl, rfl⟩)); cases hd⟩, ?_⟩
      intro u hu1
      refine ⟨L.length - (j + 1), by omega, j + 1, u, by omega, rfl, ?_, ?_, ?_, ?_, ?_, ?_, ?_⟩
      · simp (maxSteps := 4000000) only [go_sem, ↓reduceIte, reduceCtorEq, Nat.reduceEqDiff, Nat.reduceBEq, Nat.reduceAdd, Nat.reduceSub, Nat.reduceMul, Nat.reduceLT, Nat.reduceLeDiff, Nat.reduceBNe, Int.reduceBEq, Int.reduceBNe, Int.reduceLT, Int.reduceLE, Par.a, Opr.a, Ans.a, Evt.a, nul, t59]
      · simp (maxSteps := 4000000) only [go_sem, ↓reduceIte, reduceCtorEq, Nat.reduceEqDiff, Nat.reduceBEq, Nat.reduceAdd, Nat.reduceSub, Nat.reduceMul, Nat.reduceLT, Nat.reduceLeDiff, Nat.reduceBNe, Int.reduceBEq, Int.reduceBNe, Int.reduceLT, Int.reduceLE, Par.a, Opr.a, Ans.a, Evt.a, nul, t60]
      · simp (maxSteps := 4000000) only [go_sem, ↓reduceIte, reduceCtorEq, Nat.reduceEqDiff, Nat.reduceBEq, Nat.reduceAdd, Nat.reduceSub, Nat.reduceMul, Nat.reduceLT, Nat.reduceLeDiff, Nat.reduceBNe, Int.reduceBEq, Int.reduceBNe, Int.reduceLT, Int.reduceLE, Par.a, Opr.a, Ans.a, Evt.a, nul]
      · simp (maxSteps := 4000000) only [go_sem, ↓reduceIte, reduceCtorEq, Nat.reduceEqDiff, Nat.reduceBEq, Nat.reduceAdd, Nat.reduceSub, Nat.reduceMul, Nat.reduceLT, Nat.reduceLeDiff, Nat.reduceBNe, Int.reduceBEq, Int.reduceBNe, Int.reduceLT, Int.reduceLE, Par.a, Opr.a, Ans.a, Evt.a, nul, t2]
      · simp (maxSteps := 4000000) only [go_sem, ↓reduceIte, reduceCtorEq, Nat.reduceEqDiff, Nat.reduceBEq, Nat.reduceAdd, Nat.reduceSub, Nat.reduceMul, Nat.reduceLT, Nat.reduceLeDiff, Nat.reduceBNe, Int.reduceBEq, Int.reduceBNe, Int.reduceLT, Int.reduceLE, Par.a, Opr.a, Ans.a, Evt.a, nul]
      · simp (maxSteps := 4000000) only [go_sem, ↓reduceIte, reduceCtorEq, Nat.reduceEqDiff, Nat.reduceBEq, Nat.reduceAdd, Nat.reduceSub, Nat.reduceMul, Nat.reduceLT, Nat.reduceLeDiff, Nat.reduceBNe, Int.reduceBEq, Int.reduceBNe, Int.reduceLT, Int.reduceLE, Par.a, Opr.a, Ans.a, Evt.a, nul]
      · simp (maxSteps := 4000000) only [go_sem, ↓reduceIte, reduceCtorEq, Nat.reduceEqDiff, Nat.reduceBEq, Nat.reduceAdd, Nat.reduceSub, Nat.reduceMul, Nat.reduceLT, Nat.reduceLeDiff, Nat.reduceBNe, Int.reduceBEq, Int.reduceBNe, Int.reduceLT, Int.reduceLE, Par.a, Opr.a, Ans.a, Evt.a, nul, hd]
        exact congrArg (fun c => (⟨2, _, c, 0⟩ : Arr)) htk.symm
    · have hlt' : ¬ (j : Int) < (L.length : Int) := by omega
      obtain rfl : j = L.length := by omega
      simp (maxSteps := 4000000) only [go_sem, ↓reduceIte, reduceCtorEq, Nat.reduceEqDiff, Nat.reduceBEq, Nat.reduceAdd, Nat.reduceSub, Nat.reduceMul, Nat.reduceLT, Nat.reduceLeDiff, Nat.reduceBNe, Int.reduceBEq, Int.reduceBNe, Int.reduceLT, Int.reduceLE, Par.a, Opr.a, Ans.a, Evt.a, nul, t59, t60, t61, t2, h2', t1203, h519, hlt', List.take_length, List.map_map]
      rw [List.take_of_length_le (by rw [List.length_map]; exact Nat.le_refl _)]; rfl
  rw [if_neg c3]
  obtain ⟨x, e1, e2⟩ : ∃ x : Bool, ((W.getD 0 nul).toList == errB.toList) = x ∧ (x = true → ((W.length : Int) == 2) = false) := ⟨_, rfl, fun h => by have : W.length ≠ 2 := fun e => c1 ⟨h, e⟩; simp; omega⟩
  obtain ⟨y, f1, f2⟩ : ∃ x : Bool, ((W.getD 0 nul).toList == hasB.toList) = x ∧ (x = true → ((W.length : Int) == 2) = false) := ⟨_, rfl, fun h => by have : W.length ≠ 2 := fun e => c2 ⟨h, e⟩; simp; omega⟩
  obtain ⟨z, d1, d2⟩ : ∃ x : Bool, ((W.getD 0 nul).toList == prsB.toList) = x ∧ (x = true → ¬ (1 : Int) < (W.length : Int)) := ⟨_, rfl, fun h => by have : ¬ 1 < W.length := fun e => c3 ⟨h, e⟩; omega⟩
  rw [e1] at hE
  rw [f1] at hH
  rw [d1] at hP
  clear c1 c2 c3 e1 f1 d1
  generalize W.getD 0 nul = a0 at *
  cases x <;> cases y <;> cases z
  all_goals (repeat (first | simp (maxSteps := 4000000) only [go_sem, ↓reduceIte, reduceCtorEq, Nat.reduceEqDiff, Nat.reduceBEq, Nat.reduceAdd, Nat.reduceSub, Nat.reduceMul, Nat.reduceLT, Nat.reduceLeDiff, Nat.reduceBNe, Int.reduceBEq, Int.reduceBNe, Int.reduceLT, Int.reduceLE, Par.a, Opr.a, Ans.a, Evt.a, nul, List.length_map, List.take_length, g0, n0, z0, hE, hH, hP, e2, f2, d2] | refine calling (cW) ?_ | refine callingH (cW) ?_ | refine And.intro (by omega) ?_ | refine And.intro (fun d hd => by (repeat (rcases hd with rfl | hd; · exact ⟨rfl, rfl⟩)); cases hd) ?_))
  all_goals exact ⟨rfl, rfl, rfl, rfl⟩
end
section
/-
  An event's line, and the event that a line is: the code, walked.
-/
open Go.RowKit Go.Lib
set_option linter.unusedVariables false
set_option linter.unusedSimpArgs false
set_option maxRecDepth 100000
attribute [local go_sem ↓] runOp headOp
def shortP (p : Par) : Bool := decide (p.key.size ≤ 16) && decide (p.val.size ≤ 16)
/-- pairs behind one that was -/
def rightG : Option Par → List Par → Bool
  | _, [] => true
  | none, p :: l => shortP p && rightG (some p) l
  | some q, p :: l => shortP p && Op.bytesLess q.key.toList p.key.toList && rightG (some p) l
theorem rightG_cons : ∀ (p : Par) (l : List Par), (shortP p && rightG (some p) l) = rightP (p :: l)
  | p, [] => by simp [rightG, rightP, shortP]
  | p, q :: l => by
    have h := rightG_cons q l
    show (shortP p && (shortP q && Op.bytesLess p.key.toList q.key.toList && rightG (some q) l)) = (decide (p.key.size ≤ 16) && decide (p.val.size ≤ 16) && Op.bytesLess p.key.toList q.key.toList && rightP (q :: l))
    rw [← h]
    show _ = (shortP p && Op.bytesLess p.key.toList q.key.toList && (shortP q && rightG (some q) l))
    cases shortP p <;> cases shortP q <;> cases Op.bytesLess p.key.toList q.key.toList <;> simp
theorem rightG_none (l : List Par) : rightG none l = rightP l := by
  cases l with
  | nil => rfl
  | cons p l => exact rightG_cons p l
def prevP (l : List Par) (j : Nat) : Option Par := if j = 0 then none else l[j - 1]?
def mrInv (l : List Par) (r : Bool) (k : Nat) (σ : St) : Prop :=
  ∃ j : Nat, j ≤ l.length ∧ k = l.length - j ∧ σ.T 0 = .sl (l.map Par.a) ∧ σ.T 5 = .sl (l.map Par.a) ∧ σ.T 6 = .int .i64 l.length ∧ σ.T 7 = .int .i64 j ∧ r = rightG (prevP l j) (l.drop j)
theorem prevP_next {l : List Par} {j : Nat} {x : Par} (h : l[j]? = some x) : prevP l (j + 1) = some x := by
  unfold prevP
  rw [if_neg (by omega), Nat.add_sub_cancel, h]
theorem short_i (p : Par) : shortP p = (decide ((p.key.size : Int) ≤ 16) && decide ((p.val.size : Int) ≤ 16)) := by
  unfold shortP
  rw [decide_eq_decide.2 (show p.key.size ≤ 16 ↔ (p.key.size : Int) ≤ 16 by omega), decide_eq_decide.2 (show p.val.size ≤ 16 ↔ (p.val.size : Int) ≤ 16 by omega)]
/-- one step of it -/
theorem rightG_at {l : List Par} {j : Nat} {x : Par} (h : l[j]? = some x) :
    (j = 0 → rightG (prevP l j) (l.drop j) = (shortP x && rightG (prevP l (j + 1)) (l.drop (j + 1)))) ∧
    (∀ y, l[j - 1]? = some y → j ≠ 0 → rightG (prevP l j) (l.drop j) = (shortP x && Op.bytesLess y.key.toList x.key.toList && rightG (prevP l (j + 1)) (l.drop (j + 1)))) := by
  rw [prevP_next h, drop_at h]
  constructor
  · rintro rfl; rfl
  · intro y hy hj
    unfold prevP
    rw [if_neg hj, hy]; rfl
theorem rightG_end (l : List Par) (o : Option Par) : rightG o (l.drop l.length) = true := by
  rw [List.drop_eq_nil_of_le (Nat.le_refl _)]
  cases o <;> rfl
/-! ### percolate/model.Right -/
def r_mRight_0 : Reg := ⟨[], [⟨(.mv (.c (.bool false))), (some 2), none, [], []⟩], [], [], false⟩
def t_mRight_1 : List ROp := [⟨(.mv (.t 0)), (some 5), none, [], []⟩, ⟨(.len false (.t 5)), (some 6), none, [], []⟩, ⟨(.mv (.c (.int .i64 0))), (some 7), none, [], []⟩]
def r_mRight_1 : Reg := ⟨[], t_mRight_1, [], [], false⟩
def r_mRight_2 : Reg := ⟨[], [⟨(.bin .lss (.t 7) (.t 6)), (some 8), none, [], []⟩], [], [], false⟩
def t_mRight_3 : List ROp := [⟨(.mv (.t 7)), (some 9), none, [4], []⟩, ⟨(.iaddr 2 (.t 5) (.t 7)), (some 10), none, [4], []⟩, ⟨(.load 2 true (.t 10)), (some 11), none, [4], []⟩, ⟨(.alloc 2 77 (.agg [(.str ⟨#[]⟩), (.str ⟨#[]⟩)])), (some 4), none, [], []⟩, ⟨(.mv (.t 9)), (some 3), none, [], []⟩, ⟨(.store 2 (.t 4) (.t 11)), none, none, [], []⟩]
def r_mRight_3 : Reg := ⟨[], t_mRight_3, [4], [], false⟩
def t_mRight_4 : List ROp := [⟨(.bin .geq (.t 31) (.t 33)), (some 34), (some (25, true)), [], []⟩, ⟨(.pick (.t 25) (.t 34) (.c (.bool false))), (some 35), (some (22, false)), [], []⟩, ⟨(.pick (.t 22) (.c (.bool true)) (.t 35)), (some 36), none, [], []⟩]
def h_mRight_4 : List ROp := [⟨(.faddr 0 (.t 4)), (some 12), none, [14, 19], []⟩, ⟨(.load 1 false (.t 12)), (some 13), none, [14, 19], []⟩, ⟨(.callv (.c (.clo 99 [] [])) [(.t 13)]), (some 14), none, [19], []⟩, ⟨(.un .not (.t 14)), (some 15), none, [19], []⟩, ⟨(.mv (.t 15)), (some 16), none, [19], []⟩, ⟨(.faddr 1 (.t 4)), (some 17), (some (16, false)), [19], []⟩, ⟨(.load 1 false (.t 17)), (some 18), (some (16, false)), [19], []⟩, ⟨(.callv (.c (.clo 61 [] [])) [(.t 18)]), (some 19), (some (16, false)), [], []⟩, ⟨(.un .not (.t 19)), (some 20), (some (16, false)), [], []⟩, ⟨(.pick (.t 16) (.c (.bool true)) (.t 20)), (some 21), none, [], []⟩, ⟨(.mv (.t 21)), (some 22), none, [], []⟩, ⟨(.mv (.t 3)), (some 23), (some (22, false)), [], []⟩, ⟨(.bin .gtr (.t 23) (.c (.int .i64 0))), (some 24), (some (22, false)), [], []⟩, ⟨(.mv (.t 24)), (some 25), (some (22, false)), [], []⟩, ⟨(.mv (.t 0)), (some 26), (some (25, true)), [], []⟩, ⟨(.mv (.t 3)), (some 27), (some (25, true)), [], []⟩, ⟨(.bin .sub (.t 27) (.c (.int .i64 1))), (some 28), (some (25, true)), [], []⟩, ⟨(.iaddr 2 (.t 26) (.t 28)), (some 29), (some (25, true)), [], []⟩, ⟨(.faddr 0 (.t 29)), (some 30), (some (25, true)), [], []⟩, ⟨(.load 1 false (.t 30)), (some 31), (some (25, true)), [], []⟩, ⟨(.faddr 0 (.t 4)), (some 32), (some (25, true)), [], []⟩, ⟨(.load 1 false (.t 32)), (some 33), (some (25, true)), [], []⟩]
def r_mRight_4 : Reg := ⟨h_mRight_4, t_mRight_4, [14, 19], [], true⟩
def r_mRight_5 : Reg := ⟨[], [⟨(.mv (.c (.bool false))), (some 2), none, [], []⟩], [], [], false⟩
def r_mRight_6 : Reg := ⟨[], [⟨(.bin .add (.t 7) (.c (.int .i64 1))), (some 37), none, [], []⟩, ⟨(.mv (.t 37)), (some 7), none, [], []⟩], [], [], false⟩
def r_mRight_l7 : IR := (.seq (.reg r_mRight_2)
  (.seq (.cond (.t 8) .skip
  (.exit 0))
  (.seq (.block 1 (.seq (.reg r_mRight_3)
  (.seq (.reg r_mRight_4)
  (.cond (.t 36) (.seq (.reg r_mRight_5)
  .ret)
  .skip))))
  (.reg r_mRight_6))))
def r_mRight_8 : Reg := ⟨[], [⟨(.mv (.c (.bool true))), (some 2), none, [], []⟩], [], [], false⟩
def ir_mRight : IR := (.seq (.reg r_mRight_0)
  (.seq (.seq (.reg r_mRight_1)
  (.block 0 (.loop r_mRight_l7)))
  (.seq (.reg r_mRight_8)
  .ret)))
def res_mRight : List RDesc := [(.tmp 2)]
theorem e_mRight_0 (C : FuncId → List AV → AV → Prop) (σ : St) (K : St → Prop) : runReg C r_mRight_0 σ K = runOps C [⟨(.mv (.c (.bool false))), (some 2), none, [], []⟩] (σ.kills []) K := rfl
theorem e_mRight_1 (C : FuncId → List AV → AV → Prop) (σ : St) (K : St → Prop) : runReg C r_mRight_1 σ K = runOps C t_mRight_1 (σ.kills []) K := rfl
theorem e_mRight_2 (C : FuncId → List AV → AV → Prop) (σ : St) (K : St → Prop) : runReg C r_mRight_2 σ K = runOps C [⟨(.bin .lss (.t 7) (.t 6)), (some 8), none, [], []⟩] (σ.kills []) K := rfl
theorem e_mRight_3 (C : FuncId → List AV → AV → Prop) (σ : St) (K : St → Prop) : runReg C r_mRight_3 σ K = runOps C t_mRight_3 (σ.kills [4]) K := rfl
theorem e_mRight_4 (C : FuncId → List AV → AV → Prop) (σ : St) (K : St → Prop) : runReg C r_mRight_4 σ K = runHead C [] t_mRight_4 h_mRight_4 (σ.kills [14, 19]) K := rfl
theorem e_mRight_5 (C : FuncId → List AV → AV → Prop) (σ : St) (K : St → Prop) : runReg C r_mRight_5 σ K = runOps C [⟨(.mv (.c (.bool false))), (some 2), none, [], []⟩] (σ.kills []) K := rfl
theorem e_mRight_6 (C : FuncId → List AV → AV → Prop) (σ : St) (K : St → Prop) : runReg C r_mRight_6 σ K = runOps C [⟨(.bin .add (.t 7) (.c (.int .i64 1))), (some 37), none, [], []⟩, ⟨(.mv (.t 37)), (some 7), none, [], []⟩] (σ.kills []) K := rfl
theorem e_mRight_8 (C : FuncId → List AV → AV → Prop) (σ : St) (K : St → Prop) : runReg C r_mRight_8 σ K = runOps C [⟨(.mv (.c (.bool true))), (some 2), none, [], []⟩] (σ.kills []) K := rfl
theorem fn_mRight {args : List AV} {r : AV} (ha : args.length.ble Tryd.f60.ntmps = true) (h : run (AFn Tryd.prog) ir_mRight (endQ res_mRight r) (initSt args)) : AFn Tryd.prog 60 args r :=
  AFn.of_code (pv := false) (hint := fun _ => []) (c := Tryd.f60.body.getD .skip) (by kernel_rfl) (by kernel_rfl) Tryd.func60 (by kernel_rfl) (by kernel_rfl) (by kernel_rfl) (of_decide_eq_true (by kernel_rfl)) (Nat.le_of_ble_eq_true ha) (Nat.le_of_ble_eq_true (by kernel_rfl)) (run_ok h)
/-! ### percolate/trace.yes -/
def r_yes_0 : Reg := ⟨[], [⟨(.mv (.c (.str ⟨#[]⟩))), (some 2), none, [], []⟩], [], [], false⟩
def r_yes_1 : Reg := ⟨[], [⟨(.mv (.t 0)), (some 3), none, [], []⟩], [], [], false⟩
def r_yes_2 : Reg := ⟨[], [⟨(.mv (.c (.str ⟨#[121, 101, 115]⟩))), (some 2), none, [], []⟩], [], [], false⟩
def r_yes_3 : Reg := ⟨[], [⟨(.mv (.c (.str ⟨#[110, 111]⟩))), (some 2), none, [], []⟩], [], [], false⟩
def ir_yes : IR := (.seq (.reg r_yes_0)
  (.seq (.seq (.reg r_yes_1)
  (.cond (.t 3) (.seq (.reg r_yes_2)
  .ret)
  .skip))
  (.seq (.reg r_yes_3)
  .ret)))
def res_yes : List RDesc := [(.tmp 2)]
theorem e_yes_0 (C : FuncId → List AV → AV → Prop) (σ : St) (K : St → Prop) : runReg C r_yes_0 σ K = runOps C [⟨(.mv (.c (.str ⟨#[]⟩))), (some 2), none, [], []⟩] (σ.kills []) K := rfl
theorem e_yes_1 (C : FuncId → List AV → AV → Prop) (σ : St) (K : St → Prop) : runReg C r_yes_1 σ K = runOps C [⟨(.mv (.t 0)), (some 3), none, [], []⟩] (σ.kills []) K := rfl
theorem e_yes_2 (C : FuncId → List AV → AV → Prop) (σ : St) (K : St → Prop) : runReg C r_yes_2 σ K = runOps C [⟨(.mv (.c (.str ⟨#[121, 101, 115]⟩))), (some 2), none, [], []⟩] (σ.kills []) K := rfl
theorem e_yes_3 (C : FuncId → List AV → AV → Prop) (σ : St) (K : St → Prop) : runReg C r_yes_3 σ K = runOps C [⟨(.mv (.c (.str ⟨#[110, 111]⟩))), (some 2), none, [], []⟩] (σ.kills []) K := rfl
theorem fn_yes {args : List AV} {r : AV} (ha : args.length.ble Tryd.f53.ntmps = true) (h : run (AFn Tryd.prog) ir_yes (endQ res_yes r) (initSt args)) : AFn Tryd.prog 53 args r :=
  AFn.of_code (pv := false) (hint := fun _ => []) (c := Tryd.f53.body.getD .skip) (by kernel_rfl) (by kernel_rfl) Tryd.func53 (by kernel_rfl) (by kernel_rfl) (by kernel_rfl) (of_decide_eq_true (by kernel_rfl)) (Nat.le_of_ble_eq_true ha) (Nat.le_of_ble_eq_true (by kernel_rfl)) (run_ok h)
attribute [local go_sem ↓] ir_mRight
attribute [local go_sem] res_mRight e_mRight_0 e_mRight_1 t_mRight_1 e_mRight_2 e_mRight_3 t_mRight_3 e_mRight_4 t_mRight_4 h_mRight_4 e_mRight_5 e_mRight_6 e_mRight_8
attribute [local go_sem ↓] ir_yes
attribute [local go_sem] res_yes e_yes_0 e_yes_1 e_yes_2 e_yes_3
set_option maxHeartbeats 1000000 in
theorem mRight_ok (l : List Par) (hl : l.length ≤ 1000000000) : AFn Tryd.prog 60 [.sl (l.map Par.a)] (.bool (rightP l)) := by
  refine fn_mRight rfl ?_
  simp (maxSteps := 4000000) only [go_sem, ↓reduceIte, reduceCtorEq, Nat.reduceEqDiff, Nat.reduceBEq, Nat.reduceAdd, Nat.reduceSub, Nat.reduceMul, Nat.reduceLT, Nat.reduceLeDiff, Nat.reduceBNe, Int.reduceBEq, Int.reduceBNe, Int.reduceLT, Int.reduceLE, Par.a, Opr.a, Ans.a, Evt.a, nul]
  refine run_loop (mrInv l (rightP l)) (k := l.length) ⟨0, by omega, rfl, rfl, rfl, ?_, rfl, ?_⟩ ?_
  · simp (maxSteps := 4000000) only [go_sem, ↓reduceIte, reduceCtorEq, Nat.reduceEqDiff, Nat.reduceBEq, Nat.reduceAdd, Nat.reduceSub, Nat.reduceMul, Nat.reduceLT, Nat.reduceLeDiff, Nat.reduceBNe, Int.reduceBEq, Int.reduceBNe, Int.reduceLT, Int.reduceLE, Par.a, Opr.a, Ans.a, Evt.a, nul, List.length_map]
  · rw [← rightG_none]; rfl
  rintro k σ ⟨j, hj, rfl, t0, t5, t6, t7, hr⟩
  simp only [r_mRight_l7]
  generalize hR : rightP l = R at *
  by_cases hlt : j < l.length
  · have hlt' : (j : Int) < (l.length : Int) := by omega
    obtain ⟨x, hx⟩ := get_lt hlt
    have hgj := at_map (f := Par.a) hx
    simp only [Par.a] at hgj
    have hw := wrapS (j := j) (by omega)
    have ck := keyR_ok x.key
    have cv := valR_ok x.val
    obtain ⟨q1, q2⟩ := rightG_at hx
    rw [short_i] at q1 q2
    generalize decide ((x.key.size : Int) ≤ 16) = bk at *
    generalize decide ((x.val.size : Int) ≤ 16) = bv at *
    by_cases h0 : j = 0
    · rw [q1 h0] at hr
      have hp : ¬ (0 : Int) < (j : Int) := by omega
      cases bk <;> cases bv
      case true.true =>
        (repeat (first | simp (maxSteps := 4000000) only [go_sem, ↓reduceIte, reduceCtorEq, Nat.reduceEqDiff, Nat.reduceBEq, Nat.reduceAdd, Nat.reduceSub, Nat.reduceMul, Nat.reduceLT, Nat.reduceLeDiff, Nat.reduceBNe, Int.reduceBEq, Int.reduceBNe, Int.reduceLT, Int.reduceLE, Par.a, Opr.a, Ans.a, Evt.a, nul, t0, t5, t6, t7, hlt', hgj, hp, List.length_map, Int.toNat_natCast, hw] | refine calling (ck) ?_ | refine callingH (ck) ?_ | refine calling (cv) ?_ | refine callingH (cv) ?_ | refine And.intro (by omega) ?_ | refine And.intro (fun d hd => by (repeat (rcases hd with rfl | hd; · exact ⟨rfl, rfl⟩)); cases hd) ?_))
        refine ⟨l.length - (j + 1), by omega, j + 1, by omega, rfl, ?_, ?_, ?_, ?_, by rw [hr]; simp⟩
        · simp (maxSteps := 4000000) only [go_sem, ↓reduceIte, reduceCtorEq, Nat.reduceEqDiff, Nat.reduceBEq, Nat.reduceAdd, Nat.reduceSub, Nat.reduceMul, Nat.reduceLT, Nat.reduceLeDiff, Nat.reduceBNe, Int.reduceBEq, Int.reduceBNe, Int.reduceLT, Int.reduceLE, Par.a, Opr.a, Ans.a, Evt.a, nul, t0]
        · simp (maxSteps := 4000000) only [go_sem, ↓reduceIte, reduceCtorEq, Nat.reduceEqDiff, Nat.reduceBEq, Nat.reduceAdd, Nat.reduceSub, Nat.reduceMul, Nat.reduceLT, Nat.reduceLeDiff, Nat.reduceBNe, Int.reduceBEq, Int.reduceBNe, Int.reduceLT, Int.reduceLE, Par.a, Opr.a, Ans.a, Evt.a, nul, t5]
        · simp (maxSteps := 4000000) only [go_sem, ↓reduceIte, reduceCtorEq, Nat.reduceEqDiff, Nat.reduceBEq, Nat.reduceAdd, Nat.reduceSub, Nat.reduceMul, Nat.reduceLT, Nat.reduceLeDiff, Nat.reduceBNe, Int.reduceBEq, Int.reduceBNe, Int.reduceLT, Int.reduceLE, Par.a, Opr.a, Ans.a, Evt.a, nul, t6]
        · simp (maxSteps := 4000000) only [go_sem, ↓reduceIte, reduceCtorEq, Nat.reduceEqDiff, Nat.reduceBEq, Nat.reduceAdd, Nat.reduceSub, Nat.reduceMul, Nat.reduceLT, Nat.reduceLeDiff, Nat.reduceBNe, Int.reduceBEq, Int.reduceBNe, Int.reduceLT, Int.reduceLE, Par.a, Opr.a, Ans.a, Evt.a, nul, hw]
      all_goals (repeat (first | simp (maxSteps := 4000000) only [go_sem, ↓reduceIte, reduceCtorEq, Nat.reduceEqDiff, Nat.reduceBEq, Nat.reduceAdd, Nat.reduceSub, Nat.reduceMul, Nat.reduceLT, Nat.reduceLeDiff, Nat.reduceBNe, Int.reduceBEq, Int.reduceBNe, Int.reduceLT, Int.reduceLE, Par.a, Opr.a, Ans.a, Evt.a, nul, t0, t5, t6, t7, hlt', hgj, hp, List.length_map, Int.toNat_natCast, hw] | refine calling (ck) ?_ | refine callingH (ck) ?_ | refine calling (cv) ?_ | refine callingH (cv) ?_ | refine And.intro (by omega) ?_ | refine And.intro (fun d hd => by (repeat (rcases hd with rfl | hd; · exact ⟨rfl, rfl⟩)); cases hd) ?_))
      all_goals rw [hr]; rfl
    · obtain ⟨y, hy⟩ := get_lt (l := l) (j := j - 1) (by omega)
      have hgy := at_map (f := Par.a) hy
      simp only [Par.a] at hgy
      have hp : (0 : Int) < (j : Int) := by omega
      have hm : IntKind.i64.wrap ((j : Int) - 1) = ((j - 1 : Nat) : Int) := by rw [IntWalk.i64_in _ (by omega)]; omega
      have hy' : ((j - 1 : Nat) : Int) < (l.length : Int) := by omega
      rw [q2 y hy h0] at hr
      generalize hB : Op.bytesLess y.key.toList x.key.toList = b at *
      cases bk <;> cases bv <;> cases b
      case true.true.true =>
        (repeat (first | simp (maxSteps := 4000000) only [go_sem, ↓reduceIte, reduceCtorEq, Nat.reduceEqDiff, Nat.reduceBEq, Nat.reduceAdd, Nat.reduceSub, Nat.reduceMul, Nat.reduceLT, Nat.reduceLeDiff, Nat.reduceBNe, Int.reduceBEq, Int.reduceBNe, Int.reduceLT, Int.reduceLE, Par.a, Opr.a, Ans.a, Evt.a, nul, t0, t5, t6, t7, hlt', hgj, hgy, hp, hm, hy', hB, List.length_map, Int.toNat_natCast, hw] | refine calling (ck) ?_ | refine callingH (ck) ?_ | refine calling (cv) ?_ | refine callingH (cv) ?_ | refine And.intro (by omega) ?_ | refine And.intro (fun d hd => by (repeat (rcases hd with rfl | hd; · exact ⟨rfl, rfl⟩)); cases hd) ?_))
        refine ⟨l.length - (j + 1), by omega, j + 1, by omega, rfl, ?_, ?_, ?_, ?_, by rw [hr]; simp⟩
        · simp (maxSteps := 4000000) only [go_sem, ↓reduceIte, reduceCtorEq, Nat.reduceEqDiff, Nat.reduceBEq, Nat.reduceAdd, Nat.reduceSub, Nat.reduceMul, Nat.reduceLT, Nat.reduceLeDiff, Nat.reduceBNe, Int.reduceBEq, Int.reduceBNe, Int.reduceLT, Int.reduceLE, Par.a, Opr.a, Ans.a, Evt.a, nul, t0]
        · simp (maxSteps := 4000000) only [go_sem, ↓reduceIte, reduceCtorEq, Nat.reduceEqDiff, Nat.reduceBEq, Nat.reduceAdd, Nat.reduceSub, Nat.reduceMul, Nat.reduceLT, Nat.reduceLeDiff, Nat.reduceBNe, Int.reduceBEq, Int.reduceBNe, Int.reduceLT, Int.reduceLE, Par.a, Opr.a, Ans.a, Evt.a, nul, t5]
        · simp (maxSteps := 4000000) only [go_sem, ↓reduceIte, reduceCtorEq, Nat.reduceEqDiff, Nat.reduceBEq, Nat.reduceAdd, Nat.reduceSub, Nat.reduceMul, Nat.reduceLT, Nat.reduceLeDiff, Nat.reduceBNe, Int.reduceBEq, Int.reduceBNe, Int.reduceLT, Int.reduceLE, Par.a, Opr.a, Ans.a, Evt.a, nul, t6]
        · simp (maxSteps := 4000000) only [go_sem, ↓reduceIte, reduceCtorEq, Nat.reduceEqDiff, Nat.reduceBEq, Nat.reduceAdd, Nat.reduceSub, Nat.reduceMul, Nat.reduceLT, Nat.reduceLeDiff, Nat.reduceBNe, Int.reduceBEq, Int.reduceBNe, Int.reduceLT, Int.reduceLE, Par.a, Opr.a, Ans.a, Evt.a, nul, hw]
      all_goals (repeat (first | simp (maxSteps := 4000000) only [go_sem, ↓reduceIte, reduceCtorEq, Nat.reduceEqDiff, Nat.reduceBEq, Nat.reduceAdd, Nat.reduceSub, Nat.reduceMul, Nat.reduceLT, Nat.reduceLeDiff, Nat.reduceBNe, Int.reduceBEq, Int.reduceBNe, Int.reduceLT, Int.reduceLE, Par.a, Opr.a, Ans.a, Evt.a, nul, t0, t5, t6, t7, hlt', hgj, hgy, hp, hm, hy', hB, List.length_map, Int.toNat_natCast, hw] | refine calling (ck) ?_ | refine callingH (ck) ?_ | refine calling (cv) ?_ | refine callingH (cv) ?_ | refine And.intro (by omega) ?_ | refine And.intro (fun d hd => by (repeat (rcases hd with rfl | hd; · exact ⟨rfl, rfl⟩)); cases hd) ?_))
      all_goals rw [hr]; rfl
  · have hlt' : ¬ (j : Int) < (l.length : Int) := by omega
    obtain rfl : j = l.length := by omega
    simp (maxSteps := 4000000) only [go_sem, ↓reduceIte, reduceCtorEq, Nat.reduceEqDiff, Nat.reduceBEq, Nat.reduceAdd, Nat.reduceSub, Nat.reduceMul, Nat.reduceLT, Nat.reduceLeDiff, Nat.reduceBNe, Int.reduceBEq, Int.reduceBNe, Int.reduceLT, Int.reduceLE, Par.a, Opr.a, Ans.a, Evt.a, nul, t0, t5, t6, t7, hlt']
    rw [hr, rightG_end]
theorem yes_ok (b : Bool) : AFn Tryd.prog 53 [.bool b] (.str (if b then yesB else noB)) := by
  refine fn_yes rfl ?_
  cases b <;> simp (maxSteps := 4000000) only [go_sem, ↓reduceIte, reduceCtorEq, Nat.reduceEqDiff, Nat.reduceBEq, Nat.reduceAdd, Nat.reduceSub, Nat.reduceMul, Nat.reduceLT, Nat.reduceLeDiff, Nat.reduceBNe, Int.reduceBEq, Int.reduceBNe, Int.reduceLT, Int.reduceLE, Par.a, Opr.a, Ans.a, Evt.a, nul]
  all_goals rfl
end
section
/-
  An event's line, and the event that a line is: the code, walked (second part).
-/
open Go.RowKit Go.Lib
set_option linter.unusedVariables false
set_option linter.unusedSimpArgs false
set_option maxRecDepth 100000
attribute [local go_sem ↓] runOp headOp
/-- an event whose parts are not too long -/
structure FitE (e : Evt) : Prop where
  c : inI e.client
  b : inI e.began
  p : inI e.point
  n : inI e.ended
  k : e.op.key.size ≤ 1000000
  h : e.op.hi.size ≤ 1000000
  r : inI e.ans.err
  v : e.ans.val.size ≤ 1000000
  s : sumN Par.bulk e.ans.prs ≤ 1000000
theorem tailL_size (e : Evt) (h : FitE e) : (tailL e).size ≤ 5000000 := by
  unfold tailL
  split
  · exact ansL_size _ _ h.r h.v h.s
  · have : dashB.size = 1 := rfl
    omega
theorem evW_size (e : Evt) (h : FitE e) : ∀ x, x ∈ headW e ++ [colB, lineX e.op, colB, tailL e] → x.size + 1 ≤ 10000000 := by
  have d1 := decS_small e.client h.c.1 h.c.2
  have d2 := decS_small e.began h.b.1 h.b.2
  have d3 := decS_small e.point h.p.1 h.p.2
  have d4 := decS_small e.ended h.n.1 h.n.2
  have d5 := lineX_size e.op
  have d6 := tailL_size e h
  have d7 : (if e.done then yesB else noB).size ≤ 3 := by cases e.done <;> decide
  have d8 : colB.size = 1 := rfl
  intro x hx
  simp only [headW, List.cons_append, List.nil_append, List.mem_cons, List.not_mem_nil, or_false] at hx
  rcases hx with rfl | rfl | rfl | rfl | rfl | rfl | rfl | rfl | rfl <;> omega
/-! ### percolate/trace.Event -/
def r_tEvent_0 : Reg := ⟨[], [⟨(.box 15 48 (.t 0)), (some 1), none, [], []⟩, ⟨(.mv (.c (.str ⟨#[]⟩))), (some 2), none, [], []⟩], [1], [], false⟩
def r_tEvent_1 : Reg := ⟨[], [⟨(.mv (.c (.str ⟨#[45]⟩))), (some 3), none, [], []⟩], [], [], false⟩
def r_tEvent_2 : Reg := ⟨[], [⟨(.faddr 14 (.t 1)), (some 4), none, [], []⟩, ⟨(.load 1 false (.t 4)), (some 5), none, [], []⟩], [], [], false⟩
def t_tEvent_3 : List ROp := [⟨(.faddr 1 (.t 1)), (some 6), none, [10], []⟩, ⟨(.load 6 true (.t 6)), (some 7), none, [10], []⟩, ⟨(.faddr 7 (.t 1)), (some 8), none, [10], []⟩, ⟨(.load 4 true (.t 8)), (some 9), none, [10], []⟩, ⟨(.callv (.c (.clo 51 [] [])) [(.t 7), (.t 9)]), (some 10), none, [], []⟩, ⟨(.mv (.t 10)), (some 3), none, [], []⟩]
def r_tEvent_3 : Reg := ⟨[], t_tEvent_3, [10], [], false⟩
def t_tEvent_4 : List ROp := [⟨(.bsl 1 9 [(.t 13), (.t 16), (.t 19), (.t 22), (.t 25), (.c (.str ⟨#[58]⟩)), (.t 28), (.c (.str ⟨#[58]⟩)), (.t 29)]), (some 30), none, [31], []⟩, ⟨(.callv (.c (.clo 52 [] [])) [(.t 30)]), (some 31), none, [], []⟩, ⟨(.mv (.t 31)), (some 2), none, [], []⟩]
def h_tEvent_4 : List ROp := [⟨(.faddr 0 (.t 1)), (some 11), none, [13, 16, 19, 22, 25, 28, 30, 31], []⟩, ⟨(.load 1 false (.t 11)), (some 12), none, [13, 16, 19, 22, 25, 28, 30, 31], []⟩, ⟨(.callv (.c (.clo 46 [] [])) [(.t 12)]), (some 13), none, [16, 19, 22, 25, 28, 30, 31], []⟩, ⟨(.faddr 11 (.t 1)), (some 14), none, [13, 16, 19, 22, 25, 28, 30, 31], []⟩, ⟨(.load 1 false (.t 14)), (some 15), none, [13, 16, 19, 22, 25, 28, 30, 31], []⟩, ⟨(.callv (.c (.clo 46 [] [])) [(.t 15)]), (some 16), none, [19, 22, 25, 28, 30, 31], []⟩, ⟨(.faddr 12 (.t 1)), (some 17), none, [13, 16, 19, 22, 25, 28, 30, 31], []⟩, ⟨(.load 1 false (.t 17)), (some 18), none, [13, 16, 19, 22, 25, 28, 30, 31], []⟩, ⟨(.callv (.c (.clo 46 [] [])) [(.t 18)]), (some 19), none, [22, 25, 28, 30, 31], []⟩, ⟨(.faddr 13 (.t 1)), (some 20), none, [13, 16, 19, 22, 25, 28, 30, 31], []⟩, ⟨(.load 1 false (.t 20)), (some 21), none, [13, 16, 19, 22, 25, 28, 30, 31], []⟩, ⟨(.callv (.c (.clo 46 [] [])) [(.t 21)]), (some 22), none, [25, 28, 30, 31], []⟩, ⟨(.faddr 14 (.t 1)), (some 23), none, [13, 16, 19, 22, 25, 28, 30, 31], []⟩, ⟨(.load 1 false (.t 23)), (some 24), none, [13, 16, 19, 22, 25, 28, 30, 31], []⟩, ⟨(.callv (.c (.clo 53 [] [])) [(.t 24)]), (some 25), none, [28, 30, 31], []⟩, ⟨(.faddr 1 (.t 1)), (some 26), none, [13, 16, 19, 22, 25, 28, 30, 31], []⟩, ⟨(.load 6 true (.t 26)), (some 27), none, [13, 16, 19, 22, 25, 28, 30, 31], []⟩, ⟨(.callv (.c (.clo 54 [] [])) [(.t 27)]), (some 28), none, [30, 31], []⟩, ⟨(.mv (.t 3)), (some 29), none, [13, 16, 19, 22, 25, 28, 30, 31], []⟩]
def r_tEvent_4 : Reg := ⟨h_tEvent_4, t_tEvent_4, [13, 16, 19, 22, 25, 28, 30, 31], [], true⟩
def ir_tEvent : IR := (.seq (.reg r_tEvent_0)
  (.seq (.reg r_tEvent_1)
  (.seq (.seq (.reg r_tEvent_2)
  (.cond (.t 5) (.reg r_tEvent_3)
  .skip))
  (.seq (.reg r_tEvent_4)
  .ret))))
def res_tEvent : List RDesc := [(.tmp 2)]
theorem e_tEvent_0 (C : FuncId → List AV → AV → Prop) (σ : St) (K : St → Prop) : runReg C r_tEvent_0 σ K = runOps C [⟨(.box 15 48 (.t 0)), (some 1), none, [], []⟩, ⟨(.mv (.c (.str ⟨#[]⟩))), (some 2), none, [], []⟩] (σ.kills [1]) K := rfl
theorem e_tEvent_1 (C : FuncId → List AV → AV → Prop) (σ : St) (K : St → Prop) : runReg C r_tEvent_1 σ K = runOps C [⟨(.mv (.c (.str ⟨#[45]⟩))), (some 3), none, [], []⟩] (σ.kills []) K := rfl
theorem e_tEvent_2 (C : FuncId → List AV → AV → Prop) (σ : St) (K : St → Prop) : runReg C r_tEvent_2 σ K = runOps C [⟨(.faddr 14 (.t 1)), (some 4), none, [], []⟩, ⟨(.load 1 false (.t 4)), (some 5), none, [], []⟩] (σ.kills []) K := rfl
theorem e_tEvent_3 (C : FuncId → List AV → AV → Prop) (σ : St) (K : St → Prop) : runReg C r_tEvent_3 σ K = runOps C t_tEvent_3 (σ.kills [10]) K := rfl
theorem e_tEvent_4 (C : FuncId → List AV → AV → Prop) (σ : St) (K : St → Prop) : runReg C r_tEvent_4 σ K = runHead C [] t_tEvent_4 h_tEvent_4 (σ.kills [13, 16, 19, 22, 25, 28, 30, 31]) K := rfl
theorem fn_tEvent {args : List AV} {r : AV} (ha : args.length.ble Tryd.f21.ntmps = true) (h : run (AFn Tryd.prog) ir_tEvent (endQ res_tEvent r) (initSt args)) : AFn Tryd.prog 21 args r :=
  AFn.of_code (pv := false) (hint := fun _ => []) (c := Tryd.f21.body.getD .skip) (by kernel_rfl) (by kernel_rfl) Tryd.func21 (by kernel_rfl) (by kernel_rfl) (by kernel_rfl) (of_decide_eq_true (by kernel_rfl)) (Nat.le_of_ble_eq_true ha) (Nat.le_of_ble_eq_true (by kernel_rfl)) (run_ok h)
attribute [local go_sem ↓] ir_tEvent
attribute [local go_sem] res_tEvent e_tEvent_0 e_tEvent_1 e_tEvent_2 e_tEvent_3 t_tEvent_3 e_tEvent_4 t_tEvent_4 h_tEvent_4
set_option maxHeartbeats 1000000 in
theorem tEvent_ok (e : Evt) (h : FitE e) : AFn Tryd.prog 21 [e.a] (.str (evF e)) := by
  refine fn_tEvent rfl ?_
  have cl := tLine_ok (headW e ++ [colB, lineX e.op, colB, tailL e]) 10000000 (by simp [headW]) (by omega) (evW_size e h)
  have e0 : joinB (headW e ++ [colB, lineX e.op, colB, tailL e]) (⟨#[32]⟩ : ByteArray) = evF e := rfl
  rw [e0] at cl
  generalize evF e = R at *
  obtain ⟨hc, hb, hp, hn, hk, hh, hr, hv, hs⟩ := h
  have c1 := dec_ok e.client hc
  have c2 := dec_ok e.began hb
  have c3 := dec_ok e.point hp
  have c4 := dec_ok e.ended hn
  have c5 := oLineX e.op (by omega)
  have c6 := aLine_ok e.op e.ans hr hv hs
  have c7 := yes_ok e.done
  obtain ⟨client, op, ans, began, point, ended, done⟩ := e
  obtain ⟨kind, key, hi, opn, val, lim⟩ := op
  obtain ⟨err, has, v, prs⟩ := ans
  simp only [headW, tailL, List.cons_append, List.nil_append] at cl c1 c2 c3 c4 c5 c6 c7
  cases done
  · simp only [Bool.false_eq_true, if_false] at cl c7
    (repeat (first | simp (maxSteps := 4000000) only [go_sem, ↓reduceIte, reduceCtorEq, Nat.reduceEqDiff, Nat.reduceBEq, Nat.reduceAdd, Nat.reduceSub, Nat.reduceMul, Nat.reduceLT, Nat.reduceLeDiff, Nat.reduceBNe, Int.reduceBEq, Int.reduceBNe, Int.reduceLT, Int.reduceLE, Par.a, Opr.a, Ans.a, Evt.a, nul] | refine calling (c1) ?_ | refine callingH (c1) ?_ | refine calling (c2) ?_ | refine callingH (c2) ?_ | refine calling (c3) ?_ | refine callingH (c3) ?_ | refine calling (c4) ?_ | refine callingH (c4) ?_ | refine calling (c5) ?_ | refine callingH (c5) ?_ | refine calling (c7) ?_ | refine callingH (c7) ?_ | refine calling (cl) ?_ | refine callingH (cl) ?_ | refine And.intro (by omega) ?_ | refine And.intro (fun d hd => by (repeat (rcases hd with rfl | hd; · exact ⟨rfl, rfl⟩)); cases hd) ?_))
  · simp only [if_true] at cl c7
    (repeat (first | simp (maxSteps := 4000000) only [go_sem, ↓reduceIte, reduceCtorEq, Nat.reduceEqDiff, Nat.reduceBEq, Nat.reduceAdd, Nat.reduceSub, Nat.reduceMul, Nat.reduceLT, Nat.reduceLeDiff, Nat.reduceBNe, Int.reduceBEq, Int.reduceBNe, Int.reduceLT, Int.reduceLE, Par.a, Opr.a, Ans.a, Evt.a, nul] | refine calling (c6) ?_ | refine callingH (c6) ?_ | refine calling (c1) ?_ | refine callingH (c1) ?_ | refine calling (c2) ?_ | refine callingH (c2) ?_ | refine calling (c3) ?_ | refine callingH (c3) ?_ | refine calling (c4) ?_ | refine callingH (c4) ?_ | refine calling (c5) ?_ | refine callingH (c5) ?_ | refine calling (c7) ?_ | refine callingH (c7) ?_ | refine calling (cl) ?_ | refine callingH (cl) ?_ | refine And.intro (by omega) ?_ | refine And.intro (fun d hd => by (repeat (rcases hd with rfl | hd; · exact ⟨rfl, rfl⟩)); cases hd) ?_))
theorem splitB_small (sep : ByteArray) (save : Nat) : ∀ (k : Nat) (s x : ByteArray), x ∈ splitB sep save k s → x.size ≤ s.size
  | 0, s, x, h => by rw [splitB_zero, List.mem_singleton] at h; rw [h]; exact Nat.le_refl _
  | k + 1, s, x, h => by
    rw [splitB] at h
    split at h
    · rw [List.mem_singleton] at h; rw [h]; exact Nat.le_refl _
    · rcases List.mem_cons.1 h with rfl | h
      · rw [ByteArray.size_extract]; omega
      · have := splitB_small sep save k _ x h
        rw [ByteArray.size_extract] at this; omega
theorem split3_small {s x : ByteArray} (h : x ∈ splitL s sep3) : x.size ≤ s.size := splitB_small _ _ _ _ _ h
theorem split3_len (s : ByteArray) : (splitL s sep3).length ≤ s.size + 1 := by
  unfold splitL
  rw [splitB_all sep3 (by decide) 0 _ s rfl]
  have := countB_le sep3 (by decide) s.size s (Nat.le_refl _)
  omega
/-! ### percolate/trace.Parse -/
def t_tParse_0 : List ROp := [⟨(.alloc 15 48 (.agg [(.int .i64 0), (.int .i64 0), (.str ⟨#[]⟩), (.str ⟨#[]⟩), (.bool false), (.str ⟨#[]⟩), (.int .i64 0), (.int .i64 0), (.bool false), (.str ⟨#[]⟩), (.sl []), (.int .i64 0), (.int .i64 0), (.int .i64 0), (.bool false)])), (some 2), none, [], []⟩, ⟨(.mv (.c (.bool false))), (some 3), none, [], []⟩]
def r_tParse_0 : Reg := ⟨[], t_tParse_0, [2], [], false⟩
def t_tParse_1 : List ROp := [⟨(.mv (.t 0)), (some 7), none, [8], []⟩, ⟨(.callv (.c (.clo 55 [] [])) [(.t 7), (.c (.str ⟨#[32, 58, 32]⟩))]), (some 8), none, [], []⟩, ⟨(.mv (.t 8)), (some 4), none, [], []⟩]
def r_tParse_1 : Reg := ⟨[], t_tParse_1, [8], [], false⟩
def t_tParse_2 : List ROp := [⟨(.mv (.t 4)), (some 9), none, [], []⟩, ⟨(.len false (.t 9)), (some 10), none, [], []⟩, ⟨(.bin .neq (.t 10) (.c (.int .i64 3))), (some 11), none, [], []⟩]
def r_tParse_2 : Reg := ⟨[], t_tParse_2, [], [], false⟩
def t_tParse_3 : List ROp := [⟨(.bld [(.int .i64 0), (.int .i64 0), (.str ⟨#[]⟩), (.str ⟨#[]⟩), (.bool false), (.str ⟨#[]⟩), (.int .i64 0), (.int .i64 0), (.bool false), (.str ⟨#[]⟩), (.sl []), (.int .i64 0), (.int .i64 0), (.int .i64 0), (.bool false)] []), (some 12), none, [], []⟩, ⟨(.store 15 (.t 2) (.t 12)), none, none, [], []⟩, ⟨(.mv (.c (.bool false))), (some 3), none, [], []⟩]
def r_tParse_3 : Reg := ⟨[], t_tParse_3, [], [], false⟩
def t_tParse_4 : List ROp := [⟨(.mv (.t 4)), (some 13), none, [16, 17], []⟩, ⟨(.iaddr 1 (.t 13) (.c (.int .i64 0))), (some 14), none, [16, 17], []⟩, ⟨(.load 1 false (.t 14)), (some 15), none, [16, 17], []⟩, ⟨(.callv (.c (.clo 56 [] [])) [(.t 15)]), (some 16), none, [17], []⟩, ⟨(.bsl 1 9 [(.c (.str ⟨#[]⟩)), (.c (.str ⟨#[]⟩)), (.c (.str ⟨#[]⟩)), (.c (.str ⟨#[]⟩)), (.c (.str ⟨#[]⟩))]), (some 17), none, [], []⟩, ⟨(.append 1 9 16 (.t 16) (.t 17)), (some 18), none, [], []⟩, ⟨(.mv (.t 18)), (some 5), none, [], []⟩]
def r_tParse_4 : Reg := ⟨[], t_tParse_4, [16, 17], [], false⟩
def t_tParse_5 : List ROp := [⟨(.alloc 15 48 (.agg [(.int .i64 0), (.int .i64 0), (.str ⟨#[]⟩), (.str ⟨#[]⟩), (.bool false), (.str ⟨#[]⟩), (.int .i64 0), (.int .i64 0), (.bool false), (.str ⟨#[]⟩), (.sl []), (.int .i64 0), (.int .i64 0), (.int .i64 0), (.bool false)])), (some 6), none, [], []⟩]
def r_tParse_5 : Reg := ⟨[], t_tParse_5, [6], [], false⟩
def t_tParse_6 : List ROp := [⟨(.mv (.t 5)), (some 20), none, [23], []⟩, ⟨(.iaddr 1 (.t 20) (.c (.int .i64 0))), (some 21), none, [23], []⟩, ⟨(.load 1 false (.t 21)), (some 22), none, [23], []⟩, ⟨(.callv (.c (.clo 57 [] [])) [(.t 22)]), (some 23), none, [], []⟩, ⟨(.mv (.t 23)), (some 19), none, [], []⟩, ⟨(.ext 0 (.t 19)), (some 24), none, [], []⟩, ⟨(.ext 1 (.t 19)), (some 25), none, [], []⟩, ⟨(.faddr 0 (.t 6)), (some 26), none, [], []⟩, ⟨(.store 1 (.t 26) (.t 24)), none, none, [], []⟩]
def r_tParse_6 : Reg := ⟨[], t_tParse_6, [23], [], false⟩
def t_tParse_7 : List ROp := [⟨(.mv (.t 5)), (some 28), none, [31], []⟩, ⟨(.iaddr 1 (.t 28) (.c (.int .i64 1))), (some 29), none, [31], []⟩, ⟨(.load 1 false (.t 29)), (some 30), none, [31], []⟩, ⟨(.callv (.c (.clo 57 [] [])) [(.t 30)]), (some 31), none, [], []⟩, ⟨(.mv (.t 31)), (some 27), none, [], []⟩, ⟨(.ext 0 (.t 27)), (some 32), none, [], []⟩, ⟨(.ext 1 (.t 27)), (some 33), none, [], []⟩, ⟨(.faddr 11 (.t 6)), (some 34), none, [], []⟩, ⟨(.store 1 (.t 34) (.t 32)), none, none, [], []⟩]
def r_tParse_7 : Reg := ⟨[], t_tParse_7, [31], [], false⟩
def t_tParse_8 : List ROp := [⟨(.mv (.t 5)), (some 36), none, [39], []⟩, ⟨(.iaddr 1 (.t 36) (.c (.int .i64 2))), (some 37), none, [39], []⟩, ⟨(.load 1 false (.t 37)), (some 38), none, [39], []⟩, ⟨(.callv (.c (.clo 57 [] [])) [(.t 38)]), (some 39), none, [], []⟩, ⟨(.mv (.t 39)), (some 35), none, [], []⟩, ⟨(.ext 0 (.t 35)), (some 40), none, [], []⟩, ⟨(.ext 1 (.t 35)), (some 41), none, [], []⟩, ⟨(.faddr 12 (.t 6)), (some 42), none, [], []⟩, ⟨(.store 1 (.t 42) (.t 40)), none, none, [], []⟩]
def r_tParse_8 : Reg := ⟨[], t_tParse_8, [39], [], false⟩
def t_tParse_9 : List ROp := [⟨(.mv (.t 5)), (some 44), none, [47], []⟩, ⟨(.iaddr 1 (.t 44) (.c (.int .i64 3))), (some 45), none, [47], []⟩, ⟨(.load 1 false (.t 45)), (some 46), none, [47], []⟩, ⟨(.callv (.c (.clo 57 [] [])) [(.t 46)]), (some 47), none, [], []⟩, ⟨(.mv (.t 47)), (some 43), none, [], []⟩, ⟨(.ext 0 (.t 43)), (some 48), none, [], []⟩, ⟨(.ext 1 (.t 43)), (some 49), none, [], []⟩, ⟨(.faddr 13 (.t 6)), (some 50), none, [], []⟩, ⟨(.store 1 (.t 50) (.t 48)), none, none, [], []⟩]
def r_tParse_9 : Reg := ⟨[], t_tParse_9, [47], [], false⟩
def t_tParse_10 : List ROp := [⟨(.mv (.t 5)), (some 51), none, [], []⟩, ⟨(.iaddr 1 (.t 51) (.c (.int .i64 4))), (some 52), none, [], []⟩, ⟨(.load 1 false (.t 52)), (some 53), none, [], []⟩, ⟨(.bin .eql (.t 53) (.c (.str ⟨#[121, 101, 115]⟩))), (some 54), none, [], []⟩, ⟨(.faddr 14 (.t 6)), (some 55), none, [], []⟩, ⟨(.store 1 (.t 55) (.t 54)), none, none, [], []⟩]
def r_tParse_10 : Reg := ⟨[], t_tParse_10, [], [], false⟩
def t_tParse_11 : List ROp := [⟨(.mv (.t 4)), (some 57), none, [60], []⟩, ⟨(.iaddr 1 (.t 57) (.c (.int .i64 1))), (some 58), none, [60], []⟩, ⟨(.load 1 false (.t 58)), (some 59), none, [60], []⟩, ⟨(.callv (.c (.clo 58 [] [])) [(.t 59)]), (some 60), none, [], []⟩, ⟨(.mv (.t 60)), (some 56), none, [], []⟩, ⟨(.ext 0 (.t 56)), (some 61), none, [], []⟩, ⟨(.ext 1 (.t 56)), (some 62), none, [], []⟩, ⟨(.faddr 1 (.t 6)), (some 63), none, [], []⟩, ⟨(.store 6 (.t 63) (.t 61)), none, none, [], []⟩]
def r_tParse_11 : Reg := ⟨[], t_tParse_11, [60], [], false⟩
def r_tParse_12 : Reg := ⟨[], [⟨(.faddr 14 (.t 6)), (some 64), none, [], []⟩, ⟨(.load 1 false (.t 64)), (some 65), none, [], []⟩], [], [], false⟩
def t_tParse_13 : List ROp := [⟨(.mv (.t 4)), (some 66), none, [69], []⟩, ⟨(.iaddr 1 (.t 66) (.c (.int .i64 2))), (some 67), none, [69], []⟩, ⟨(.load 1 false (.t 67)), (some 68), none, [69], []⟩, ⟨(.callv (.c (.clo 59 [] [])) [(.t 68)]), (some 69), none, [], []⟩, ⟨(.faddr 7 (.t 6)), (some 70), none, [], []⟩, ⟨(.store 4 (.t 70) (.t 69)), none, none, [], []⟩]
def r_tParse_13 : Reg := ⟨[], t_tParse_13, [69], [], false⟩
def t_tParse_14 : List ROp := [⟨(.load 15 true (.t 6)), (some 71), none, [72, 79, 86], []⟩, ⟨(.callv (.c (.clo 21 [] [])) [(.t 71)]), (some 72), none, [79, 86], []⟩, ⟨(.mv (.t 0)), (some 73), none, [79, 86], []⟩, ⟨(.bin .neq (.t 72) (.t 73)), (some 74), none, [79, 86], []⟩, ⟨(.mv (.t 74)), (some 75), none, [79, 86], []⟩, ⟨(.faddr 7 (.t 6)), (some 76), (some (75, false)), [79, 86], []⟩, ⟨(.faddr 3 (.t 76)), (some 77), (some (75, false)), [79, 86], []⟩, ⟨(.load 1 false (.t 77)), (some 78), (some (75, false)), [79, 86], []⟩, ⟨(.callv (.c (.clo 60 [] [])) [(.t 78)]), (some 79), (some (75, false)), [86], []⟩, ⟨(.un .not (.t 79)), (some 80), (some (75, false)), [86], []⟩, ⟨(.pick (.t 75) (.c (.bool true)) (.t 80)), (some 81), none, [86], []⟩, ⟨(.mv (.t 81)), (some 82), none, [86], []⟩, ⟨(.faddr 7 (.t 6)), (some 83), (some (82, false)), [86], []⟩, ⟨(.faddr 2 (.t 83)), (some 84), (some (82, false)), [86], []⟩, ⟨(.load 1 false (.t 84)), (some 85), (some (82, false)), [86], []⟩, ⟨(.callv (.c (.clo 61 [] [])) [(.t 85)]), (some 86), (some (82, false)), [], []⟩, ⟨(.un .not (.t 86)), (some 87), (some (82, false)), [], []⟩, ⟨(.pick (.t 82) (.c (.bool true)) (.t 87)), (some 88), none, [], []⟩]
def r_tParse_14 : Reg := ⟨[], t_tParse_14, [72, 79, 86], [], false⟩
def t_tParse_15 : List ROp := [⟨(.bld [(.int .i64 0), (.int .i64 0), (.str ⟨#[]⟩), (.str ⟨#[]⟩), (.bool false), (.str ⟨#[]⟩), (.int .i64 0), (.int .i64 0), (.bool false), (.str ⟨#[]⟩), (.sl []), (.int .i64 0), (.int .i64 0), (.int .i64 0), (.bool false)] []), (some 89), none, [], []⟩, ⟨(.store 15 (.t 2) (.t 89)), none, none, [], []⟩, ⟨(.mv (.c (.bool false))), (some 3), none, [], []⟩]
def r_tParse_15 : Reg := ⟨[], t_tParse_15, [], [], false⟩
def t_tParse_16 : List ROp := [⟨(.load 15 true (.t 6)), (some 90), none, [], []⟩, ⟨(.store 15 (.t 2) (.t 90)), none, none, [], []⟩, ⟨(.mv (.c (.bool true))), (some 3), none, [], []⟩]
def r_tParse_16 : Reg := ⟨[], t_tParse_16, [], [], false⟩
def ir_tParse : IR := (.seq (.reg r_tParse_0)
  (.seq (.reg r_tParse_1)
  (.seq (.seq (.reg r_tParse_2)
  (.cond (.t 11) (.seq (.reg r_tParse_3)
  .ret)
  .skip))
  (.seq (.reg r_tParse_4)
  (.seq (.reg r_tParse_5)
  (.seq (.reg r_tParse_6)
  (.seq (.reg r_tParse_7)
  (.seq (.reg r_tParse_8)
  (.seq (.reg r_tParse_9)
  (.seq (.reg r_tParse_10)
  (.seq (.reg r_tParse_11)
  (.seq (.seq (.reg r_tParse_12)
  (.cond (.t 65) (.reg r_tParse_13)
  .skip))
  (.seq (.seq (.reg r_tParse_14)
  (.cond (.t 88) (.seq (.reg r_tParse_15)
  .ret)
  .skip))
  (.seq (.reg r_tParse_16)
  .ret))))))))))))))
def res_tParse : List RDesc := [(.cell 2 15 true), (.tmp 3)]
theorem e_tParse_0 (C : FuncId → List AV → AV → Prop) (σ : St) (K : St → Prop) : runReg C r_tParse_0 σ K = runOps C t_tParse_0 (σ.kills [2]) K := rfl
theorem e_tParse_1 (C : FuncId → List AV → AV → Prop) (σ : St) (K : St → Prop) : runReg C r_tParse_1 σ K = runOps C t_tParse_1 (σ.kills [8]) K := rfl
theorem e_tParse_2 (C : FuncId → List AV → AV → Prop) (σ : St) (K : St → Prop) : runReg C r_tParse_2 σ K = runOps C t_tParse_2 (σ.kills []) K := rfl
theorem e_tParse_3 (C : FuncId → List AV → AV → Prop) (σ : St) (K : St → Prop) : runReg C r_tParse_3 σ K = runOps C t_tParse_3 (σ.kills []) K := rfl
theorem e_tParse_4 (C : FuncId → List AV → AV → Prop) (σ : St) (K : St → Prop) : runReg C r_tParse_4 σ K = runOps C t_tParse_4 (σ.kills [16, 17]) K := rfl
theorem e_tParse_5 (C : FuncId → List AV → AV → Prop) (σ : St) (K : St → Prop) : runReg C r_tParse_5 σ K = runOps C t_tParse_5 (σ.kills [6]) K := rfl
theorem e_tParse_6 (C : FuncId → List AV → AV → Prop) (σ : St) (K : St → Prop) : runReg C r_tParse_6 σ K = runOps C t_tParse_6 (σ.kills [23]) K := rfl
theorem e_tParse_7 (C : FuncId → List AV → AV → Prop) (σ : St) (K : St → Prop) : runReg C r_tParse_7 σ K = runOps C t_tParse_7 (σ.kills [31]) K := rfl
theorem e_tParse_8 (C : FuncId → List AV → AV → Prop) (σ : St) (K : St → Prop) : runReg C r_tParse_8 σ K = runOps C t_tParse_8 (σ.kills [39]) K := rfl
theorem e_tParse_9 (C : FuncId → List AV → AV → Prop) (σ : St) (K : St → Prop) : runReg C r_tParse_9 σ K = runOps C t_tParse_9 (σ.kills [47]) K := rfl
theorem e_tParse_10 (C : FuncId → List AV → AV → Prop) (σ : St) (K : St → Prop) : runReg C r_tParse_10 σ K = runOps C t_tParse_10 (σ.kills []) K := rfl
theorem e_tParse_11 (C : FuncId → List AV → AV → Prop) (σ : St) (K : St → Prop) : runReg C r_tParse_11 σ K = runOps C t_tParse_11 (σ.kills [60]) K := rfl
theorem e_tParse_12 (C : FuncId → List AV → AV → Prop) (σ : St) (K : St → Prop) : runReg C r_tParse_12 σ K = runOps C [⟨(.faddr 14 (.t 6)), (some 64), none, [], []⟩, ⟨(.load 1 false (.t 64)), (some 65), none, [], []⟩] (σ.kills []) K := rfl
theorem e_tParse_13 (C : FuncId → List AV → AV → Prop) (σ : St) (K : St → Prop) : runReg C r_tParse_13 σ K = runOps C t_tParse_13 (σ.kills [69]) K := rfl
theorem e_tParse_14 (C : FuncId → List AV → AV → Prop) (σ : St) (K : St → Prop) : runReg C r_tParse_14 σ K = runOps C t_tParse_14 (σ.kills [72, 79, 86]) K := rfl
theorem e_tParse_15 (C : FuncId → List AV → AV → Prop) (σ : St) (K : St → Prop) : runReg C r_tParse_15 σ K = runOps C t_tParse_15 (σ.kills []) K := rfl
theorem e_tParse_16 (C : FuncId → List AV → AV → Prop) (σ : St) (K : St → Prop) : runReg C r_tParse_16 σ K = runOps C t_tParse_16 (σ.kills []) K := rfl
theorem fn_tParse {args : List AV} {r : AV} (ha : args.length.ble Tryd.f22.ntmps = true) (h : run (AFn Tryd.prog) ir_tParse (endQ res_tParse r) (initSt args)) : AFn Tryd.prog 22 args r :=
  AFn.of_code (pv := false) (hint := fun _ => []) (c := Tryd.f22.body.getD .skip) (by kernel_rfl) (by kernel_rfl) Tryd.func22 (by kernel_rfl) (by kernel_rfl) (by kernel_rfl) (of_decide_eq_true (by kernel_rfl)) (Nat.le_of_ble_eq_true ha) (Nat.le_of_ble_eq_true (by kernel_rfl)) (run_ok h)
attribute [local go_sem ↓] ir_tParse
attribute [local go_sem] res_tParse e_tParse_0 t_tParse_0 e_tParse_1 t_tParse_1 e_tParse_2 t_tParse_2 e_tParse_3 t_tParse_3 e_tParse_4 t_tParse_4 e_tParse_5 t_tParse_5 e_tParse_6 t_tParse_6 e_tParse_7 t_tParse_7 e_tParse_8 t_tParse_8 e_tParse_9 t_tParse_9 e_tParse_10 t_tParse_10 e_tParse_11 t_tParse_11 e_tParse_12 e_tParse_13 t_tParse_13 e_tParse_14 t_tParse_14 e_tParse_15 t_tParse_15 e_tParse_16 t_tParse_16
theorem parseF_fit (s : ByteArray) : (parseF s).1.key.size ≤ 16 ∧ (parseF s).1.hi.size ≤ 16 := by
  cases hp : (parseF s).2 with
  | false => rw [parse_no' hp]; exact ⟨by decide, by decide⟩
  | true =>
    obtain ⟨_, _, h1, h2, _⟩ := right_parts (parse_of hp).1
    exact ⟨h1, h2⟩
theorem near_in {n : Int} (h : nearP n) : inI n := ⟨by have := h.1; omega, by have := h.2; omega⟩
theorem readE_fit (h o t : ByteArray) (ht : t.size ≤ 300000) : FitE (readE h o t) := by
  have p := parseF_fit o
  have q := toldF_near t
  have b := told_bulk t
  unfold readE
  simp only
  refine ⟨near_in (ud1_near _), near_in (ud1_near _), near_in (ud1_near _), near_in (ud1_near _), by simp only; omega, by simp only; omega, ?_, ?_, ?_⟩
  · simp only; split
    · exact near_in q
    · exact ⟨by decide, by decide⟩
  · simp only; split
    · omega
    · exact Nat.zero_le _
  · simp only; split
    · omega
    · exact Nat.zero_le _
theorem parseE_three {s h o t : ByteArray} (hL : splitL s sep3 = [h, o, t]) : parseE s = if readOk (readE h o t) s then (readE h o t, true) else (Evt.zero, false) := by
  have e : splitL s (⟨#[32, 58, 32]⟩ : ByteArray) = [h, o, t] := hL
  unfold parseE
  rw [e]
theorem parseE_other {s : ByteArray} (hL : (splitL s sep3).length ≠ 3) : parseE s = (Evt.zero, false) := by
  have e : splitL s (⟨#[32, 58, 32]⟩ : ByteArray) = splitL s sep3 := rfl
  unfold parseE
  rw [e]
  generalize splitL s sep3 = L at hL
  match L, hL with
  | [], _ => rfl
  | [_], _ => rfl
  | [_, _], _ => rfl
  | [_, _, _], h => exact absurd rfl h
  | _ :: _ :: _ :: _ :: _, _ => rfl
set_option maxHeartbeats 4000000 in
theorem tParse_ok (s : ByteArray) (hs : s.size ≤ 300000) : AFn Tryd.prog 22 [.str s] (.tup [(parseE s).1.a, .bool (parseE s).2]) := by
  refine fn_tParse rfl ?_
  have hl := split3_len s
  have hm := fun x => split3_small (s := s) (x := x)
  have cS := split_ok s sep3 (by omega) (by decide) (Nat.le_trans (by omega : _ ≤ 300001) (by decide))
  have e0 : sep3 = (⟨#[32, 58, 32]⟩ : ByteArray) := rfl
  by_cases h3 : (splitL s sep3).length = 3
  case neg =>
    have h3' : (((splitL s sep3).length : Int) != 3) = true := by simp; omega
    rw [parseE_other h3]
    generalize splitL s sep3 = L at *
    (repeat (first | simp (maxSteps := 4000000) only [go_sem, ↓reduceIte, reduceCtorEq, Nat.reduceEqDiff, Nat.reduceBEq, Nat.reduceAdd, Nat.reduceSub, Nat.reduceMul, Nat.reduceLT, Nat.reduceLeDiff, Nat.reduceBNe, Int.reduceBEq, Int.reduceBNe, Int.reduceLT, Int.reduceLE, Par.a, Opr.a, Ans.a, Evt.a, nul, List.length_map, h3'] | refine calling (cS) ?_ | refine callingH (cS) ?_ | refine And.intro (by omega) ?_ | refine And.intro (fun d hd => by (repeat (rcases hd with rfl | hd; · exact ⟨rfl, rfl⟩)); cases hd) ?_ | refine And.intro (And.intro (by omega) (fun d hd => by (repeat (rcases hd with rfl | hd; · exact ⟨rfl, rfl⟩)); cases hd)) ?_))
    exact ⟨rfl, rfl, rfl, rfl, rfl, rfl, rfl, rfl, rfl, rfl, rfl, rfl, rfl, rfl, rfl⟩
  obtain ⟨h, o, t, hL⟩ : ∃ h o t, splitL s sep3 = [h, o, t] := by
    generalize splitL s sep3 = L at h3
    match L, h3 with
    | [h, o, t], _ => exact ⟨h, o, t, rfl⟩
  rw [parseE_three hL]
  rw [hL] at cS hm
  have s1 := hm h (by simp)
  have s2 := hm o (by simp)
  have s3 := hm t (by simp)
  have cE := tEvent_ok _ (readE_fit h o t (by omega))
  have hb := told_bulk t
  have cO := oParse_ok o (by omega)
  have cW := words_ok' h (by omega)
  have cT := told_ok t (by omega)
  have hlw := words_len h
  have hws := words_ne h
  have hsz : ∀ j, ((wordsL' h ++ [nul, nul, nul, nul, nul]).getD j nul).size ≤ 300000 := by
    intro j
    rw [List.getD_eq_getElem?_getD]
    cases hj : (wordsL' h ++ [nul, nul, nul, nul, nul])[j]? with
    | none => exact Nat.zero_le _
    | some x =>
      rcases List.mem_append.1 (List.mem_of_getElem? hj) with q | q
      · have := words_small q
        show x.size ≤ _
        omega
      · have : x = nul := by simpa using q
        rw [this]; exact Nat.zero_le _
  have hA : (wordsL' h).map AV.str ++ [.str ⟨#[]⟩, .str ⟨#[]⟩, .str ⟨#[]⟩, .str ⟨#[]⟩, .str ⟨#[]⟩] = (wordsL' h ++ [nul, nul, nul, nul, nul]).map AV.str := by rw [List.map_append]; rfl
  have hZ : (wordsL' h).length + 5 = (wordsL' h ++ [nul, nul, nul, nul, nul]).length := by rw [List.length_append]; rfl
  have hT : List.take (wordsL' h).length ((wordsL' h).map AV.str) = (wordsL' h).map AV.str := List.take_of_length_le (by rw [List.length_map]; exact Nat.le_refl _)
  unfold readE at *
  simp only at *
  generalize wordsL' h ++ [nul, nul, nul, nul, nul] = W at *
  generalize wordsL' h = V at *
  have hget : ∀ j, j < W.length → (W.map AV.str).getD j .und = .str (W.getD j nul) := by
    intro j hj
    rw [List.getD_eq_getElem?_getD, List.getElem?_map, List.getD_eq_getElem?_getD, List.getElem?_eq_getElem hj]; rfl
  have g0 := hget 0 (by omega)
  have g1 := hget 1 (by omega)
  have g2 := hget 2 (by omega)
  have g3 := hget 3 (by omega)
  have g4 := hget 4 (by omega)
  have c0 := undec_ok (W.getD 0 nul) (by have := hsz 0; omega)
  have c1 := undec_ok (W.getD 1 nul) (by have := hsz 1; omega)
  have c2 := undec_ok (W.getD 2 nul) (by have := hsz 2; omega)
  have c3 := undec_ok (W.getD 3 nul) (by have := hsz 3; omega)
  rw [udF_shape] at c0 c1 c2 c3
  have n0 : (0 : Int) < (W.length : Int) := by omega
  have n1 : (1 : Int) < (W.length : Int) := by omega
  have n2 : (2 : Int) < (W.length : Int) := by omega
  have n3 : (3 : Int) < (W.length : Int) := by omega
  have n4 : (4 : Int) < (W.length : Int) := by omega
  have z0 : Int.toNat 0 = 0 := rfl
  have z1 : Int.toNat 1 = 1 := rfl
  have z2 : Int.toNat 2 = 2 := rfl
  have z3 : Int.toNat 3 = 3 := rfl
  have z4 : Int.toNat 4 = 4 := rfl
  have hF : ∀ x : ByteArray, (x.toList == (⟨#[121, 101, 115]⟩ : ByteArray).toList) = (x.toList == yesB.toList) := fun _ => rfl
  clear hget hsz hm
  generalize W.getD 0 nul = a0 at *
  generalize W.getD 1 nul = a1 at *
  generalize W.getD 2 nul = a2 at *
  generalize W.getD 3 nul = a3 at *
  generalize W.getD 4 nul = a4 at *
  generalize (parseF o).1 = O at *
  generalize (parseF o).2 = ob at *
  generalize toldF t = Q at *
  obtain ⟨kind, key, hi, opn, val, lim⟩ := O
  obtain ⟨err, has, v, prs⟩ := Q
  have hF4 := hF a4
  have k3 : ((3 : Nat) : Int) = 3 := rfl
  have lp : prs.length ≤ 1000000 := by
    have := sumN_len (f := Par.bulk) (fun x => by unfold Par.bulk; omega) prs
    have := hb.1
    simp only at this
    omega
  cases hd : (a4.toList == yesB.toList)
  · rw [hd] at hF4
    simp only [hd, Bool.false_eq_true, if_false] at cE ⊢
    generalize hE : (⟨ud1 a0, ⟨kind, key, hi, opn, val, lim⟩, Ans.zero, ud1 a1, ud1 a2, ud1 a3, false⟩ : Evt) = E at *
    have hR : readOk E s = (((evF E).toList == s.toList) && rightP [] && decide (((⟨#[]⟩ : ByteArray).size : Int) ≤ 16)) := by rw [← hE]; rfl
    rw [hR]
    generalize evF E = R at *
    have cM := mRight_ok [] (by simp)
    have cV := valR_ok (⟨#[]⟩ : ByteArray)
    have r1 : rightP [] = true := rfl
    have r2 : decide (((⟨#[]⟩ : ByteArray).size : Int) ≤ 16) = true := rfl
    rw [r1] at cM ⊢
    rw [r2] at cV ⊢
    subst hE
    cases b1 : (R.toList == s.toList)
    · (repeat (first | simp (maxSteps := 4000000) only [go_sem, ↓reduceIte, reduceCtorEq, Nat.reduceEqDiff, Nat.reduceBEq, Nat.reduceAdd, Nat.reduceSub, Nat.reduceMul, Nat.reduceLT, Nat.reduceLeDiff, Nat.reduceBNe, Int.reduceBEq, Int.reduceBNe, Int.reduceLT, Int.reduceLE, Par.a, Opr.a, Ans.a, Evt.a, nul, List.length_map, List.take_length, List.map_cons, List.map_nil, hA, hZ, hT, g0, g1, g2, g3, g4, n0, n1, n2, n3, n4, z0, z1, z2, z3, z4, hF4, k3, b1] | refine calling (cS) ?_ | refine callingH (cS) ?_ | refine calling (cW) ?_ | refine callingH (cW) ?_ | refine calling (c0) ?_ | refine callingH (c0) ?_ | refine calling (c1) ?_ | refine callingH (c1) ?_ | refine calling (c2) ?_ | refine callingH (c2) ?_ | refine calling (c3) ?_ | refine callingH (c3) ?_ | refine calling (cO) ?_ | refine callingH (cO) ?_ | refine calling (cT) ?_ | refine callingH (cT) ?_ | refine calling (cE) ?_ | refine callingH (cE) ?_ | refine calling (cM) ?_ | refine callingH (cM) ?_ | refine calling (cV) ?_ | refine callingH (cV) ?_ | refine And.intro (by omega) ?_ | refine And.intro (fun d hd => by (repeat (rcases hd with rfl | hd; · exact ⟨rfl, rfl⟩)); cases hd) ?_ | refine And.intro (And.intro (by omega) (fun d hd => by (repeat (rcases hd with rfl | hd; · exact ⟨rfl, rfl⟩)); cases hd)) ?_))
      all_goals first | rfl | exact ⟨rfl, rfl, rfl, rfl⟩ | exact ⟨rfl, rfl, rfl, rfl, rfl, rfl, rfl, rfl, rfl, rfl, rfl, rfl, rfl, rfl, rfl⟩
    · (repeat (first | simp (maxSteps := 4000000) only [go_sem, ↓reduceIte, reduceCtorEq, Nat.reduceEqDiff, Nat.reduceBEq, Nat.reduceAdd, Nat.reduceSub, Nat.reduceMul, Nat.reduceLT, Nat.reduceLeDiff, Nat.reduceBNe, Int.reduceBEq, Int.reduceBNe, Int.reduceLT, Int.reduceLE, Par.a, Opr.a, Ans.a, Evt.a, nul, List.length_map, List.take_length, List.map_cons, List.map_nil, hA, hZ, hT, g0, g1, g2, g3, g4, n0, n1, n2, n3, n4, z0, z1, z2, z3, z4, hF4, k3, b1] | refine calling (cS) ?_ | refine callingH (cS) ?_ | refine calling (cW) ?_ | refine callingH (cW) ?_ | refine calling (c0) ?_ | refine callingH (c0) ?_ | refine calling (c1) ?_ | refine callingH (c1) ?_ | refine calling (c2) ?_ | refine callingH (c2) ?_ | refine calling (c3) ?_ | refine callingH (c3) ?_ | refine calling (cO) ?_ | refine callingH (cO) ?_ | refine calling (cT) ?_ | refine callingH (cT) ?_ | refine calling (cE) ?_ | refine callingH (cE) ?_ | refine calling (cM) ?_ | refine callingH (cM) ?_ | refine calling (cV) ?_ | refine callingH (cV) ?_ | refine And.intro (by omega) ?_ | refine And.intro (fun d hd => by (repeat (rcases hd with rfl | hd; · exact ⟨rfl, rfl⟩)); cases hd) ?_ | refine And.intro (And.intro (by omega) (fun d hd => by (repeat (rcases hd with rfl | hd; · exact ⟨rfl, rfl⟩)); cases hd)) ?_))
      all_goals first | rfl | exact ⟨rfl, rfl, rfl, rfl⟩ | exact ⟨rfl, rfl, rfl, rfl, rfl, rfl, rfl, rfl, rfl, rfl, rfl, rfl, rfl, rfl, rfl⟩
  · rw [hd] at hF4
    simp only [hd, if_true] at cE ⊢
    generalize hE : (⟨ud1 a0, ⟨kind, key, hi, opn, val, lim⟩, ⟨err, has, v, prs⟩, ud1 a1, ud1 a2, ud1 a3, true⟩ : Evt) = E at *
    have hR : readOk E s = (((evF E).toList == s.toList) && rightP prs && decide ((v.size : Int) ≤ 16)) := by
      rw [← hE, ← decide_eq_decide.2 (show v.size ≤ 16 ↔ (v.size : Int) ≤ 16 by omega)]; rfl
    rw [hR]
    generalize evF E = R at *
    have cM := mRight_ok prs (by omega)
    have cV := valR_ok v
    generalize rightP prs = r1 at *
    generalize decide ((v.size : Int) ≤ 16) = r2 at *
    subst hE
    cases b1 : (R.toList == s.toList)
    · (repeat (first | simp (maxSteps := 4000000) only [go_sem, ↓reduceIte, reduceCtorEq, Nat.reduceEqDiff, Nat.reduceBEq, Nat.reduceAdd, Nat.reduceSub, Nat.reduceMul, Nat.reduceLT, Nat.reduceLeDiff, Nat.reduceBNe, Int.reduceBEq, Int.reduceBNe, Int.reduceLT, Int.reduceLE, Par.a, Opr.a, Ans.a, Evt.a, nul, List.length_map, List.take_length, List.map_cons, List.map_nil, hA, hZ, hT, g0, g1, g2, g3, g4, n0, n1, n2, n3, n4, z0, z1, z2, z3, z4, hF4, k3, b1] | refine calling (cS) ?_ | refine callingH (cS) ?_ | refine calling (cW) ?_ | refine callingH (cW) ?_ | refine calling (c0) ?_ | refine callingH (c0) ?_ | refine calling (c1) ?_ | refine callingH (c1) ?_ | refine calling (c2) ?_ | refine callingH (c2) ?_ | refine calling (c3) ?_ | refine callingH (c3) ?_ | refine calling (cO) ?_ | refine callingH (cO) ?_ | refine calling (cT) ?_ | refine callingH (cT) ?_ | refine calling (cE) ?_ | refine callingH (cE) ?_ | refine calling (cM) ?_ | refine callingH (cM) ?_ | refine calling (cV) ?_ | refine callingH (cV) ?_ | refine And.intro (by omega) ?_ | refine And.intro (fun d hd => by (repeat (rcases hd with rfl | hd; · exact ⟨rfl, rfl⟩)); cases hd) ?_ | refine And.intro (And.intro (by omega) (fun d hd => by (repeat (rcases hd with rfl | hd; · exact ⟨rfl, rfl⟩)); cases hd)) ?_))
      all_goals first | rfl | exact ⟨rfl, rfl, rfl, rfl⟩ | exact ⟨rfl, rfl, rfl, rfl, rfl, rfl, rfl, rfl, rfl, rfl, rfl, rfl, rfl, rfl, rfl⟩
    · cases r1
      · (repeat (first | simp (maxSteps := 4000000) only [go_sem, ↓reduceIte, reduceCtorEq, Nat.reduceEqDiff, Nat.reduceBEq, Nat.reduceAdd, Nat.reduceSub, Nat.reduceMul, Nat.reduceLT, Nat.reduceLeDiff, Nat.reduceBNe, Int.reduceBEq, Int.reduceBNe, Int.reduceLT, Int.reduceLE, Par.a, Opr.a, Ans.a, Evt.a, nul, List.length_map, List.take_length, List.map_cons, List.map_nil, hA, hZ, hT, g0, g1, g2, g3, g4, n0, n1, n2, n3, n4, z0, z1, z2, z3, z4, hF4, k3, b1] | refine calling (cS) ?_ | refine callingH (cS) ?_ | refine calling (cW) ?_ | refine callingH (cW) ?_ | refine calling (c0) ?_ | refine callingH (c0) ?_ | refine calling (c1) ?_ | refine callingH (c1) ?_ | refine calling (c2) ?_ | refine callingH (c2) ?_ | refine calling (c3) ?_ | refine callingH (c3) ?_ | refine calling (cO) ?_ | refine callingH (cO) ?_ | refine calling (cT) ?_ | refine callingH (cT) ?_ | refine calling (cE) ?_ | refine callingH (cE) ?_ | refine calling (cM) ?_ | refine callingH (cM) ?_ | refine calling (cV) ?_ | refine callingH (cV) ?_ | refine And.intro (by omega) ?_ | refine And.intro (fun d hd => by (repeat (rcases hd with rfl | hd; · exact ⟨rfl, rfl⟩)); cases hd) ?_ | refine And.intro (And.intro (by omega) (fun d hd => by (repeat (rcases hd with rfl | hd; · exact ⟨rfl, rfl⟩)); cases hd)) ?_))
        all_goals first | rfl | exact ⟨rfl, rfl, rfl, rfl⟩ | exact ⟨rfl, rfl, rfl, rfl, rfl, rfl, rfl, rfl, rfl, rfl, rfl, rfl, rfl, rfl, rfl⟩
      · cases r2
        · (repeat (first | simp (maxSteps := 4000000) only [go_sem, ↓reduceIte, reduceCtorEq, Nat.reduceEqDiff, Nat.reduceBEq, Nat.reduceAdd, Nat.reduceSub, Nat.reduceMul, Nat.reduceLT, Nat.reduceLeDiff, Nat.reduceBNe, Int.reduceBEq, Int.reduceBNe, Int.reduceLT, Int.reduceLE, Par.a, Opr.a, Ans.a, Evt.a, nul, List.length_map, List.take_length, List.map_cons, List.map_nil, hA, hZ, hT, g0, g1, g2, g3, g4, n0, n1, n2, n3, n4, z0, z1, z2, z3, z4, hF4, k3, b1] | refine calling (cS) ?_ | refine callingH (cS) ?_ | refine calling (cW) ?_ | refine callingH (cW) ?_ | refine calling (c0) ?_ | refine callingH (c0) ?_ | refine calling (c1) ?_ | refine callingH (c1) ?_ | refine calling (c2) ?_ | refine callingH (c2) ?_ | refine calling (c3) ?_ | refine callingH (c3) ?_ | refine calling (cO) ?_ | refine callingH (cO) ?_ | refine calling (cT) ?_ | refine callingH (cT) ?_ | refine calling (cE) ?_ | refine callingH (cE) ?_ | refine calling (cM) ?_ | refine callingH (cM) ?_ | refine calling (cV) ?_ | refine callingH (cV) ?_ | refine And.intro (by omega) ?_ | refine And.intro (fun d hd => by (repeat (rcases hd with rfl | hd; · exact ⟨rfl, rfl⟩)); cases hd) ?_ | refine And.intro (And.intro (by omega) (fun d hd => by (repeat (rcases hd with rfl | hd; · exact ⟨rfl, rfl⟩)); cases hd)) ?_))
          all_goals first | rfl | exact ⟨rfl, rfl, rfl, rfl⟩ | exact ⟨rfl, rfl, rfl, rfl, rfl, rfl, rfl, rfl, rfl, rfl, rfl, rfl, rfl, rfl, rfl⟩
        · (repeat (first | simp (maxSteps := 4000000) only [go_sem, ↓reduceIte, reduceCtorEq, Nat.reduceEqDiff, Nat.reduceBEq, Nat.reduceAdd, Nat.reduceSub, Nat.reduceMul, Nat.reduceLT, Nat.reduceLeDiff, Nat.reduceBNe, Int.reduceBEq, Int.reduceBNe, Int.reduceLT, Int.reduceLE, Par.a, Opr.a, Ans.a, Evt.a, nul, List.length_map, List.take_length, List.map_cons, List.map_nil, hA, hZ, hT, g0, g1, g2, g3, g4, n0, n1, n2, n3, n4, z0, z1, z2, z3, z4, hF4, k3, b1] | refine calling (cS) ?_ | refine callingH (cS) ?_ | refine calling (cW) ?_ | refine callingH (cW) ?_ | refine calling (c0) ?_ | refine callingH (c0) ?_ | refine calling (c1) ?_ | refine callingH (c1) ?_ | refine calling (c2) ?_ | refine callingH (c2) ?_ | refine calling (c3) ?_ | refine callingH (c3) ?_ | refine calling (cO) ?_ | refine callingH (cO) ?_ | refine calling (cT) ?_ | refine callingH (cT) ?_ | refine calling (cE) ?_ | refine callingH (cE) ?_ | refine calling (cM) ?_ | refine callingH (cM) ?_ | refine calling (cV) ?_ | refine callingH (cV) ?_ | refine And.intro (by omega) ?_ | refine And.intro (fun d hd => by (repeat (rcases hd with rfl | hd; · exact ⟨rfl, rfl⟩)); cases hd) ?_ | refine And.intro (And.intro (by omega) (fun d hd => by (repeat (rcases hd with rfl | hd; · exact ⟨rfl, rfl⟩)); cases hd)) ?_))
          all_goals first | rfl | exact ⟨rfl, rfl, rfl, rfl⟩ | exact ⟨rfl, rfl, rfl, rfl, rfl, rfl, rfl, rfl, rfl, rfl, rfl, rfl, rfl, rfl, rfl⟩
end
section
/-
  The document's side of an event's line: walked.
-/
open Go.RowKit Go.Lib
set_option linter.unusedVariables false
set_option linter.unusedSimpArgs false
set_option maxRecDepth 100000
attribute [local go_sem ↓] runOp headOp
theorem evF_flat (e : Evt) : decS e.client ++ (⟨#[32]⟩ : ByteArray) ++ decS e.began ++ (⟨#[32]⟩ : ByteArray) ++ decS e.point ++ (⟨#[32]⟩ : ByteArray) ++ decS e.ended ++ (⟨#[32]⟩ : ByteArray) ++ (if e.done then yesB else noB) ++ sep3 ++ lineX e.op ++ sep3 ++ tailL e = evF e := by
  rw [evF_parts]
  unfold headW
  rw [joinB_cat]
  simp only [catF, ba_assoc, ba_nil, ba_nil_l]
/-! ### percolate/percolateref46.Event -/
def r_rEvent_0 : Reg := ⟨[], [⟨(.box 15 48 (.t 0)), (some 1), none, [], []⟩, ⟨(.mv (.c (.str ⟨#[]⟩))), (some 2), none, [], []⟩], [1], [], false⟩
def r_rEvent_1 : Reg := ⟨[], [⟨(.mv (.c (.str ⟨#[110, 111]⟩))), (some 3), none, [], []⟩, ⟨(.mv (.c (.str ⟨#[45]⟩))), (some 4), none, [], []⟩], [], [], false⟩
def r_rEvent_2 : Reg := ⟨[], [⟨(.faddr 14 (.t 1)), (some 5), none, [], []⟩, ⟨(.load 1 false (.t 5)), (some 6), none, [], []⟩], [], [], false⟩
def r_rEvent_3 : Reg := ⟨[], [⟨(.mv (.c (.str ⟨#[121, 101, 115]⟩))), (some 3), none, [], []⟩], [], [], false⟩
def t_rEvent_4 : List ROp := [⟨(.faddr 1 (.t 1)), (some 7), none, [11], []⟩, ⟨(.load 6 true (.t 7)), (some 8), none, [11], []⟩, ⟨(.faddr 7 (.t 1)), (some 9), none, [11], []⟩, ⟨(.load 4 true (.t 9)), (some 10), none, [11], []⟩, ⟨(.callv (.c (.clo 62 [] [])) [(.t 8), (.t 10)]), (some 11), none, [], []⟩, ⟨(.mv (.t 11)), (some 4), none, [], []⟩]
def r_rEvent_4 : Reg := ⟨[], t_rEvent_4, [11], [], false⟩
def h_rEvent_5 : List ROp := [⟨(.faddr 0 (.t 1)), (some 12), none, [14, 18, 23, 28, 36], []⟩, ⟨(.load 1 false (.t 12)), (some 13), none, [14, 18, 23, 28, 36], []⟩, ⟨(.callv (.c (.clo 32 [] [])) [(.t 13)]), (some 14), none, [18, 23, 28, 36], []⟩, ⟨(.bin .add (.t 14) (.c (.str ⟨#[32]⟩))), (some 15), none, [18, 23, 28, 36], []⟩, ⟨(.faddr 11 (.t 1)), (some 16), none, [14, 18, 23, 28, 36], []⟩, ⟨(.load 1 false (.t 16)), (some 17), none, [14, 18, 23, 28, 36], []⟩, ⟨(.callv (.c (.clo 32 [] [])) [(.t 17)]), (some 18), none, [23, 28, 36], []⟩, ⟨(.bin .add (.t 15) (.t 18)), (some 19), none, [23, 28, 36], []⟩, ⟨(.bin .add (.t 19) (.c (.str ⟨#[32]⟩))), (some 20), none, [23, 28, 36], []⟩, ⟨(.faddr 12 (.t 1)), (some 21), none, [14, 18, 23, 28, 36], []⟩, ⟨(.load 1 false (.t 21)), (some 22), none, [14, 18, 23, 28, 36], []⟩, ⟨(.callv (.c (.clo 32 [] [])) [(.t 22)]), (some 23), none, [28, 36], []⟩, ⟨(.bin .add (.t 20) (.t 23)), (some 24), none, [28, 36], []⟩, ⟨(.bin .add (.t 24) (.c (.str ⟨#[32]⟩))), (some 25), none, [28, 36], []⟩, ⟨(.faddr 13 (.t 1)), (some 26), none, [14, 18, 23, 28, 36], []⟩, ⟨(.load 1 false (.t 26)), (some 27), none, [14, 18, 23, 28, 36], []⟩, ⟨(.callv (.c (.clo 32 [] [])) [(.t 27)]), (some 28), none, [36], []⟩, ⟨(.bin .add (.t 25) (.t 28)), (some 29), none, [36], []⟩, ⟨(.bin .add (.t 29) (.c (.str ⟨#[32]⟩))), (some 30), none, [36], []⟩, ⟨(.mv (.t 3)), (some 31), none, [14, 18, 23, 28, 36], []⟩, ⟨(.bin .add (.t 30) (.t 31)), (some 32), none, [36], []⟩, ⟨(.bin .add (.t 32) (.c (.str ⟨#[32, 58, 32]⟩))), (some 33), none, [36], []⟩, ⟨(.faddr 1 (.t 1)), (some 34), none, [14, 18, 23, 28, 36], []⟩, ⟨(.load 6 true (.t 34)), (some 35), none, [14, 18, 23, 28, 36], []⟩, ⟨(.callv (.c (.clo 63 [] [])) [(.t 35)]), (some 36), none, [], []⟩, ⟨(.bin .add (.t 33) (.t 36)), (some 37), none, [], []⟩, ⟨(.bin .add (.t 37) (.c (.str ⟨#[32, 58, 32]⟩))), (some 38), none, [], []⟩, ⟨(.mv (.t 4)), (some 39), none, [14, 18, 23, 28, 36], []⟩]
def r_rEvent_5 : Reg := ⟨h_rEvent_5, [⟨(.bin .add (.t 38) (.t 39)), (some 40), none, [], []⟩, ⟨(.mv (.t 40)), (some 2), none, [], []⟩], [14, 18, 23, 28, 36], [], true⟩
def ir_rEvent : IR := (.seq (.reg r_rEvent_0)
  (.seq (.reg r_rEvent_1)
  (.seq (.seq (.reg r_rEvent_2)
  (.cond (.t 6) (.seq (.reg r_rEvent_3)
  (.reg r_rEvent_4))
  .skip))
  (.seq (.reg r_rEvent_5)
  .ret))))
def res_rEvent : List RDesc := [(.tmp 2)]
theorem e_rEvent_0 (C : FuncId → List AV → AV → Prop) (σ : St) (K : St → Prop) : runReg C r_rEvent_0 σ K = runOps C [⟨(.box 15 48 (.t 0)), (some 1), none, [], []⟩, ⟨(.mv (.c (.str ⟨#[]⟩))), (some 2), none, [], []⟩] (σ.kills [1]) K := rfl
theorem e_rEvent_1 (C : FuncId → List AV → AV → Prop) (σ : St) (K : St → Prop) : runReg C r_rEvent_1 σ K = runOps C [⟨(.mv (.c (.str ⟨#[110, 111]⟩))), (some 3), none, [], []⟩, ⟨(.mv (.c (.str ⟨#[45]⟩))), (some 4), none, [], []⟩] (σ.kills []) K := rfl
theorem e_rEvent_2 (C : FuncId → List AV → AV → Prop) (σ : St) (K : St → Prop) : runReg C r_rEvent_2 σ K = runOps C [⟨(.faddr 14 (.t 1)), (some 5), none, [], []⟩, ⟨(.load 1 false (.t 5)), (some 6), none, [], []⟩] (σ.kills []) K := rfl
theorem e_rEvent_3 (C : FuncId → List AV → AV → Prop) (σ : St) (K : St → Prop) : runReg C r_rEvent_3 σ K = runOps C [⟨(.mv (.c (.str ⟨#[121, 101, 115]⟩))), (some 3), none, [], []⟩] (σ.kills []) K := rfl
theorem e_rEvent_4 (C : FuncId → List AV → AV → Prop) (σ : St) (K : St → Prop) : runReg C r_rEvent_4 σ K = runOps C t_rEvent_4 (σ.kills [11]) K := rfl
theorem e_rEvent_5 (C : FuncId → List AV → AV → Prop) (σ : St) (K : St → Prop) : runReg C r_rEvent_5 σ K = runHead C [] [⟨(.bin .add (.t 38) (.t 39)), (some 40), none, [], []⟩, ⟨(.mv (.t 40)), (some 2), none, [], []⟩] h_rEvent_5 (σ.kills [14, 18, 23, 28, 36]) K := rfl
theorem fn_rEvent {args : List AV} {r : AV} (ha : args.length.ble Tryd.f23.ntmps = true) (h : run (AFn Tryd.prog) ir_rEvent (endQ res_rEvent r) (initSt args)) : AFn Tryd.prog 23 args r :=
  AFn.of_code (pv := false) (hint := fun _ => []) (c := Tryd.f23.body.getD .skip) (by kernel_rfl) (by kernel_rfl) Tryd.func23 (by kernel_rfl) (by kernel_rfl) (by kernel_rfl) (of_decide_eq_true (by kernel_rfl)) (Nat.le_of_ble_eq_true ha) (Nat.le_of_ble_eq_true (by kernel_rfl)) (run_ok h)
/-! ### percolate/percolateref46.near -/
def r_near_0 : Reg := ⟨[], [⟨(.mv (.c (.bool false))), (some 2), none, [], []⟩], [], [], false⟩
def t_near_1 : List ROp := [⟨(.mv (.t 0)), (some 3), none, [], []⟩, ⟨(.bin .geq (.t 3) (.c (.int .i64 0))), (some 4), none, [], []⟩, ⟨(.mv (.t 4)), (some 5), none, [], []⟩, ⟨(.mv (.t 0)), (some 6), (some (5, true)), [], []⟩, ⟨(.bin .leq (.t 6) (.c (.int .i64 999999999))), (some 7), (some (5, true)), [], []⟩, ⟨(.pick (.t 5) (.t 7) (.c (.bool false))), (some 8), none, [], []⟩, ⟨(.mv (.t 8)), (some 2), none, [], []⟩]
def r_near_1 : Reg := ⟨[], t_near_1, [], [], false⟩
def ir_near : IR := (.seq (.reg r_near_0)
  (.seq (.reg r_near_1)
  .ret))
def res_near : List RDesc := [(.tmp 2)]
theorem e_near_0 (C : FuncId → List AV → AV → Prop) (σ : St) (K : St → Prop) : runReg C r_near_0 σ K = runOps C [⟨(.mv (.c (.bool false))), (some 2), none, [], []⟩] (σ.kills []) K := rfl
theorem e_near_1 (C : FuncId → List AV → AV → Prop) (σ : St) (K : St → Prop) : runReg C r_near_1 σ K = runOps C t_near_1 (σ.kills []) K := rfl
theorem fn_near {args : List AV} {r : AV} (ha : args.length.ble Tryd.f64.ntmps = true) (h : run (AFn Tryd.prog) ir_near (endQ res_near r) (initSt args)) : AFn Tryd.prog 64 args r :=
  AFn.of_code (pv := false) (hint := fun _ => []) (c := Tryd.f64.body.getD .skip) (by kernel_rfl) (by kernel_rfl) Tryd.func64 (by kernel_rfl) (by kernel_rfl) (by kernel_rfl) (of_decide_eq_true (by kernel_rfl)) (Nat.le_of_ble_eq_true ha) (Nat.le_of_ble_eq_true (by kernel_rfl)) (run_ok h)
/-! ### percolate/percolateref09.Same -/
def r_rSame9_0 : Reg := ⟨[], [⟨(.mv (.c (.bool false))), (some 4), none, [], []⟩], [], [], false⟩
def t_rSame9_1 : List ROp := [⟨(.mv (.t 0)), (some 6), none, [], []⟩, ⟨(.len false (.t 6)), (some 7), none, [], []⟩, ⟨(.mv (.t 1)), (some 8), none, [], []⟩, ⟨(.len false (.t 8)), (some 9), none, [], []⟩, ⟨(.bin .neq (.t 7) (.t 9)), (some 10), none, [], []⟩]
def r_rSame9_1 : Reg := ⟨[], t_rSame9_1, [], [], false⟩
def r_rSame9_2 : Reg := ⟨[], [⟨(.mv (.c (.bool false))), (some 4), none, [], []⟩], [], [], false⟩
def r_rSame9_3 : Reg := ⟨[], [⟨(.mv (.c (.int .i64 0))), (some 5), none, [], []⟩], [], [], false⟩
def t_rSame9_4 : List ROp := [⟨(.mv (.t 5)), (some 11), none, [], []⟩, ⟨(.mv (.t 0)), (some 12), none, [], []⟩, ⟨(.len false (.t 12)), (some 13), none, [], []⟩, ⟨(.bin .lss (.t 11) (.t 13)), (some 14), none, [], []⟩]
def r_rSame9_4 : Reg := ⟨[], t_rSame9_4, [], [], false⟩
def h_rSame9_5 : List ROp := [⟨(.mv (.t 0)), (some 17), none, [], []⟩, ⟨(.mv (.t 5)), (some 18), none, [], []⟩, ⟨(.iaddr 2 (.t 17) (.t 18)), (some 19), none, [], []⟩, ⟨(.load 2 true (.t 19)), (some 20), none, [], []⟩, ⟨(.mv (.t 1)), (some 21), none, [], []⟩, ⟨(.mv (.t 5)), (some 22), none, [], []⟩, ⟨(.iaddr 2 (.t 21) (.t 22)), (some 23), none, [], []⟩, ⟨(.load 2 true (.t 23)), (some 24), none, [], []⟩]
def r_rSame9_5 : Reg := ⟨h_rSame9_5, [⟨(.feq true [(0, 1), (1, 1)] (.t 20) (.t 24)), (some 25), none, [], []⟩], [], [], true⟩
def r_rSame9_6 : Reg := ⟨[], [⟨(.mv (.c (.bool false))), (some 4), none, [], []⟩], [], [], false⟩
def t_rSame9_7 : List ROp := [⟨(.mv (.t 5)), (some 15), none, [], []⟩, ⟨(.bin .add (.t 15) (.c (.int .i64 1))), (some 16), none, [], []⟩, ⟨(.mv (.t 16)), (some 5), none, [], []⟩]
def r_rSame9_7 : Reg := ⟨[], t_rSame9_7, [], [], false⟩
def r_rSame9_l8 : IR := (.seq (.seq (.reg r_rSame9_4)
  (.cond (.t 14) .skip
  (.exit 0)))
  (.seq (.block 1 (.seq (.reg r_rSame9_5)
  (.cond (.t 25) (.seq (.reg r_rSame9_6)
  .ret)
  .skip)))
  (.reg r_rSame9_7)))
def r_rSame9_9 : Reg := ⟨[], [⟨(.mv (.c (.bool true))), (some 4), none, [], []⟩], [], [], false⟩
def ir_rSame9 : IR := (.seq (.reg r_rSame9_0)
  (.seq (.seq (.reg r_rSame9_1)
  (.cond (.t 10) (.seq (.reg r_rSame9_2)
  .ret)
  .skip))
  (.seq (.seq (.reg r_rSame9_3)
  (.block 0 (.loop r_rSame9_l8)))
  (.seq (.reg r_rSame9_9)
  .ret))))
def res_rSame9 : List RDesc := [(.tmp 4)]
theorem e_rSame9_0 (C : FuncId → List AV → AV → Prop) (σ : St) (K : St → Prop) : runReg C r_rSame9_0 σ K = runOps C [⟨(.mv (.c (.bool false))), (some 4), none, [], []⟩] (σ.kills []) K := rfl
theorem e_rSame9_1 (C : FuncId → List AV → AV → Prop) (σ : St) (K : St → Prop) : runReg C r_rSame9_1 σ K = runOps C t_rSame9_1 (σ.kills []) K := rfl
theorem e_rSame9_2 (C : FuncId → List AV → AV → Prop) (σ : St) (K : St → Prop) : runReg C r_rSame9_2 σ K = runOps C [⟨(.mv (.c (.bool false))), (some 4), none, [], []⟩] (σ.kills []) K := rfl
theorem e_rSame9_3 (C : FuncId → List AV → AV → Prop) (σ : St) (K : St → Prop) : runReg C r_rSame9_3 σ K = runOps C [⟨(.mv (.c (.int .i64 0))), (some 5), none, [], []⟩] (σ.kills []) K := rfl
theorem e_rSame9_4 (C : FuncId → List AV → AV → Prop) (σ : St) (K : St → Prop) : runReg C r_rSame9_4 σ K = runOps C t_rSame9_4 (σ.kills []) K := rfl
theorem e_rSame9_5 (C : FuncId → List AV → AV → Prop) (σ : St) (K : St → Prop) : runReg C r_rSame9_5 σ K = runHead C [] [⟨(.feq true [(0, 1), (1, 1)] (.t 20) (.t 24)), (some 25), none, [], []⟩] h_rSame9_5 (σ.kills []) K := rfl
theorem e_rSame9_6 (C : FuncId → List AV → AV → Prop) (σ : St) (K : St → Prop) : runReg C r_rSame9_6 σ K = runOps C [⟨(.mv (.c (.bool false))), (some 4), none, [], []⟩] (σ.kills []) K := rfl
theorem e_rSame9_7 (C : FuncId → List AV → AV → Prop) (σ : St) (K : St → Prop) : runReg C r_rSame9_7 σ K = runOps C t_rSame9_7 (σ.kills []) K := rfl
theorem e_rSame9_9 (C : FuncId → List AV → AV → Prop) (σ : St) (K : St → Prop) : runReg C r_rSame9_9 σ K = runOps C [⟨(.mv (.c (.bool true))), (some 4), none, [], []⟩] (σ.kills []) K := rfl
theorem fn_rSame9 {args : List AV} {r : AV} (ha : args.length.ble Tryd.f102.ntmps = true) (h : run (AFn Tryd.prog) ir_rSame9 (endQ res_rSame9 r) (initSt args)) : AFn Tryd.prog 102 args r :=
  AFn.of_code (pv := false) (hint := fun _ => []) (c := Tryd.f102.body.getD .skip) (by kernel_rfl) (by kernel_rfl) Tryd.func102 (by kernel_rfl) (by kernel_rfl) (by kernel_rfl) (of_decide_eq_true (by kernel_rfl)) (Nat.le_of_ble_eq_true ha) (Nat.le_of_ble_eq_true (by kernel_rfl)) (run_ok h)
/-! ### percolate/percolateref10.Same -/
def t_rSame10_0 : List ROp := [⟨(.box 4 46 (.t 0)), (some 2), none, [3], []⟩, ⟨(.box 4 46 (.t 1)), (some 3), none, [], []⟩, ⟨(.mv (.c (.bool false))), (some 4), none, [], []⟩]
def r_rSame10_0 : Reg := ⟨[], t_rSame10_0, [2, 3], [], false⟩
def t_rSame10_1 : List ROp := [⟨(.faddr 0 (.t 2)), (some 5), none, [29], []⟩, ⟨(.load 1 false (.t 5)), (some 6), none, [29], []⟩, ⟨(.faddr 0 (.t 3)), (some 7), none, [29], []⟩, ⟨(.load 1 false (.t 7)), (some 8), none, [29], []⟩, ⟨(.bin .eql (.t 6) (.t 8)), (some 9), none, [29], []⟩, ⟨(.mv (.t 9)), (some 10), none, [29], []⟩, ⟨(.faddr 1 (.t 2)), (some 11), (some (10, true)), [29], []⟩, ⟨(.load 1 false (.t 11)), (some 12), (some (10, true)), [29], []⟩, ⟨(.faddr 1 (.t 3)), (some 13), (some (10, true)), [29], []⟩, ⟨(.load 1 false (.t 13)), (some 14), (some (10, true)), [29], []⟩, ⟨(.beq false (.t 12) (.t 14)), (some 15), (some (10, true)), [29], []⟩, ⟨(.pick (.t 10) (.t 15) (.c (.bool false))), (some 16), none, [29], []⟩, ⟨(.mv (.t 16)), (some 17), none, [29], []⟩, ⟨(.faddr 2 (.t 2)), (some 18), (some (17, true)), [29], []⟩, ⟨(.load 1 false (.t 18)), (some 19), (some (17, true)), [29], []⟩, ⟨(.faddr 2 (.t 3)), (some 20), (some (17, true)), [29], []⟩, ⟨(.load 1 false (.t 20)), (some 21), (some (17, true)), [29], []⟩, ⟨(.bin .eql (.t 19) (.t 21)), (some 22), (some (17, true)), [29], []⟩, ⟨(.pick (.t 17) (.t 22) (.c (.bool false))), (some 23), none, [29], []⟩, ⟨(.mv (.t 23)), (some 24), none, [29], []⟩, ⟨(.faddr 3 (.t 2)), (some 25), (some (24, true)), [29], []⟩, ⟨(.load 1 false (.t 25)), (some 26), (some (24, true)), [29], []⟩, ⟨(.faddr 3 (.t 3)), (some 27), (some (24, true)), [29], []⟩, ⟨(.load 1 false (.t 27)), (some 28), (some (24, true)), [29], []⟩, ⟨(.callv (.c (.clo 102 [] [])) [(.t 26), (.t 28)]), (some 29), (some (24, true)), [], []⟩, ⟨(.pick (.t 24) (.t 29) (.c (.bool false))), (some 30), none, [], []⟩, ⟨(.mv (.t 30)), (some 4), none, [], []⟩]
def r_rSame10_1 : Reg := ⟨[], t_rSame10_1, [29], [], false⟩
def ir_rSame10 : IR := (.seq (.reg r_rSame10_0)
  (.seq (.reg r_rSame10_1)
  .ret))
def res_rSame10 : List RDesc := [(.tmp 4)]
theorem e_rSame10_0 (C : FuncId → List AV → AV → Prop) (σ : St) (K : St → Prop) : runReg C r_rSame10_0 σ K = runOps C t_rSame10_0 (σ.kills [2, 3]) K := rfl
theorem e_rSame10_1 (C : FuncId → List AV → AV → Prop) (σ : St) (K : St → Prop) : runReg C r_rSame10_1 σ K = runOps C t_rSame10_1 (σ.kills [29]) K := rfl
theorem fn_rSame10 {args : List AV} {r : AV} (ha : args.length.ble Tryd.f66.ntmps = true) (h : run (AFn Tryd.prog) ir_rSame10 (endQ res_rSame10 r) (initSt args)) : AFn Tryd.prog 66 args r :=
  AFn.of_code (pv := false) (hint := fun _ => []) (c := Tryd.f66.body.getD .skip) (by kernel_rfl) (by kernel_rfl) Tryd.func66 (by kernel_rfl) (by kernel_rfl) (by kernel_rfl) (of_decide_eq_true (by kernel_rfl)) (Nat.le_of_ble_eq_true ha) (Nat.le_of_ble_eq_true (by kernel_rfl)) (run_ok h)
/-! ### percolate/percolateref38.Same -/
def t_rSame38_0 : List ROp := [⟨(.box 15 48 (.t 0)), (some 2), none, [3], []⟩, ⟨(.box 15 48 (.t 1)), (some 3), none, [], []⟩, ⟨(.mv (.c (.bool false))), (some 4), none, [], []⟩]
def r_rSame38_0 : Reg := ⟨[], t_rSame38_0, [2, 3], [], false⟩
def t_rSame38_1 : List ROp := [⟨(.faddr 0 (.t 2)), (some 5), none, [22], []⟩, ⟨(.load 1 false (.t 5)), (some 6), none, [22], []⟩, ⟨(.faddr 0 (.t 3)), (some 7), none, [22], []⟩, ⟨(.load 1 false (.t 7)), (some 8), none, [22], []⟩, ⟨(.bin .eql (.t 6) (.t 8)), (some 9), none, [22], []⟩, ⟨(.mv (.t 9)), (some 10), none, [22], []⟩, ⟨(.faddr 1 (.t 2)), (some 11), (some (10, true)), [22], []⟩, ⟨(.load 6 true (.t 11)), (some 12), (some (10, true)), [22], []⟩, ⟨(.faddr 1 (.t 3)), (some 13), (some (10, true)), [22], []⟩, ⟨(.load 6 true (.t 13)), (some 14), (some (10, true)), [22], []⟩, ⟨(.feq false [(0, 0), (1, 1), (2, 1), (3, 2), (4, 1), (5, 0)] (.t 12) (.t 14)), (some 15), (some (10, true)), [22], []⟩, ⟨(.pick (.t 10) (.t 15) (.c (.bool false))), (some 16), none, [22], []⟩, ⟨(.mv (.t 16)), (some 17), none, [22], []⟩, ⟨(.faddr 7 (.t 2)), (some 18), (some (17, true)), [22], []⟩, ⟨(.load 4 true (.t 18)), (some 19), (some (17, true)), [22], []⟩, ⟨(.faddr 7 (.t 3)), (some 20), (some (17, true)), [22], []⟩, ⟨(.load 4 true (.t 20)), (some 21), (some (17, true)), [22], []⟩, ⟨(.callv (.c (.clo 66 [] [])) [(.t 19), (.t 21)]), (some 22), (some (17, true)), [], []⟩, ⟨(.pick (.t 17) (.t 22) (.c (.bool false))), (some 23), none, [], []⟩, ⟨(.mv (.t 23)), (some 24), none, [], []⟩, ⟨(.faddr 11 (.t 2)), (some 25), (some (24, true)), [], []⟩, ⟨(.load 1 false (.t 25)), (some 26), (some (24, true)), [], []⟩, ⟨(.faddr 11 (.t 3)), (some 27), (some (24, true)), [], []⟩, ⟨(.load 1 false (.t 27)), (some 28), (some (24, true)), [], []⟩, ⟨(.bin .eql (.t 26) (.t 28)), (some 29), (some (24, true)), [], []⟩, ⟨(.pick (.t 24) (.t 29) (.c (.bool false))), (some 30), none, [], []⟩, ⟨(.mv (.t 30)), (some 31), none, [], []⟩, ⟨(.faddr 12 (.t 2)), (some 32), (some (31, true)), [], []⟩, ⟨(.load 1 false (.t 32)), (some 33), (some (31, true)), [], []⟩, ⟨(.faddr 12 (.t 3)), (some 34), (some (31, true)), [], []⟩, ⟨(.load 1 false (.t 34)), (some 35), (some (31, true)), [], []⟩, ⟨(.bin .eql (.t 33) (.t 35)), (some 36), (some (31, true)), [], []⟩, ⟨(.pick (.t 31) (.t 36) (.c (.bool false))), (some 37), none, [], []⟩, ⟨(.mv (.t 37)), (some 38), none, [], []⟩, ⟨(.faddr 13 (.t 2)), (some 39), (some (38, true)), [], []⟩, ⟨(.load 1 false (.t 39)), (some 40), (some (38, true)), [], []⟩, ⟨(.faddr 13 (.t 3)), (some 41), (some (38, true)), [], []⟩, ⟨(.load 1 false (.t 41)), (some 42), (some (38, true)), [], []⟩, ⟨(.bin .eql (.t 40) (.t 42)), (some 43), (some (38, true)), [], []⟩, ⟨(.pick (.t 38) (.t 43) (.c (.bool false))), (some 44), none, [], []⟩, ⟨(.mv (.t 44)), (some 45), none, [], []⟩, ⟨(.faddr 14 (.t 2)), (some 46), (some (45, true)), [], []⟩, ⟨(.load 1 false (.t 46)), (some 47), (some (45, true)), [], []⟩, ⟨(.faddr 14 (.t 3)), (some 48), (some (45, true)), [], []⟩, ⟨(.load 1 false (.t 48)), (some 49), (some (45, true)), [], []⟩, ⟨(.beq false (.t 47) (.t 49)), (some 50), (some (45, true)), [], []⟩, ⟨(.pick (.t 45) (.t 50) (.c (.bool false))), (some 51), none, [], []⟩, ⟨(.mv (.t 51)), (some 4), none, [], []⟩]
def r_rSame38_1 : Reg := ⟨[], t_rSame38_1, [22], [], false⟩
def ir_rSame38 : IR := (.seq (.reg r_rSame38_0)
  (.seq (.reg r_rSame38_1)
  .ret))
def res_rSame38 : List RDesc := [(.tmp 4)]
theorem e_rSame38_0 (C : FuncId → List AV → AV → Prop) (σ : St) (K : St → Prop) : runReg C r_rSame38_0 σ K = runOps C t_rSame38_0 (σ.kills [2, 3]) K := rfl
theorem e_rSame38_1 (C : FuncId → List AV → AV → Prop) (σ : St) (K : St → Prop) : runReg C r_rSame38_1 σ K = runOps C t_rSame38_1 (σ.kills [22]) K := rfl
theorem fn_rSame38 {args : List AV} {r : AV} (ha : args.length.ble Tryd.f25.ntmps = true) (h : run (AFn Tryd.prog) ir_rSame38 (endQ res_rSame38 r) (initSt args)) : AFn Tryd.prog 25 args r :=
  AFn.of_code (pv := false) (hint := fun _ => []) (c := Tryd.f25.body.getD .skip) (by kernel_rfl) (by kernel_rfl) Tryd.func25 (by kernel_rfl) (by kernel_rfl) (by kernel_rfl) (of_decide_eq_true (by kernel_rfl)) (Nat.le_of_ble_eq_true ha) (Nat.le_of_ble_eq_true (by kernel_rfl)) (run_ok h)
attribute [local go_sem ↓] ir_rEvent
attribute [local go_sem] res_rEvent e_rEvent_0 e_rEvent_1 e_rEvent_2 e_rEvent_3 e_rEvent_4 t_rEvent_4 e_rEvent_5 h_rEvent_5
attribute [local go_sem ↓] ir_near
attribute [local go_sem] res_near e_near_0 e_near_1 t_near_1
attribute [local go_sem ↓] ir_rSame9
attribute [local go_sem] res_rSame9 e_rSame9_0 e_rSame9_1 t_rSame9_1 e_rSame9_2 e_rSame9_3 e_rSame9_4 t_rSame9_4 e_rSame9_5 h_rSame9_5 e_rSame9_6 e_rSame9_7 t_rSame9_7 e_rSame9_9
attribute [local go_sem ↓] ir_rSame10
attribute [local go_sem] res_rSame10 e_rSame10_0 t_rSame10_0 e_rSame10_1 t_rSame10_1
attribute [local go_sem ↓] ir_rSame38
attribute [local go_sem] res_rSame38 e_rSame38_0 t_rSame38_0 e_rSame38_1 t_rSame38_1
set_option maxHeartbeats 1000000 in
theorem rEvent_ok (e : Evt) (h : FitE e) : AFn Tryd.prog 23 [e.a] (.str (evF e)) := by
  refine fn_rEvent rfl ?_
  have ef := evF_flat e
  have e0 : sep3 = (⟨#[32, 58, 32]⟩ : ByteArray) := rfl
  have d6 := tailL_size e h
  have d5 := lineX_size e.op
  generalize evF e = R at *
  obtain ⟨hc, hb, hp, hn, hk, hh, hr, hv, hs⟩ := h
  have c1 := rDec_ok e.client hc
  have c2 := rDec_ok e.began hb
  have c3 := rDec_ok e.point hp
  have c4 := rDec_ok e.ended hn
  have c5 := rLineX e.op (by omega) (by omega)
  have c6 := r10Line_ok e.op e.ans hr hv hs
  have d1 := decS_small e.client hc.1 hc.2
  have d2 := decS_small e.began hb.1 hb.2
  have d3 := decS_small e.point hp.1 hp.2
  have d4 := decS_small e.ended hn.1 hn.2
  rw [e0] at ef
  obtain ⟨client, op, ans, began, point, ended, done⟩ := e
  obtain ⟨kind, key, hi, opn, val, lim⟩ := op
  obtain ⟨err, has, v, prs⟩ := ans
  simp only [tailL] at ef c1 c2 c3 c4 c5 c6 d1 d2 d3 d4 d5 d6
  generalize decS client = s1 at *
  generalize decS began = s2 at *
  generalize decS point = s3 at *
  generalize decS ended = s4 at *
  generalize lineX ⟨kind, key, hi, opn, val, lim⟩ = s5 at *
  cases done
  · simp only [Bool.false_eq_true, if_false] at ef d6
    (repeat (first | simp (maxSteps := 4000000) only [go_sem, ↓reduceIte, reduceCtorEq, Nat.reduceEqDiff, Nat.reduceBEq, Nat.reduceAdd, Nat.reduceSub, Nat.reduceMul, Nat.reduceLT, Nat.reduceLeDiff, Nat.reduceBNe, Int.reduceBEq, Int.reduceBNe, Int.reduceLT, Int.reduceLE, Par.a, Opr.a, Ans.a, Evt.a, nul, ByteArray.size_append, List.size_toArray, List.length_cons, List.length_nil] | refine calling (c1) ?_ | refine callingH (c1) ?_ | refine calling (c2) ?_ | refine callingH (c2) ?_ | refine calling (c3) ?_ | refine callingH (c3) ?_ | refine calling (c4) ?_ | refine callingH (c4) ?_ | refine calling (c5) ?_ | refine callingH (c5) ?_ | refine And.intro (by omega) ?_ | refine And.intro (fun d hd => by (repeat (rcases hd with rfl | hd; · exact ⟨rfl, rfl⟩)); cases hd) ?_ | refine And.intro (And.intro (by omega) (fun d hd => by (repeat (rcases hd with rfl | hd; · exact ⟨rfl, rfl⟩)); cases hd)) ?_))
    exact ef.symm
  · simp only [if_true] at ef d6
    generalize ansL ⟨kind, key, hi, opn, val, lim⟩ ⟨err, has, v, prs⟩ = s6 at *
    (repeat (first | simp (maxSteps := 4000000) only [go_sem, ↓reduceIte, reduceCtorEq, Nat.reduceEqDiff, Nat.reduceBEq, Nat.reduceAdd, Nat.reduceSub, Nat.reduceMul, Nat.reduceLT, Nat.reduceLeDiff, Nat.reduceBNe, Int.reduceBEq, Int.reduceBNe, Int.reduceLT, Int.reduceLE, Par.a, Opr.a, Ans.a, Evt.a, nul, ByteArray.size_append, List.size_toArray, List.length_cons, List.length_nil] | refine calling (c6) ?_ | refine callingH (c6) ?_ | refine calling (c1) ?_ | refine callingH (c1) ?_ | refine calling (c2) ?_ | refine callingH (c2) ?_ | refine calling (c3) ?_ | refine callingH (c3) ?_ | refine calling (c4) ?_ | refine callingH (c4) ?_ | refine calling (c5) ?_ | refine callingH (c5) ?_ | refine And.intro (by omega) ?_ | refine And.intro (fun d hd => by (repeat (rcases hd with rfl | hd; · exact ⟨rfl, rfl⟩)); cases hd) ?_ | refine And.intro (And.intro (by omega) (fun d hd => by (repeat (rcases hd with rfl | hd; · exact ⟨rfl, rfl⟩)); cases hd)) ?_))
    exact ef.symm
theorem near_ok (n : Int) : AFn Tryd.prog 64 [.int .i64 n] (.bool (nearB n)) := by
  refine fn_near rfl ?_
  unfold nearB
  by_cases h1 : 0 ≤ n <;> by_cases h2 : n ≤ 999999999 <;> (simp (maxSteps := 4000000) only [go_sem, ↓reduceIte, reduceCtorEq, Nat.reduceEqDiff, Nat.reduceBEq, Nat.reduceAdd, Nat.reduceSub, Nat.reduceMul, Nat.reduceLT, Nat.reduceLeDiff, Nat.reduceBNe, Int.reduceBEq, Int.reduceBNe, Int.reduceLT, Int.reduceLE, Par.a, Opr.a, Ans.a, Evt.a, nul, h1, h2, decide_true, decide_false, Bool.and_true, Bool.and_false, Bool.and_self, Bool.true_and, Bool.false_and])
def s9Inv (a b : List Par) (r : Bool) (k : Nat) (σ : St) : Prop :=
  ∃ j : Nat, j ≤ a.length ∧ k = a.length - j ∧ σ.T 0 = .sl (a.map Par.a) ∧ σ.T 1 = .sl (b.map Par.a) ∧ σ.T 5 = .int .i64 j ∧ r = sameP (a.drop j) (b.drop j)
theorem sameP_len : ∀ {a b : List Par}, a.length ≠ b.length → sameP a b = false
  | [], [], h => absurd rfl h
  | [], _ :: _, _ => rfl
  | _ :: _, [], _ => rfl
  | x :: l, y :: m, h => by
    show (eqP x y && sameP l m) = false
    rw [sameP_len (a := l) (b := m) (fun e => h (by simp [e])), Bool.and_false]
set_option maxHeartbeats 1000000 in
theorem rSame9_ok (a b : List Par) (ha : a.length ≤ 1000000000) (hb : b.length ≤ 281474976710656) : AFn Tryd.prog 102 [.sl (a.map Par.a), .sl (b.map Par.a)] (.bool (sameP a b)) := by
  refine fn_rSame9 rfl ?_
  by_cases hl : a.length = b.length
  case neg =>
    have hl' : ((a.length : Int) != (b.length : Int)) = true := by simp; omega
    rw [sameP_len hl]
    simp (maxSteps := 4000000) only [go_sem, ↓reduceIte, reduceCtorEq, Nat.reduceEqDiff, Nat.reduceBEq, Nat.reduceAdd, Nat.reduceSub, Nat.reduceMul, Nat.reduceLT, Nat.reduceLeDiff, Nat.reduceBNe, Int.reduceBEq, Int.reduceBNe, Int.reduceLT, Int.reduceLE, Par.a, Opr.a, Ans.a, Evt.a, nul, List.length_map, hl']
  have hl' : ((a.length : Int) != (b.length : Int)) = false := by simp [hl]
  simp (maxSteps := 4000000) only [go_sem, ↓reduceIte, reduceCtorEq, Nat.reduceEqDiff, Nat.reduceBEq, Nat.reduceAdd, Nat.reduceSub, Nat.reduceMul, Nat.reduceLT, Nat.reduceLeDiff, Nat.reduceBNe, Int.reduceBEq, Int.reduceBNe, Int.reduceLT, Int.reduceLE, Par.a, Opr.a, Ans.a, Evt.a, nul, List.length_map, hl']
  refine run_loop (s9Inv a b (sameP a b)) (k := a.length) ⟨0, by omega, rfl, rfl, rfl, rfl, rfl⟩ ?_
  rintro k σ ⟨j, hj, rfl, t0, t1, t5, hr⟩
  simp only [r_rSame9_l8]
  generalize sameP a b = R at *
  by_cases hlt : j < a.length
  · have hlt' : (j : Int) < (a.length : Int) := by omega
    have hlt'' : (j : Int) < (b.length : Int) := by omega
    obtain ⟨x, hx⟩ := get_lt hlt
    obtain ⟨y, hy⟩ := get_lt (l := b) (j := j) (by omega)
    have hgj := at_map (f := Par.a) hx
    have hgy := at_map (f := Par.a) hy
    simp only [Par.a] at hgj hgy
    have hw := wrapS (j := j) (by omega)
    rw [drop_at hx, drop_at hy] at hr
    have hr' : R = ((x.key.toList == y.key.toList) && (x.val.toList == y.val.toList) && sameP (a.drop (j + 1)) (b.drop (j + 1))) := hr
    generalize hB : (x.key.toList == y.key.toList) = b1 at *
    generalize hC : (x.val.toList == y.val.toList) = b2 at *
    cases b1 <;> cases b2
    case true.true =>
      simp (maxSteps := 4000000) only [go_sem, ↓reduceIte, reduceCtorEq, Nat.reduceEqDiff, Nat.reduceBEq, Nat.reduceAdd, Nat.reduceSub, Nat.reduceMul, Nat.reduceLT, Nat.reduceLeDiff, Nat.reduceBNe, Int.reduceBEq, Int.reduceBNe, Int.reduceLT, Int.reduceLE, Par.a, Opr.a, Ans.a, Evt.a, nul, t0, t1, t5, hlt', hlt'', hgj, hgy, hB, hC, List.length_map, Int.toNat_natCast, hw]
      (repeat refine And.intro (by omega) ?_)
      refine ⟨a.length - (j + 1), by omega, j + 1, by omega, rfl, ?_, ?_, ?_, by rw [hr']; simp⟩
      · simp (maxSteps := 4000000) only [go_sem, ↓reduceIte, reduceCtorEq, Nat.reduceEqDiff, Nat.reduceBEq, Nat.reduceAdd, Nat.reduceSub, Nat.reduceMul, Nat.reduceLT, Nat.reduceLeDiff, Nat.reduceBNe, Int.reduceBEq, Int.reduceBNe, Int.reduceLT, Int.reduceLE, Par.a, Opr.a, Ans.a, Evt.a, nul, t0]
      · simp (maxSteps := 4000000) only [go_sem, ↓reduceIte, reduceCtorEq, Nat.reduceEqDiff, Nat.reduceBEq, Nat.reduceAdd, Nat.reduceSub, Nat.reduceMul, Nat.reduceLT, Nat.reduceLeDiff, Nat.reduceBNe, Int.reduceBEq, Int.reduceBNe, Int.reduceLT, Int.reduceLE, Par.a, Opr.a, Ans.a, Evt.a, nul, t1]
      · simp (maxSteps := 4000000) only [go_sem, ↓reduceIte, reduceCtorEq, Nat.reduceEqDiff, Nat.reduceBEq, Nat.reduceAdd, Nat.reduceSub, Nat.reduceMul, Nat.reduceLT, Nat.reduceLeDiff, Nat.reduceBNe, Int.reduceBEq, Int.reduceBNe, Int.reduceLT, Int.reduceLE, Par.a, Opr.a, Ans.a, Evt.a, nul, hw]
    all_goals simp (maxSteps := 4000000) only [go_sem, ↓reduceIte, reduceCtorEq, Nat.reduceEqDiff, Nat.reduceBEq, Nat.reduceAdd, Nat.reduceSub, Nat.reduceMul, Nat.reduceLT, Nat.reduceLeDiff, Nat.reduceBNe, Int.reduceBEq, Int.reduceBNe, Int.reduceLT, Int.reduceLE, Par.a, Opr.a, Ans.a, Evt.a, nul, t0, t1, t5, hlt', hlt'', hgj, hgy, hB, hC, List.length_map, Int.toNat_natCast, hw]
    all_goals (repeat refine And.intro (by omega) ?_)
    all_goals rw [hr']; rfl
  · have hlt' : ¬ (j : Int) < (a.length : Int) := by omega
    simp (maxSteps := 4000000) only [go_sem, ↓reduceIte, reduceCtorEq, Nat.reduceEqDiff, Nat.reduceBEq, Nat.reduceAdd, Nat.reduceSub, Nat.reduceMul, Nat.reduceLT, Nat.reduceLeDiff, Nat.reduceBNe, Int.reduceBEq, Int.reduceBNe, Int.reduceLT, Int.reduceLE, Par.a, Opr.a, Ans.a, Evt.a, nul, t0, t1, t5, hlt', List.length_map]
    rw [hr, List.drop_eq_nil_of_le (by omega), List.drop_eq_nil_of_le (by omega)]; rfl
theorem rSame10_ok (a b : Ans) (ha : a.prs.length ≤ 1000000000) (hb : b.prs.length ≤ 281474976710656) : AFn Tryd.prog 66 [a.a, b.a] (.bool (sameA a b)) := by
  refine fn_rSame10 rfl ?_
  have c1 := rSame9_ok a.prs b.prs ha hb
  unfold sameA
  obtain ⟨err, has, v, prs⟩ := a
  obtain ⟨err', has', v', prs'⟩ := b
  simp only at c1 ⊢
  generalize sameP prs prs' = b4 at *
  generalize h1 : (err == err') = b1 at *
  generalize h2 : (has == has') = b2 at *
  generalize h3 : (v.toList == v'.toList) = b3 at *
  cases b1
  · (repeat (first | simp (maxSteps := 4000000) only [go_sem, ↓reduceIte, reduceCtorEq, Nat.reduceEqDiff, Nat.reduceBEq, Nat.reduceAdd, Nat.reduceSub, Nat.reduceMul, Nat.reduceLT, Nat.reduceLeDiff, Nat.reduceBNe, Int.reduceBEq, Int.reduceBNe, Int.reduceLT, Int.reduceLE, Par.a, Opr.a, Ans.a, Evt.a, nul, h1] | refine calling (c1) ?_ | refine callingH (c1) ?_ | refine And.intro (by omega) ?_ | refine And.intro (fun d hd => by (repeat (rcases hd with rfl | hd; · exact ⟨rfl, rfl⟩)); cases hd) ?_ | refine And.intro (And.intro (by omega) (fun d hd => by (repeat (rcases hd with rfl | hd; · exact ⟨rfl, rfl⟩)); cases hd)) ?_))
  · cases b2
    · (repeat (first | simp (maxSteps := 4000000) only [go_sem, ↓reduceIte, reduceCtorEq, Nat.reduceEqDiff, Nat.reduceBEq, Nat.reduceAdd, Nat.reduceSub, Nat.reduceMul, Nat.reduceLT, Nat.reduceLeDiff, Nat.reduceBNe, Int.reduceBEq, Int.reduceBNe, Int.reduceLT, Int.reduceLE, Par.a, Opr.a, Ans.a, Evt.a, nul, h1, h2] | refine calling (c1) ?_ | refine callingH (c1) ?_ | refine And.intro (by omega) ?_ | refine And.intro (fun d hd => by (repeat (rcases hd with rfl | hd; · exact ⟨rfl, rfl⟩)); cases hd) ?_ | refine And.intro (And.intro (by omega) (fun d hd => by (repeat (rcases hd with rfl | hd; · exact ⟨rfl, rfl⟩)); cases hd)) ?_))
    · cases b3
      · (repeat (first | simp (maxSteps := 4000000) only [go_sem, ↓reduceIte, reduceCtorEq, Nat.reduceEqDiff, Nat.reduceBEq, Nat.reduceAdd, Nat.reduceSub, Nat.reduceMul, Nat.reduceLT, Nat.reduceLeDiff, Nat.reduceBNe, Int.reduceBEq, Int.reduceBNe, Int.reduceLT, Int.reduceLE, Par.a, Opr.a, Ans.a, Evt.a, nul, h1, h2, h3] | refine calling (c1) ?_ | refine callingH (c1) ?_ | refine And.intro (by omega) ?_ | refine And.intro (fun d hd => by (repeat (rcases hd with rfl | hd; · exact ⟨rfl, rfl⟩)); cases hd) ?_ | refine And.intro (And.intro (by omega) (fun d hd => by (repeat (rcases hd with rfl | hd; · exact ⟨rfl, rfl⟩)); cases hd)) ?_))
      · (repeat (first | simp (maxSteps := 4000000) only [go_sem, ↓reduceIte, reduceCtorEq, Nat.reduceEqDiff, Nat.reduceBEq, Nat.reduceAdd, Nat.reduceSub, Nat.reduceMul, Nat.reduceLT, Nat.reduceLeDiff, Nat.reduceBNe, Int.reduceBEq, Int.reduceBNe, Int.reduceLT, Int.reduceLE, Par.a, Opr.a, Ans.a, Evt.a, nul, h1, h2, h3] | refine calling (c1) ?_ | refine callingH (c1) ?_ | refine And.intro (by omega) ?_ | refine And.intro (fun d hd => by (repeat (rcases hd with rfl | hd; · exact ⟨rfl, rfl⟩)); cases hd) ?_ | refine And.intro (And.intro (by omega) (fun d hd => by (repeat (rcases hd with rfl | hd; · exact ⟨rfl, rfl⟩)); cases hd)) ?_))
set_option maxHeartbeats 1000000 in
theorem rSame38_ok (a b : Evt) (ha : a.ans.prs.length ≤ 1000000000) (hb : b.ans.prs.length ≤ 281474976710656) : AFn Tryd.prog 25 [a.a, b.a] (.bool (sameE a b)) := by
  refine fn_rSame38 rfl ?_
  have c1 := rSame10_ok a.ans b.ans ha hb
  unfold sameE
  have h2 : eqO a.op b.op = ((a.op.kind == b.op.kind) && ((a.op.key.toList == b.op.key.toList) && ((a.op.hi.toList == b.op.hi.toList) && ((a.op.op == b.op.op) && ((a.op.val.toList == b.op.val.toList) && (a.op.lim == b.op.lim)))))) := by
    unfold eqO; simp only [Bool.and_assoc]
  obtain ⟨client, op, ans, began, point, ended, done⟩ := a
  obtain ⟨client', op', ans', began', point', ended', done'⟩ := b
  obtain ⟨kind, key, hi, opn, val, lim⟩ := op
  obtain ⟨kind', key', hi', opn', val', lim'⟩ := op'
  simp only at c1 h2 ⊢
  generalize eqO _ _ = b2 at *
  generalize sameA ans ans' = b3 at *
  generalize h1 : (client == client') = b1 at *
  generalize h4 : (began == began') = b4 at *
  generalize h5 : (point == point') = b5 at *
  generalize h6 : (ended == ended') = b6 at *
  generalize h7 : (done == done') = b7 at *
  replace h2 := h2.symm
  cases b1
  · (repeat (first | simp (maxSteps := 4000000) only [go_sem, ↓reduceIte, reduceCtorEq, Nat.reduceEqDiff, Nat.reduceBEq, Nat.reduceAdd, Nat.reduceSub, Nat.reduceMul, Nat.reduceLT, Nat.reduceLeDiff, Nat.reduceBNe, Int.reduceBEq, Int.reduceBNe, Int.reduceLT, Int.reduceLE, Par.a, Opr.a, Ans.a, Evt.a, nul, h1] | refine calling (c1) ?_ | refine callingH (c1) ?_ | refine And.intro (by omega) ?_ | refine And.intro (fun d hd => by (repeat (rcases hd with rfl | hd; · exact ⟨rfl, rfl⟩)); cases hd) ?_ | refine And.intro (And.intro (by omega) (fun d hd => by (repeat (rcases hd with rfl | hd; · exact ⟨rfl, rfl⟩)); cases hd)) ?_))
  cases b2
  · (repeat (first | simp (maxSteps := 4000000) only [go_sem, ↓reduceIte, reduceCtorEq, Nat.reduceEqDiff, Nat.reduceBEq, Nat.reduceAdd, Nat.reduceSub, Nat.reduceMul, Nat.reduceLT, Nat.reduceLeDiff, Nat.reduceBNe, Int.reduceBEq, Int.reduceBNe, Int.reduceLT, Int.reduceLE, Par.a, Opr.a, Ans.a, Evt.a, nul, h1, h2] | refine calling (c1) ?_ | refine callingH (c1) ?_ | refine And.intro (by omega) ?_ | refine And.intro (fun d hd => by (repeat (rcases hd with rfl | hd; · exact ⟨rfl, rfl⟩)); cases hd) ?_ | refine And.intro (And.intro (by omega) (fun d hd => by (repeat (rcases hd with rfl | hd; · exact ⟨rfl, rfl⟩)); cases hd)) ?_))
  cases b3
  · (repeat (first | simp (maxSteps := 4000000) only [go_sem, ↓reduceIte, reduceCtorEq, Nat.reduceEqDiff, Nat.reduceBEq, Nat.reduceAdd, Nat.reduceSub, Nat.reduceMul, Nat.reduceLT, Nat.reduceLeDiff, Nat.reduceBNe, Int.reduceBEq, Int.reduceBNe, Int.reduceLT, Int.reduceLE, Par.a, Opr.a, Ans.a, Evt.a, nul, h1, h2] | refine calling (c1) ?_ | refine callingH (c1) ?_ | refine And.intro (by omega) ?_ | refine And.intro (fun d hd => by (repeat (rcases hd with rfl | hd; · exact ⟨rfl, rfl⟩)); cases hd) ?_ | refine And.intro (And.intro (by omega) (fun d hd => by (repeat (rcases hd with rfl | hd; · exact ⟨rfl, rfl⟩)); cases hd)) ?_))
  cases b4
  · (repeat (first | simp (maxSteps := 4000000) only [go_sem, ↓reduceIte, reduceCtorEq, Nat.reduceEqDiff, Nat.reduceBEq, Nat.reduceAdd, Nat.reduceSub, Nat.reduceMul, Nat.reduceLT, Nat.reduceLeDiff, Nat.reduceBNe, Int.reduceBEq, Int.reduceBNe, Int.reduceLT, Int.reduceLE, Par.a, Opr.a, Ans.a, Evt.a, nul, h1, h2, h4] | refine calling (c1) ?_ | refine callingH (c1) ?_ | refine And.intro (by omega) ?_ | refine And.intro (fun d hd => by (repeat (rcases hd with rfl | hd; · exact ⟨rfl, rfl⟩)); cases hd) ?_ | refine And.intro (And.intro (by omega) (fun d hd => by (repeat (rcases hd with rfl | hd; · exact ⟨rfl, rfl⟩)); cases hd)) ?_))
  cases b5
  · (repeat (first | simp (maxSteps := 4000000) only [go_sem, ↓reduceIte, reduceCtorEq, Nat.reduceEqDiff, Nat.reduceBEq, Nat.reduceAdd, Nat.reduceSub, Nat.reduceMul, Nat.reduceLT, Nat.reduceLeDiff, Nat.reduceBNe, Int.reduceBEq, Int.reduceBNe, Int.reduceLT, Int.reduceLE, Par.a, Opr.a, Ans.a, Evt.a, nul, h1, h2, h4, h5] | refine calling (c1) ?_ | refine callingH (c1) ?_ | refine And.intro (by omega) ?_ | refine And.intro (fun d hd => by (repeat (rcases hd with rfl | hd; · exact ⟨rfl, rfl⟩)); cases hd) ?_ | refine And.intro (And.intro (by omega) (fun d hd => by (repeat (rcases hd with rfl | hd; · exact ⟨rfl, rfl⟩)); cases hd)) ?_))
  cases b6
  · (repeat (first | simp (maxSteps := 4000000) only [go_sem, ↓reduceIte, reduceCtorEq, Nat.reduceEqDiff, Nat.reduceBEq, Nat.reduceAdd, Nat.reduceSub, Nat.reduceMul, Nat.reduceLT, Nat.reduceLeDiff, Nat.reduceBNe, Int.reduceBEq, Int.reduceBNe, Int.reduceLT, Int.reduceLE, Par.a, Opr.a, Ans.a, Evt.a, nul, h1, h2, h4, h5, h6] | refine calling (c1) ?_ | refine callingH (c1) ?_ | refine And.intro (by omega) ?_ | refine And.intro (fun d hd => by (repeat (rcases hd with rfl | hd; · exact ⟨rfl, rfl⟩)); cases hd) ?_ | refine And.intro (And.intro (by omega) (fun d hd => by (repeat (rcases hd with rfl | hd; · exact ⟨rfl, rfl⟩)); cases hd)) ?_))
  · (repeat (first | simp (maxSteps := 4000000) only [go_sem, ↓reduceIte, reduceCtorEq, Nat.reduceEqDiff, Nat.reduceBEq, Nat.reduceAdd, Nat.reduceSub, Nat.reduceMul, Nat.reduceLT, Nat.reduceLeDiff, Nat.reduceBNe, Int.reduceBEq, Int.reduceBNe, Int.reduceLT, Int.reduceLE, Par.a, Opr.a, Ans.a, Evt.a, nul, h1, h2, h4, h5, h6, h7] | refine calling (c1) ?_ | refine callingH (c1) ?_ | refine And.intro (by omega) ?_ | refine And.intro (fun d hd => by (repeat (rcases hd with rfl | hd; · exact ⟨rfl, rfl⟩)); cases hd) ?_ | refine And.intro (And.intro (by omega) (fun d hd => by (repeat (rcases hd with rfl | hd; · exact ⟨rfl, rfl⟩)); cases hd)) ?_))
end
end Go.Proofs.YthfdbjocpicbmaaDoor
