/-
  Part 15 of a proof: LoE, LoF, LoG.
-/
import Derived.Test.YthfdbjocpicbmaaLO14
namespace Go.Proofs.Ythfdbjocpicbmaa
attribute [local go_sem] ev0 ev1 ev2 ev3 ev4 evA stHOk.eq_1 stHOk.eq_2 stHSt.eq_1 stHSt.eq_2 okV valV fzV okF valF okBld valBld mxOk.eq_1 mxOk.eq_2 mxVal.eq_1 mxVal.eq_2 cellFit.eq_1 cellFit.eq_2 cellFit.eq_3 cellEq.eq_1 cellEq.eq_2 cellEq.eq_3 upd_at AV.flatB AV.flatBs binIok binIV binSok binSV cellsOk.eq_1 cellsOk.eq_2 cellsVal.eq_1 cellsVal.eq_2 objCells.eq_1 objCells.eq_2 objZ.eq_1 objZ.eq_2 objProt.eq_1 objProt.eq_2 oneObj ptrOk.eq_1 ptrOk.eq_2 ptrOk.eq_3 ptrCells.eq_1 ptrCells.eq_2 ptrCells.eq_3 lenOk.eq_1 lenOk.eq_2 lenOk.eq_3 lenOk.eq_4 lenVal.eq_1 lenVal.eq_2 lenVal.eq_3 lenVal.eq_4 faOk.eq_1 faOk.eq_2 faOk.eq_3 faVal.eq_1 faVal.eq_2 faVal.eq_3 iaOk.eq_1 iaOk.eq_2 iaOk.eq_3 iaVal.eq_1 iaVal.eq_2 iaVal.eq_3 slcLen.eq_1 slcLen.eq_2 slcLen.eq_3 slcLen.eq_4 bdOk.eq_1 bdOk.eq_2 bdVal.eq_1 bdVal.eq_2 slcOk.eq_1 slcOk.eq_2 slcOk.eq_3 slcOk.eq_4 slcVal.eq_1 slcVal.eq_2 slcVal.eq_3 slcVal.eq_4 slcFz.eq_1 slcFz.eq_2 loK.eq_1 loK.eq_2 loK.eq_3 rsVal.eq_1 rsVal.eq_2 rsVal.eq_3 byOk.eq_1 byOk.eq_2 byOk.eq_3 byOk.eq_4 byOk.eq_5 byOk.eq_6 byOk.eq_7 byOk.eq_8 byVal.eq_1 byVal.eq_2 byVal.eq_3 byFz.eq_1 byFz.eq_2 byFz.eq_3 byOks byVals byFzs allOne resSt.eq_1 resSt.eq_2 resName.eq_1 resName.eq_2 stOk.eq_1 stOk.eq_2 stArr.eq_1 stArr.eq_2 stSt.eq_1 stSt.eq_2 AV.patch nameOk_none gB.eq_1 gB.eq_2 gB.eq_3 gIs.eq_1 gIs.eq_2 gIs.eq_3 retV resV resVs evalV cellsV St.byval List.getD_cons_zero List.getD_cons_succ List.getD_nil List.map_cons List.map_nil List.length_cons List.length_nil List.take_succ_cons List.take_zero List.drop_succ_cons List.drop_zero List.headD_cons List.set_cons_zero List.append_nil List.nil_append List.cons_append List.contains_cons List.contains_nil List.elem_cons List.elem_nil List.all_cons List.all_nil List.getElem?_cons_zero List.getElem?_cons_succ List.filterMap_cons List.filterMap_nil Option.isSome_some Option.isSome_none Option.map_some Option.map_none Option.some.injEq AV.int.injEq AV.bool.injEq AV.str.injEq AV.tup.injEq AV.agg.injEq AV.sl.injEq List.cons.injEq Bool.false_eq_true Bool.true_eq_false Bool.not_true Bool.not_false Bool.and_true Bool.true_and Bool.or_false Bool.or_true Bool.false_or Bool.true_or Bool.or_self Bool.and_self Bool.not_eq_true' Bool.not_eq_false' Bool.not_not beq_self_eq_true true_and and_true false_and and_false and_self not_true_eq_false not_false_eq_true forall_const true_implies false_implies implies_true imp_self Nat.lt_add_one Nat.le_refl Nat.zero_le Nat.add_zero Nat.zero_add decide_true decide_false decide_eq_true_eq decide_eq_false_iff_not exists_eq_left exists_eq_left' ge_iff_le gt_iff_lt ite_branch ite_branch' nilOk.eq_1 nilOk.eq_2 nilMay.eq_1 nilMay.eq_2 AV.isSl.eq_1 objTy'.eq_1 objTy'.eq_2 apSt.eq_1 apArr.eq_1 apArr.eq_2 apTwo.eq_1 apTwo.eq_2 apSt2.eq_1 apArr2.eq_1 apArr2.eq_2 slOf.eq_1 fitsV List.mem_cons List.not_mem_nil Bool.false_and Bool.and_false primOk.eq_1 primOk.eq_2 primOk.eq_3 primOk.eq_4 primOk.eq_5 primVal.eq_1 primVal.eq_2 primVal.eq_3 primVal.eq_4 primVal.eq_5 mOk.eq_1 mOk.eq_2 mVal.eq_1 mVal.eq_2 mFz.eq_1 mFz.eq_2 mOks mVals mFzs mCalOk.eq_1 mCalOk.eq_2 mFn.eq_1 mFn.eq_2 mArgs.eq_1 mArgs.eq_2 ckOk.eq_1 ckOk.eq_2 cloOk.eq_1 ptrAt.eq_1 sh.eq_1 sh.eq_2 sh.eq_3 sh.eq_4 sh.eq_5 sh.eq_6 retM shH_small evM entOk.eq_1 entOk.eq_2 ents.eq_1 ents.eq_2 kI.eq_1 mpOk.eq_1 mpR.eq_1 lkV.eq_1 lkV.eq_2 remp.eq_2 evP pvOk.eq_1 pvOk.eq_2 pvVal.eq_1 pvVal.eq_2 plOk.eq_1 plOk.eq_2 plOk.eq_3 plV.eq_1 plV.eq_2 plF.eq_1 plF.eq_2 plVal.eq_1 plVal.eq_2 plFz.eq_1 plFz.eq_2 lpOk.eq_1 lpOk.eq_2 lpVal.eq_1 lpVal.eq_2 lpFz.eq_1 lpFz.eq_2 stpOk.eq_1 stpOk.eq_2 stpSt.eq_1 stpSt.eq_2 stpArr.eq_1 keepS.eq_1 keepS.eq_2
section
/-
  The order of a tree's slots, row by row: the code, walked.
-/
open Go.RowKit
set_option linter.unusedVariables false
set_option linter.unusedSimpArgs false
set_option maxRecDepth 100000
attribute [local go_sem ↓] runOp headOp
/-! ### percolate/ladder.Order -/
def r_lOrder_0 : Reg := ⟨[], [⟨(.mknil 1 3), (some 2), none, [], []⟩], [2], [], false⟩
def t_lOrder_1 : List ROp := [⟨(.mv (.t 0)), (some 12), none, [13], []⟩, ⟨(.callv (.c (.clo 51 [] [])) [(.t 12)]), (some 13), none, [], []⟩, ⟨(.mv (.t 13)), (some 3), none, [], []⟩]
def r_lOrder_1 : Reg := ⟨[], t_lOrder_1, [13], [], false⟩
def r_lOrder_2 : Reg := ⟨[], [⟨(.mknil 1 3), (some 4), none, [], []⟩], [4], [], false⟩
def r_lOrder_3 : List XOp := [(.mkmap 14 82), (.op [] ⟨(.mv (.t 14)), (some 5), none, [], []⟩)]
def r_lOrder_4 : Reg := ⟨[], [⟨(.bsl 1 3 [(.c (.int .i64 0))]), (some 15), none, [], []⟩, ⟨(.mv (.t 15)), (some 6), none, [], []⟩], [15], [], false⟩
def t_lOrder_5 : List ROp := [⟨(.mv (.t 6)), (some 16), none, [], []⟩, ⟨(.len false (.t 16)), (some 17), none, [], []⟩, ⟨(.bin .gtr (.t 17) (.c (.int .i64 0))), (some 18), none, [], []⟩]
def r_lOrder_5 : Reg := ⟨[], t_lOrder_5, [], [], false⟩
def r_lOrder_6 : Reg := ⟨[], [⟨(.mknil 1 3), (some 7), none, [], []⟩], [7], [], false⟩
def t_lOrder_7 : List ROp := [⟨(.mv (.t 6)), (some 19), none, [], []⟩, ⟨(.len false (.t 19)), (some 20), none, [], []⟩, ⟨(.mv (.c (.int .i64 0))), (some 21), none, [], []⟩]
def r_lOrder_7 : Reg := ⟨[], t_lOrder_7, [], [], false⟩
def r_lOrder_8 : Reg := ⟨[], [⟨(.bin .lss (.t 21) (.t 20)), (some 22), none, [], []⟩], [], [], false⟩
def t_lOrder_9 : List ROp := [⟨(.iaddr 1 (.t 19) (.t 21)), (some 23), none, [], []⟩, ⟨(.load 1 false (.t 23)), (some 24), none, [], []⟩, ⟨(.mv (.t 24)), (some 9), none, [], []⟩]
def r_lOrder_9 : Reg := ⟨[], t_lOrder_9, [], [], false⟩
def r_lOrder_10 : List XOp := [(.op [] ⟨(.mv (.t 3)), (some 26), none, [], []⟩), (.op [] ⟨(.mv (.t 9)), (some 27), none, [], []⟩), (.mlook 28 true (.t 26) (.t 27) (.agg [(.int .i64 0), (.int .i64 0), (.sl []), (.sl []), (.str ⟨#[]⟩), (.bool false), (.int .i64 0), (.int .i64 0), (.sl []), (.sl [])]) none), (.op [] ⟨(.mv (.t 28)), (some 25), none, [], []⟩), (.op [] ⟨(.ext 0 (.t 25)), (some 29), none, [], []⟩), (.op [] ⟨(.ext 1 (.t 25)), (some 30), none, [], []⟩), (.op [10] ⟨(.alloc 10 36 (.agg [(.int .i64 0), (.int .i64 0), (.sl []), (.sl []), (.str ⟨#[]⟩), (.bool false), (.int .i64 0), (.int .i64 0), (.sl []), (.sl [])])), (some 10), none, [], []⟩), (.op [] ⟨(.store 10 (.t 10) (.t 29)), none, none, [], []⟩), (.op [] ⟨(.mv (.t 30)), (some 11), none, [], []⟩)]
def r_lOrder_11 : List XOp := [(.op [] ⟨(.mv (.t 11)), (some 31), none, [], []⟩), (.op [] ⟨(.mv (.t 31)), (some 32), none, [], []⟩), (.op [] ⟨(.mv (.t 5)), (some 33), (some (32, true)), [], []⟩), (.op [] ⟨(.mv (.t 9)), (some 34), (some (32, true)), [], []⟩), (.mlook 35 false (.t 33) (.t 34) (.bool false) (some (32, true))), (.op [] ⟨(.un .not (.t 35)), (some 36), (some (32, true)), [], []⟩), (.op [] ⟨(.pick (.t 32) (.t 36) (.c (.bool false))), (some 37), none, [], []⟩)]
def r_lOrder_12 : List XOp := [(.op [] ⟨(.mv (.t 5)), (some 38), none, [], []⟩), (.op [] ⟨(.mv (.t 9)), (some 39), none, [], []⟩), (.mupd (.t 38) (.t 39) (.c (.bool true)))]
def t_lOrder_13 : List ROp := [⟨(.mv (.t 4)), (some 40), none, [42], []⟩, ⟨(.mv (.t 9)), (some 41), none, [42], []⟩, ⟨(.bsl 1 3 [(.t 41)]), (some 42), none, [], []⟩, ⟨(.append 1 3 8 (.t 40) (.t 42)), (some 43), none, [], []⟩, ⟨(.mv (.t 43)), (some 4), none, [], []⟩]
def r_lOrder_13 : Reg := ⟨[], t_lOrder_13, [42], [], false⟩
def t_lOrder_14 : List ROp := [⟨(.mv (.t 7)), (some 44), none, [], []⟩, ⟨(.faddr 3 (.t 10)), (some 45), none, [], []⟩, ⟨(.load 1 false (.t 45)), (some 46), none, [], []⟩, ⟨(.append 1 3 8 (.t 44) (.t 46)), (some 47), none, [], []⟩, ⟨(.mv (.t 47)), (some 7), none, [], []⟩]
def r_lOrder_14 : Reg := ⟨[], t_lOrder_14, [], [], false⟩
def r_lOrder_15 : Reg := ⟨[], [⟨(.bin .add (.t 21) (.c (.int .i64 1))), (some 48), none, [], []⟩, ⟨(.mv (.t 48)), (some 21), none, [], []⟩], [], [], false⟩
def r_lOrder_l16 (P : Program) : IR := (.seq (.reg r_lOrder_8)
  (.seq (.cond (.t 22) .skip
  (.exit 2))
  (.seq (.block 3 (.seq (.reg r_lOrder_9)
  (.seq (.regx P r_lOrder_10)
  (.seq (.regx P r_lOrder_11)
  (.cond (.t 37) (.seq (.regx P r_lOrder_12)
  (.seq (.reg r_lOrder_13)
  (.reg r_lOrder_14)))
  .skip)))))
  (.reg r_lOrder_15))))
def r_lOrder_17 : Reg := ⟨[], [⟨(.mv (.t 7)), (some 49), none, [], []⟩, ⟨(.mv (.t 49)), (some 6), none, [], []⟩], [], [], false⟩
def r_lOrder_l18 (P : Program) : IR := (.seq (.seq (.reg r_lOrder_5)
  (.cond (.t 18) .skip
  (.exit 0)))
  (.block 1 (.seq (.reg r_lOrder_6)
  (.seq (.seq (.reg r_lOrder_7)
  (.block 2 (.loop (r_lOrder_l16 P))))
  (.reg r_lOrder_17)))))
def r_lOrder_19 : Reg := ⟨[], [⟨(.mv (.t 4)), (some 50), none, [], []⟩, ⟨(.mv (.t 50)), (some 2), none, [], []⟩], [], [], false⟩
def ir_lOrder (P : Program) : IR := (.seq (.reg r_lOrder_0)
  (.seq (.reg r_lOrder_1)
  (.seq (.reg r_lOrder_2)
  (.seq (.regx P r_lOrder_3)
  (.seq (.seq (.reg r_lOrder_4)
  (.block 0 (.loop (r_lOrder_l18 P))))
  (.seq (.reg r_lOrder_19)
  .ret))))))
def res_lOrder : List RDesc := [(.tmp 2)]
theorem e_lOrder_0 (C : FuncId → List AV → AV → Prop) (σ : St) (K : St → Prop) : runReg C r_lOrder_0 σ K = runOps C [⟨(.mknil 1 3), (some 2), none, [], []⟩] (σ.kills [2]) K := rfl
theorem e_lOrder_1 (C : FuncId → List AV → AV → Prop) (σ : St) (K : St → Prop) : runReg C r_lOrder_1 σ K = runOps C t_lOrder_1 (σ.kills [13]) K := rfl
theorem e_lOrder_2 (C : FuncId → List AV → AV → Prop) (σ : St) (K : St → Prop) : runReg C r_lOrder_2 σ K = runOps C [⟨(.mknil 1 3), (some 4), none, [], []⟩] (σ.kills [4]) K := rfl
theorem e_lOrder_4 (C : FuncId → List AV → AV → Prop) (σ : St) (K : St → Prop) : runReg C r_lOrder_4 σ K = runOps C [⟨(.bsl 1 3 [(.c (.int .i64 0))]), (some 15), none, [], []⟩, ⟨(.mv (.t 15)), (some 6), none, [], []⟩] (σ.kills [15]) K := rfl
theorem e_lOrder_5 (C : FuncId → List AV → AV → Prop) (σ : St) (K : St → Prop) : runReg C r_lOrder_5 σ K = runOps C t_lOrder_5 (σ.kills []) K := rfl
theorem e_lOrder_6 (C : FuncId → List AV → AV → Prop) (σ : St) (K : St → Prop) : runReg C r_lOrder_6 σ K = runOps C [⟨(.mknil 1 3), (some 7), none, [], []⟩] (σ.kills [7]) K := rfl
theorem e_lOrder_7 (C : FuncId → List AV → AV → Prop) (σ : St) (K : St → Prop) : runReg C r_lOrder_7 σ K = runOps C t_lOrder_7 (σ.kills []) K := rfl
theorem e_lOrder_8 (C : FuncId → List AV → AV → Prop) (σ : St) (K : St → Prop) : runReg C r_lOrder_8 σ K = runOps C [⟨(.bin .lss (.t 21) (.t 20)), (some 22), none, [], []⟩] (σ.kills []) K := rfl
theorem e_lOrder_9 (C : FuncId → List AV → AV → Prop) (σ : St) (K : St → Prop) : runReg C r_lOrder_9 σ K = runOps C t_lOrder_9 (σ.kills []) K := rfl
theorem e_lOrder_13 (C : FuncId → List AV → AV → Prop) (σ : St) (K : St → Prop) : runReg C r_lOrder_13 σ K = runOps C t_lOrder_13 (σ.kills [42]) K := rfl
theorem e_lOrder_14 (C : FuncId → List AV → AV → Prop) (σ : St) (K : St → Prop) : runReg C r_lOrder_14 σ K = runOps C t_lOrder_14 (σ.kills []) K := rfl
theorem e_lOrder_15 (C : FuncId → List AV → AV → Prop) (σ : St) (K : St → Prop) : runReg C r_lOrder_15 σ K = runOps C [⟨(.bin .add (.t 21) (.c (.int .i64 1))), (some 48), none, [], []⟩, ⟨(.mv (.t 48)), (some 21), none, [], []⟩] (σ.kills []) K := rfl
theorem e_lOrder_17 (C : FuncId → List AV → AV → Prop) (σ : St) (K : St → Prop) : runReg C r_lOrder_17 σ K = runOps C [⟨(.mv (.t 7)), (some 49), none, [], []⟩, ⟨(.mv (.t 49)), (some 6), none, [], []⟩] (σ.kills []) K := rfl
theorem e_lOrder_19 (C : FuncId → List AV → AV → Prop) (σ : St) (K : St → Prop) : runReg C r_lOrder_19 σ K = runOps C [⟨(.mv (.t 4)), (some 50), none, [], []⟩, ⟨(.mv (.t 50)), (some 2), none, [], []⟩] (σ.kills []) K := rfl
theorem fn_lOrder {args : List AV} {r : AV} (ha : args.length.ble Try.f11.ntmps = true) (h : run (AFn Try.prog) (ir_lOrder Try.prog) (endQ res_lOrder r) (initSt args)) : AFn Try.prog 11 args r :=
  AFn.of_code (pv := false) (hint := fun _ => []) (c := Try.f11.body.getD .skip) (by kernel_rfl) (by kernel_rfl) Try.func11 (by kernel_rfl) (by kernel_rfl) (by kernel_rfl) (of_decide_eq_true (by kernel_rfl)) (Nat.le_of_ble_eq_true ha) (Nat.le_of_ble_eq_true (by kernel_rfl)) (run_ok h)
attribute [local go_sem ↓] ir_lOrder
attribute [local go_sem] res_lOrder e_lOrder_0 e_lOrder_1 t_lOrder_1 e_lOrder_2 e_lOrder_4 e_lOrder_5 t_lOrder_5 e_lOrder_6 e_lOrder_7 t_lOrder_7 e_lOrder_8 e_lOrder_9 t_lOrder_9 e_lOrder_13 t_lOrder_13 e_lOrder_14 t_lOrder_14 e_lOrder_15 e_lOrder_17 e_lOrder_19 r_lOrder_3 r_lOrder_10 r_lOrder_11 r_lOrder_12
theorem flat_le {f : Int → List Int} : ∀ (r : List Int), (∀ x, x ∈ r → (f x).length ≤ 2000) → (r.flatMap f).length ≤ r.length * 2000
  | [], _ => Nat.zero_le _
  | x :: r, h => by
    have h1 := h x (List.mem_cons_self ..)
    have h2 := flat_le r fun y hy => h y (List.mem_cons_of_mem _ hy)
    rw [List.flatMap_cons, List.length_append, List.length_cons]
    omega
theorem kidsAt_len {l : List Nd} (h : Lad l) (s : Int) : (kidsAt l s).length ≤ 2000 := by
  unfold kidsAt
  cases e : ndAt l s with
  | none => exact Nat.zero_le _
  | some n => exact h.nk n (ndAt_slot h.ord e).2.1
def RowAt (σ : St) (row : List Int) : Prop := σ.T 19 = .sl (row.map (AV.int .i64)) ∨ (σ.T 19 = .rs 15 0 row.length ∧ σ.H 15 = some ⟨1, 3, row.map (AV.int .i64), 0⟩)
def oInv (l : List Nd) (out row : List Int) (k : Nat) (σ : St) : Prop :=
  ∃ (i : Nat) (o nx : List Int), i ≤ row.length ∧ k = row.length - i ∧ o = out ++ row.take i ∧ nx = (row.take i).flatMap (kidsAt l) ∧ RowAt σ row ∧ σ.T 20 = .int .i64 row.length ∧ σ.T 21 = .int .i64 i ∧ σ.T 3 = .mv (treeM l) ∧
    σ.T 4 = .rs 4 0 o.length ∧ σ.H 4 = some ⟨1, 3, o.map (AV.int .i64), 0⟩ ∧ σ.T 5 = .mp 14 (metM o) ∧ σ.H 14 = some ⟨1, 82, [], 0⟩ ∧ σ.T 7 = .rs 7 0 nx.length ∧ σ.H 7 = some ⟨1, 3, nx.map (AV.int .i64), 0⟩
set_option maxHeartbeats 8000000 in
theorem row_loop (l : List Nd) (h : Lad l) (out row : List Int) (hlo : out.length + row.length ≤ 200) (hin : ∀ s, s ∈ row → 0 ≤ s ∧ s < l.length) (hfresh : ∀ (i : Nat) (s : Int), row[i]? = some s → (out ++ row.take i).contains s = false) (Q : XK → St → Prop)
    (hEnd : ∀ σ, σ.T 3 = .mv (treeM l) → σ.T 4 = .rs 4 0 (out ++ row).length → σ.H 4 = some ⟨1, 3, (out ++ row).map (AV.int .i64), 0⟩ → σ.T 5 = .mp 14 (metM (out ++ row)) → σ.H 14 = some ⟨1, 82, [], 0⟩ →
      σ.T 7 = .rs 7 0 (row.flatMap (kidsAt l)).length → σ.H 7 = some ⟨1, 3, (row.flatMap (kidsAt l)).map (AV.int .i64), 0⟩ → Q (.exit 2) σ) (k : Nat) (σ : St) (hI : oInv l out row k σ) :
    run (AFn Try.prog) (r_lOrder_l16 Try.prog) (thenQ (fun σ' => ∃ m, m < k ∧ oInv l out row m σ') Q) σ := by
  obtain ⟨i, o, nx, hi, rfl, ho, hnx, t19, t20, t21, t3, t4, h4, t5, h14, t7, h7⟩ := hI
  simp only [r_lOrder_l16]
  by_cases hlt : i < row.length
  case neg =>
    have hlt' : ¬ (i : Int) < (row.length : Int) := by omega
    rw [List.take_of_length_le (by omega)] at ho hnx
    subst ho hnx
    simp (maxSteps := 4000000) only [go_sem, ↓reduceIte, reduceCtorEq, Nat.reduceEqDiff, Nat.reduceBEq, Nat.reduceAdd, Nat.reduceSub, Nat.reduceMul, Nat.reduceLT, Nat.reduceLeDiff, Nat.reduceBNe, Int.reduceBEq, Int.reduceBNe, Int.reduceLT, Int.reduceLE, evM, entOk.eq_1, entOk.eq_2, ents.eq_1, ents.eq_2, kI.eq_1, mpOk.eq_1, mpR.eq_1, lkV.eq_1, lkV.eq_2, t20, t21, hlt']
    refine hEnd _ ?_ ?_ ?_ ?_ ?_ ?_ ?_
    · simp (maxSteps := 4000000) only [go_sem, ↓reduceIte, reduceCtorEq, Nat.reduceEqDiff, Nat.reduceBEq, Nat.reduceAdd, Nat.reduceSub, Nat.reduceMul, Nat.reduceLT, Nat.reduceLeDiff, Nat.reduceBNe, Int.reduceBEq, Int.reduceBNe, Int.reduceLT, Int.reduceLE, evM, entOk.eq_1, entOk.eq_2, ents.eq_1, ents.eq_2, kI.eq_1, mpOk.eq_1, mpR.eq_1, lkV.eq_1, lkV.eq_2, t3]
    · simp (maxSteps := 4000000) only [go_sem, ↓reduceIte, reduceCtorEq, Nat.reduceEqDiff, Nat.reduceBEq, Nat.reduceAdd, Nat.reduceSub, Nat.reduceMul, Nat.reduceLT, Nat.reduceLeDiff, Nat.reduceBNe, Int.reduceBEq, Int.reduceBNe, Int.reduceLT, Int.reduceLE, evM, entOk.eq_1, entOk.eq_2, ents.eq_1, ents.eq_2, kI.eq_1, mpOk.eq_1, mpR.eq_1, lkV.eq_1, lkV.eq_2, t4]
    · simp (maxSteps := 4000000) only [go_sem, ↓reduceIte, reduceCtorEq, Nat.reduceEqDiff, Nat.reduceBEq, Nat.reduceAdd, Nat.reduceSub, Nat.reduceMul, Nat.reduceLT, Nat.reduceLeDiff, Nat.reduceBNe, Int.reduceBEq, Int.reduceBNe, Int.reduceLT, Int.reduceLE, evM, entOk.eq_1, entOk.eq_2, ents.eq_1, ents.eq_2, kI.eq_1, mpOk.eq_1, mpR.eq_1, lkV.eq_1, lkV.eq_2, h4]
    · simp (maxSteps := 4000000) only [go_sem, ↓reduceIte, reduceCtorEq, Nat.reduceEqDiff, Nat.reduceBEq, Nat.reduceAdd, Nat.reduceSub, Nat.reduceMul, Nat.reduceLT, Nat.reduceLeDiff, Nat.reduceBNe, Int.reduceBEq, Int.reduceBNe, Int.reduceLT, Int.reduceLE, evM, entOk.eq_1, entOk.eq_2, ents.eq_1, ents.eq_2, kI.eq_1, mpOk.eq_1, mpR.eq_1, lkV.eq_1, lkV.eq_2, t5]
    · simp (maxSteps := 4000000) only [go_sem, ↓reduceIte, reduceCtorEq, Nat.reduceEqDiff, Nat.reduceBEq, Nat.reduceAdd, Nat.reduceSub, Nat.reduceMul, Nat.reduceLT, Nat.reduceLeDiff, Nat.reduceBNe, Int.reduceBEq, Int.reduceBNe, Int.reduceLT, Int.reduceLE, evM, entOk.eq_1, entOk.eq_2, ents.eq_1, ents.eq_2, kI.eq_1, mpOk.eq_1, mpR.eq_1, lkV.eq_1, lkV.eq_2, h14]
    · simp (maxSteps := 4000000) only [go_sem, ↓reduceIte, reduceCtorEq, Nat.reduceEqDiff, Nat.reduceBEq, Nat.reduceAdd, Nat.reduceSub, Nat.reduceMul, Nat.reduceLT, Nat.reduceLeDiff, Nat.reduceBNe, Int.reduceBEq, Int.reduceBNe, Int.reduceLT, Int.reduceLE, evM, entOk.eq_1, entOk.eq_2, ents.eq_1, ents.eq_2, kI.eq_1, mpOk.eq_1, mpR.eq_1, lkV.eq_1, lkV.eq_2, t7]
    · simp (maxSteps := 4000000) only [go_sem, ↓reduceIte, reduceCtorEq, Nat.reduceEqDiff, Nat.reduceBEq, Nat.reduceAdd, Nat.reduceSub, Nat.reduceMul, Nat.reduceLT, Nat.reduceLeDiff, Nat.reduceBNe, Int.reduceBEq, Int.reduceBNe, Int.reduceLT, Int.reduceLE, evM, entOk.eq_1, entOk.eq_2, ents.eq_1, ents.eq_2, kI.eq_1, mpOk.eq_1, mpR.eq_1, lkV.eq_1, lkV.eq_2, h7]
  have hlt' : (i : Int) < (row.length : Int) := by omega
  obtain ⟨s, hs⟩ := get_lt hlt
  have hgs := at_map (f := AV.int .i64) hs
  have hsm := List.mem_of_getElem? hs
  obtain ⟨n, en⟩ := ndAt_some (hin s hsm).1 (hin s hsm).2
  have hlk : lkp (treeM l) s = some n.a := by rw [lkp_tree h.ord, en]; rfl
  simp only [Nd.a] at hlk
  have hfr := hfresh i s hs
  rw [← ho] at hfr
  have hlm : lkp (metM o) s = none := by rw [lkp_met, hfr]; rfl
  have hup := upk_met hfr
  have hw := wrapS (j := i) (by omega)
  have hol : o.length = out.length + i := by rw [ho, List.length_append, List.length_take]; omega
  have hnl : nx.length ≤ 400000 := by
    have := flat_le (f := kidsAt l) (row.take i) (fun x _ => kidsAt_len h x)
    rw [← hnx, List.length_take] at this
    have h2 : min i row.length * 2000 ≤ 200 * 2000 := Nat.mul_le_mul_right _ (by omega)
    omega
  have hnk := h.nk n (ndAt_slot h.ord en).2.1
  have ht1 : row.take (i + 1) = row.take i ++ [s] := by rw [List.take_add_one, hs]; rfl
  have ho' : o ++ [s] = out ++ row.take (i + 1) := by rw [ht1, ho, List.append_assoc]
  have hn' : nx ++ n.kids = (row.take (i + 1)).flatMap (kidsAt l) := by
    rw [ht1, List.flatMap_append, ← hnx]
    have : kidsAt l s = n.kids := by unfold kidsAt; rw [en]; rfl
    simp [this]
  have tk1 : List.take o.length (o.map (AV.int .i64)) = o.map (AV.int .i64) := List.take_of_length_le (by simp)
  have tk2 : List.take nx.length (nx.map (AV.int .i64)) = nx.map (AV.int .i64) := List.take_of_length_le (by simp)
  have fin : ∀ σ', RowAt σ' row → σ'.T 20 = .int .i64 row.length → σ'.T 21 = .int .i64 ((i + 1 : Nat) : Int) → σ'.T 3 = .mv (treeM l) → σ'.T 4 = .rs 4 0 (o.length + 1) → σ'.H 4 = some ⟨1, 3, o.map (AV.int .i64) ++ [.int .i64 s], 0⟩ → σ'.T 5 = .mp 14 (metM (o ++ [s])) → σ'.H 14 = some ⟨1, 82, [], 0⟩ →
      σ'.T 7 = .rs 7 0 (nx.length + n.kids.length) → σ'.H 7 = some ⟨1, 3, nx.map (AV.int .i64) ++ n.kids.map (AV.int .i64), 0⟩ → ∃ m, m < row.length - i ∧ oInv l out row m σ' := by
    intro σ' a1 a2 a3 a4 a5 a6 a7 a8 a9 a10
    refine ⟨row.length - (i + 1), by omega, i + 1, o ++ [s], nx ++ n.kids, by omega, rfl, ho', hn', a1, a2, a3, a4, ?_, ?_, a7, a8, ?_, ?_⟩
    · rw [a5, List.length_append]; rfl
    · rw [a6, List.map_append]; rfl
    · rw [a9, List.length_append]
    · rw [a10, List.map_append]
  rcases t19 with t19 | ⟨t19, h15⟩
  · simp (maxSteps := 4000000) only [go_sem, ↓reduceIte, reduceCtorEq, Nat.reduceEqDiff, Nat.reduceBEq, Nat.reduceAdd, Nat.reduceSub, Nat.reduceMul, Nat.reduceLT, Nat.reduceLeDiff, Nat.reduceBNe, Int.reduceBEq, Int.reduceBNe, Int.reduceLT, Int.reduceLE, evM, entOk.eq_1, entOk.eq_2, ents.eq_1, ents.eq_2, kI.eq_1, mpOk.eq_1, mpR.eq_1, lkV.eq_1, lkV.eq_2, t19, t20, t21, t3, t4, h4, t5, h14, t7, h7, hlt', hgs, hlk, hlm, hup, tk1, tk2, Int.toNat_natCast, List.length_map]
    refine ⟨by omega, ⟨⟨by omega, by omega⟩, fun d hd => ?_⟩, ⟨⟨by omega, by omega⟩, ints_one _⟩, fin _ ?_ ?_ ?_ ?_ ?_ ?_ ?_ ?_ ?_ ?_⟩
    · rcases hd with rfl | hd
      · exact ⟨rfl, rfl⟩
      · cases hd
    · refine .inl ?_
      simp (maxSteps := 4000000) only [go_sem, ↓reduceIte, reduceCtorEq, Nat.reduceEqDiff, Nat.reduceBEq, Nat.reduceAdd, Nat.reduceSub, Nat.reduceMul, Nat.reduceLT, Nat.reduceLeDiff, Nat.reduceBNe, Int.reduceBEq, Int.reduceBNe, Int.reduceLT, Int.reduceLE, evM, entOk.eq_1, entOk.eq_2, ents.eq_1, ents.eq_2, kI.eq_1, mpOk.eq_1, mpR.eq_1, lkV.eq_1, lkV.eq_2, t19]
    · simp (maxSteps := 4000000) only [go_sem, ↓reduceIte, reduceCtorEq, Nat.reduceEqDiff, Nat.reduceBEq, Nat.reduceAdd, Nat.reduceSub, Nat.reduceMul, Nat.reduceLT, Nat.reduceLeDiff, Nat.reduceBNe, Int.reduceBEq, Int.reduceBNe, Int.reduceLT, Int.reduceLE, evM, entOk.eq_1, entOk.eq_2, ents.eq_1, ents.eq_2, kI.eq_1, mpOk.eq_1, mpR.eq_1, lkV.eq_1, lkV.eq_2, t20]
    · simp (maxSteps := 4000000) only [go_sem, ↓reduceIte, reduceCtorEq, Nat.reduceEqDiff, Nat.reduceBEq, Nat.reduceAdd, Nat.reduceSub, Nat.reduceMul, Nat.reduceLT, Nat.reduceLeDiff, Nat.reduceBNe, Int.reduceBEq, Int.reduceBNe, Int.reduceLT, Int.reduceLE, evM, entOk.eq_1, entOk.eq_2, ents.eq_1, ents.eq_2, kI.eq_1, mpOk.eq_1, mpR.eq_1, lkV.eq_1, lkV.eq_2, hw]
    · simp (maxSteps := 4000000) only [go_sem, ↓reduceIte, reduceCtorEq, Nat.reduceEqDiff, Nat.reduceBEq, Nat.reduceAdd, Nat.reduceSub, Nat.reduceMul, Nat.reduceLT, Nat.reduceLeDiff, Nat.reduceBNe, Int.reduceBEq, Int.reduceBNe, Int.reduceLT, Int.reduceLE, evM, entOk.eq_1, entOk.eq_2, ents.eq_1, ents.eq_2, kI.eq_1, mpOk.eq_1, mpR.eq_1, lkV.eq_1, lkV.eq_2, t3]
    · simp (maxSteps := 4000000) only [go_sem, ↓reduceIte, reduceCtorEq, Nat.reduceEqDiff, Nat.reduceBEq, Nat.reduceAdd, Nat.reduceSub, Nat.reduceMul, Nat.reduceLT, Nat.reduceLeDiff, Nat.reduceBNe, Int.reduceBEq, Int.reduceBNe, Int.reduceLT, Int.reduceLE, evM, entOk.eq_1, entOk.eq_2, ents.eq_1, ents.eq_2, kI.eq_1, mpOk.eq_1, mpR.eq_1, lkV.eq_1, lkV.eq_2]
    · simp (maxSteps := 4000000) only [go_sem, ↓reduceIte, reduceCtorEq, Nat.reduceEqDiff, Nat.reduceBEq, Nat.reduceAdd, Nat.reduceSub, Nat.reduceMul, Nat.reduceLT, Nat.reduceLeDiff, Nat.reduceBNe, Int.reduceBEq, Int.reduceBNe, Int.reduceLT, Int.reduceLE, evM, entOk.eq_1, entOk.eq_2, ents.eq_1, ents.eq_2, kI.eq_1, mpOk.eq_1, mpR.eq_1, lkV.eq_1, lkV.eq_2, h4, tk1]
    · simp (maxSteps := 4000000) only [go_sem, ↓reduceIte, reduceCtorEq, Nat.reduceEqDiff, Nat.reduceBEq, Nat.reduceAdd, Nat.reduceSub, Nat.reduceMul, Nat.reduceLT, Nat.reduceLeDiff, Nat.reduceBNe, Int.reduceBEq, Int.reduceBNe, Int.reduceLT, Int.reduceLE, evM, entOk.eq_1, entOk.eq_2, ents.eq_1, ents.eq_2, kI.eq_1, mpOk.eq_1, mpR.eq_1, lkV.eq_1, lkV.eq_2, t5, hup]
    · simp (maxSteps := 4000000) only [go_sem, ↓reduceIte, reduceCtorEq, Nat.reduceEqDiff, Nat.reduceBEq, Nat.reduceAdd, Nat.reduceSub, Nat.reduceMul, Nat.reduceLT, Nat.reduceLeDiff, Nat.reduceBNe, Int.reduceBEq, Int.reduceBNe, Int.reduceLT, Int.reduceLE, evM, entOk.eq_1, entOk.eq_2, ents.eq_1, ents.eq_2, kI.eq_1, mpOk.eq_1, mpR.eq_1, lkV.eq_1, lkV.eq_2, h14]
    · simp (maxSteps := 4000000) only [go_sem, ↓reduceIte, reduceCtorEq, Nat.reduceEqDiff, Nat.reduceBEq, Nat.reduceAdd, Nat.reduceSub, Nat.reduceMul, Nat.reduceLT, Nat.reduceLeDiff, Nat.reduceBNe, Int.reduceBEq, Int.reduceBNe, Int.reduceLT, Int.reduceLE, evM, entOk.eq_1, entOk.eq_2, ents.eq_1, ents.eq_2, kI.eq_1, mpOk.eq_1, mpR.eq_1, lkV.eq_1, lkV.eq_2, List.length_map]
    · simp (maxSteps := 4000000) only [go_sem, ↓reduceIte, reduceCtorEq, Nat.reduceEqDiff, Nat.reduceBEq, Nat.reduceAdd, Nat.reduceSub, Nat.reduceMul, Nat.reduceLT, Nat.reduceLeDiff, Nat.reduceBNe, Int.reduceBEq, Int.reduceBNe, Int.reduceLT, Int.reduceLE, evM, entOk.eq_1, entOk.eq_2, ents.eq_1, ents.eq_2, kI.eq_1, mpOk.eq_1, mpR.eq_1, lkV.eq_1, lkV.eq_2, h7, tk2]
  · simp (maxSteps := 4000000) only [go_sem, ↓reduceIte, reduceCtorEq, Nat.reduceEqDiff, Nat.reduceBEq, Nat.reduceAdd, Nat.reduceSub, Nat.reduceMul, Nat.reduceLT, Nat.reduceLeDiff, Nat.reduceBNe, Int.reduceBEq, Int.reduceBNe, Int.reduceLT, Int.reduceLE, evM, entOk.eq_1, entOk.eq_2, ents.eq_1, ents.eq_2, kI.eq_1, mpOk.eq_1, mpR.eq_1, lkV.eq_1, lkV.eq_2, t19, h15, t20, t21, t3, t4, h4, t5, h14, t7, h7, hlt', hgs, hlk, hlm, hup, tk1, tk2, Int.toNat_natCast, List.length_map]
    refine ⟨by omega, hlt, ⟨⟨by omega, by omega⟩, fun d hd => ?_⟩, ⟨⟨by omega, by omega⟩, ints_one _⟩, fin _ ?_ ?_ ?_ ?_ ?_ ?_ ?_ ?_ ?_ ?_⟩
    · rcases hd with rfl | hd
      · exact ⟨rfl, rfl⟩
      · cases hd
    · refine .inr ⟨?_, ?_⟩
      · simp (maxSteps := 4000000) only [go_sem, ↓reduceIte, reduceCtorEq, Nat.reduceEqDiff, Nat.reduceBEq, Nat.reduceAdd, Nat.reduceSub, Nat.reduceMul, Nat.reduceLT, Nat.reduceLeDiff, Nat.reduceBNe, Int.reduceBEq, Int.reduceBNe, Int.reduceLT, Int.reduceLE, evM, entOk.eq_1, entOk.eq_2, ents.eq_1, ents.eq_2, kI.eq_1, mpOk.eq_1, mpR.eq_1, lkV.eq_1, lkV.eq_2, t19]
      · simp (maxSteps := 4000000) only [go_sem, ↓reduceIte, reduceCtorEq, Nat.reduceEqDiff, Nat.reduceBEq, Nat.reduceAdd, Nat.reduceSub, Nat.reduceMul, Nat.reduceLT, Nat.reduceLeDiff, Nat.reduceBNe, Int.reduceBEq, Int.reduceBNe, Int.reduceLT, Int.reduceLE, evM, entOk.eq_1, entOk.eq_2, ents.eq_1, ents.eq_2, kI.eq_1, mpOk.eq_1, mpR.eq_1, lkV.eq_1, lkV.eq_2, h15]
    · simp (maxSteps := 4000000) only [go_sem, ↓reduceIte, reduceCtorEq, Nat.reduceEqDiff, Nat.reduceBEq, Nat.reduceAdd, Nat.reduceSub, Nat.reduceMul, Nat.reduceLT, Nat.reduceLeDiff, Nat.reduceBNe, Int.reduceBEq, Int.reduceBNe, Int.reduceLT, Int.reduceLE, evM, entOk.eq_1, entOk.eq_2, ents.eq_1, ents.eq_2, kI.eq_1, mpOk.eq_1, mpR.eq_1, lkV.eq_1, lkV.eq_2, t20]
    · simp (maxSteps := 4000000) only [go_sem, ↓reduceIte, reduceCtorEq, Nat.reduceEqDiff, Nat.reduceBEq, Nat.reduceAdd, Nat.reduceSub, Nat.reduceMul, Nat.reduceLT, Nat.reduceLeDiff, Nat.reduceBNe, Int.reduceBEq, Int.reduceBNe, Int.reduceLT, Int.reduceLE, evM, entOk.eq_1, entOk.eq_2, ents.eq_1, ents.eq_2, kI.eq_1, mpOk.eq_1, mpR.eq_1, lkV.eq_1, lkV.eq_2, hw]
    · simp (maxSteps := 4000000) only [go_sem, ↓reduceIte, reduceCtorEq, Nat.reduceEqDiff, Nat.reduceBEq, Nat.reduceAdd, Nat.reduceSub, Nat.reduceMul, Nat.reduceLT, Nat.reduceLeDiff, Nat.reduceBNe, Int.reduceBEq, Int.reduceBNe, Int.reduceLT, Int.reduceLE, evM, entOk.eq_1, entOk.eq_2, ents.eq_1, ents.eq_2, kI.eq_1, mpOk.eq_1, mpR.eq_1, lkV.eq_1, lkV.eq_2, t3]
    · simp (maxSteps := 4000000) only [go_sem, ↓reduceIte, reduceCtorEq, Nat.reduceEqDiff, Nat.reduceBEq, Nat.reduceAdd, Nat.reduceSub, Nat.reduceMul, Nat.reduceLT, Nat.reduceLeDiff, Nat.reduceBNe, Int.reduceBEq, Int.reduceBNe, Int.reduceLT, Int.reduceLE, evM, entOk.eq_1, entOk.eq_2, ents.eq_1, ents.eq_2, kI.eq_1, mpOk.eq_1, mpR.eq_1, lkV.eq_1, lkV.eq_2]
    · simp (maxSteps := 4000000) only [go_sem, ↓reduceIte, reduceCtorEq, Nat.reduceEqDiff, Nat.reduceBEq, Nat.reduceAdd, Nat.reduceSub, Nat.reduceMul, Nat.reduceLT, Nat.reduceLeDiff, Nat.reduceBNe, Int.reduceBEq, Int.reduceBNe, Int.reduceLT, Int.reduceLE, evM, entOk.eq_1, entOk.eq_2, ents.eq_1, ents.eq_2, kI.eq_1, mpOk.eq_1, mpR.eq_1, lkV.eq_1, lkV.eq_2, h4, tk1]
    · simp (maxSteps := 4000000) only [go_sem, ↓reduceIte, reduceCtorEq, Nat.reduceEqDiff, Nat.reduceBEq, Nat.reduceAdd, Nat.reduceSub, Nat.reduceMul, Nat.reduceLT, Nat.reduceLeDiff, Nat.reduceBNe, Int.reduceBEq, Int.reduceBNe, Int.reduceLT, Int.reduceLE, evM, entOk.eq_1, entOk.eq_2, ents.eq_1, ents.eq_2, kI.eq_1, mpOk.eq_1, mpR.eq_1, lkV.eq_1, lkV.eq_2, t5, hup]
    · simp (maxSteps := 4000000) only [go_sem, ↓reduceIte, reduceCtorEq, Nat.reduceEqDiff, Nat.reduceBEq, Nat.reduceAdd, Nat.reduceSub, Nat.reduceMul, Nat.reduceLT, Nat.reduceLeDiff, Nat.reduceBNe, Int.reduceBEq, Int.reduceBNe, Int.reduceLT, Int.reduceLE, evM, entOk.eq_1, entOk.eq_2, ents.eq_1, ents.eq_2, kI.eq_1, mpOk.eq_1, mpR.eq_1, lkV.eq_1, lkV.eq_2, h14]
    · simp (maxSteps := 4000000) only [go_sem, ↓reduceIte, reduceCtorEq, Nat.reduceEqDiff, Nat.reduceBEq, Nat.reduceAdd, Nat.reduceSub, Nat.reduceMul, Nat.reduceLT, Nat.reduceLeDiff, Nat.reduceBNe, Int.reduceBEq, Int.reduceBNe, Int.reduceLT, Int.reduceLE, evM, entOk.eq_1, entOk.eq_2, ents.eq_1, ents.eq_2, kI.eq_1, mpOk.eq_1, mpR.eq_1, lkV.eq_1, lkV.eq_2, List.length_map]
    · simp (maxSteps := 4000000) only [go_sem, ↓reduceIte, reduceCtorEq, Nat.reduceEqDiff, Nat.reduceBEq, Nat.reduceAdd, Nat.reduceSub, Nat.reduceMul, Nat.reduceLT, Nat.reduceLeDiff, Nat.reduceBNe, Int.reduceBEq, Int.reduceBNe, Int.reduceLT, Int.reduceLE, evM, entOk.eq_1, entOk.eq_2, ents.eq_1, ents.eq_2, kI.eq_1, mpOk.eq_1, mpR.eq_1, lkV.eq_1, lkV.eq_2, h7, tk2]
def ooInv (l : List Nd) (q : List Int) (k : Nat) (σ : St) : Prop :=
  ∃ (out row t : List Int) (x : Nat), q = out ++ row ++ t ∧ out ++ row = 0 :: out.flatMap (kidsAt l) ∧ k = q.length - out.length ∧ (x = 15 ∨ x = 7) ∧ σ.T 3 = .mv (treeM l) ∧
    σ.T 4 = .rs 4 0 out.length ∧ σ.H 4 = some ⟨1, 3, out.map (AV.int .i64), 0⟩ ∧ σ.T 5 = .mp 14 (metM out) ∧ σ.H 14 = some ⟨1, 82, [], 0⟩ ∧ σ.T 6 = .rs x 0 row.length ∧ σ.H x = some ⟨1, 3, row.map (AV.int .i64), 0⟩
set_option maxHeartbeats 8000000 in
theorem order_ok (l : List Nd) (h : Lad l) (q : List Int) (hq : Ords l q) (hql : q.length ≤ 200) : AFn Try.prog 11 [.sl (l.map Nd.a)] (.own 1 3 (q.map (AV.int .i64))) := by
  refine fn_lOrder rfl ?_
  have c1 := lof_ok l h.ord h.len
  (repeat (first | simp (maxSteps := 4000000) only [go_sem, ↓reduceIte, reduceCtorEq, Nat.reduceEqDiff, Nat.reduceBEq, Nat.reduceAdd, Nat.reduceSub, Nat.reduceMul, Nat.reduceLT, Nat.reduceLeDiff, Nat.reduceBNe, Int.reduceBEq, Int.reduceBNe, Int.reduceLT, Int.reduceLE, evM, entOk.eq_1, entOk.eq_2, ents.eq_1, ents.eq_2, kI.eq_1, mpOk.eq_1, mpR.eq_1, lkV.eq_1, lkV.eq_2] | refine calling (c1) ?_ | refine callingH (c1) ?_ | refine And.intro (by omega) ?_ | refine And.intro (fun d hd => by (repeat (rcases hd with rfl | hd; · exact ⟨rfl, rfl⟩)); cases hd) ?_))
  refine run_loop (ooInv l q) (k := q.length) ⟨[], [0], q.flatMap (kidsAt l), 15, hq.eq, rfl, rfl, .inl rfl, ?_, ?_, ?_, ?_, ?_, ?_, ?_⟩ ?_
  · (simp (maxSteps := 4000000) only [go_sem, ↓reduceIte, reduceCtorEq, Nat.reduceEqDiff, Nat.reduceBEq, Nat.reduceAdd, Nat.reduceSub, Nat.reduceMul, Nat.reduceLT, Nat.reduceLeDiff, Nat.reduceBNe, Int.reduceBEq, Int.reduceBNe, Int.reduceLT, Int.reduceLE, evM, entOk.eq_1, entOk.eq_2, ents.eq_1, ents.eq_2, kI.eq_1, mpOk.eq_1, mpR.eq_1, lkV.eq_1, lkV.eq_2]) <;> rfl
  · (simp (maxSteps := 4000000) only [go_sem, ↓reduceIte, reduceCtorEq, Nat.reduceEqDiff, Nat.reduceBEq, Nat.reduceAdd, Nat.reduceSub, Nat.reduceMul, Nat.reduceLT, Nat.reduceLeDiff, Nat.reduceBNe, Int.reduceBEq, Int.reduceBNe, Int.reduceLT, Int.reduceLE, evM, entOk.eq_1, entOk.eq_2, ents.eq_1, ents.eq_2, kI.eq_1, mpOk.eq_1, mpR.eq_1, lkV.eq_1, lkV.eq_2]) <;> rfl
  · (simp (maxSteps := 4000000) only [go_sem, ↓reduceIte, reduceCtorEq, Nat.reduceEqDiff, Nat.reduceBEq, Nat.reduceAdd, Nat.reduceSub, Nat.reduceMul, Nat.reduceLT, Nat.reduceLeDiff, Nat.reduceBNe, Int.reduceBEq, Int.reduceBNe, Int.reduceLT, Int.reduceLE, evM, entOk.eq_1, entOk.eq_2, ents.eq_1, ents.eq_2, kI.eq_1, mpOk.eq_1, mpR.eq_1, lkV.eq_1, lkV.eq_2]) <;> rfl
  · (simp (maxSteps := 4000000) only [go_sem, ↓reduceIte, reduceCtorEq, Nat.reduceEqDiff, Nat.reduceBEq, Nat.reduceAdd, Nat.reduceSub, Nat.reduceMul, Nat.reduceLT, Nat.reduceLeDiff, Nat.reduceBNe, Int.reduceBEq, Int.reduceBNe, Int.reduceLT, Int.reduceLE, evM, entOk.eq_1, entOk.eq_2, ents.eq_1, ents.eq_2, kI.eq_1, mpOk.eq_1, mpR.eq_1, lkV.eq_1, lkV.eq_2]) <;> rfl
  · (simp (maxSteps := 4000000) only [go_sem, ↓reduceIte, reduceCtorEq, Nat.reduceEqDiff, Nat.reduceBEq, Nat.reduceAdd, Nat.reduceSub, Nat.reduceMul, Nat.reduceLT, Nat.reduceLeDiff, Nat.reduceBNe, Int.reduceBEq, Int.reduceBNe, Int.reduceLT, Int.reduceLE, evM, entOk.eq_1, entOk.eq_2, ents.eq_1, ents.eq_2, kI.eq_1, mpOk.eq_1, mpR.eq_1, lkV.eq_1, lkV.eq_2]) <;> rfl
  · (simp (maxSteps := 4000000) only [go_sem, ↓reduceIte, reduceCtorEq, Nat.reduceEqDiff, Nat.reduceBEq, Nat.reduceAdd, Nat.reduceSub, Nat.reduceMul, Nat.reduceLT, Nat.reduceLeDiff, Nat.reduceBNe, Int.reduceBEq, Int.reduceBNe, Int.reduceLT, Int.reduceLE, evM, entOk.eq_1, entOk.eq_2, ents.eq_1, ents.eq_2, kI.eq_1, mpOk.eq_1, mpR.eq_1, lkV.eq_1, lkV.eq_2]) <;> rfl
  · (simp (maxSteps := 4000000) only [go_sem, ↓reduceIte, reduceCtorEq, Nat.reduceEqDiff, Nat.reduceBEq, Nat.reduceAdd, Nat.reduceSub, Nat.reduceMul, Nat.reduceLT, Nat.reduceLeDiff, Nat.reduceBNe, Int.reduceBEq, Int.reduceBNe, Int.reduceLT, Int.reduceLE, evM, entOk.eq_1, entOk.eq_2, ents.eq_1, ents.eq_2, kI.eq_1, mpOk.eq_1, mpR.eq_1, lkV.eq_1, lkV.eq_2]) <;> rfl
  clear c1
  rintro k σ ⟨out, row, t, x, hqe, hro, rfl, hx, t3, t4, h4, t5, h14, t6, hX⟩
  simp only [r_lOrder_l18]
  by_cases h0 : row = []
  · subst h0
    have hdone : out = q := by
      have hpre : q.take out.length = out := by rw [hqe, List.append_nil, List.take_left]
      have hlo : out.length = 1 + (out.flatMap (kidsAt l)).length := by
        have := congrArg List.length hro
        rw [List.append_nil, List.length_cons] at this
        omega
      rcases Nat.lt_or_ge out.length q.length with hlt | hge
      · have := hq.live _ hlt
        rw [hpre] at this
        omega
      · rw [← hpre, List.take_of_length_le hge]
    subst hdone
    have z : ¬ (0 : Int) < ((0 : Nat) : Int) := by decide
    rcases hx with rfl | rfl
    · simp (maxSteps := 4000000) only [go_sem, ↓reduceIte, reduceCtorEq, Nat.reduceEqDiff, Nat.reduceBEq, Nat.reduceAdd, Nat.reduceSub, Nat.reduceMul, Nat.reduceLT, Nat.reduceLeDiff, Nat.reduceBNe, Int.reduceBEq, Int.reduceBNe, Int.reduceLT, Int.reduceLE, evM, entOk.eq_1, entOk.eq_2, ents.eq_1, ents.eq_2, kI.eq_1, mpOk.eq_1, mpR.eq_1, lkV.eq_1, lkV.eq_2, t3, t4, h4, t5, h14, t6, hX, z, List.length_map]
    · simp (maxSteps := 4000000) only [go_sem, ↓reduceIte, reduceCtorEq, Nat.reduceEqDiff, Nat.reduceBEq, Nat.reduceAdd, Nat.reduceSub, Nat.reduceMul, Nat.reduceLT, Nat.reduceLeDiff, Nat.reduceBNe, Int.reduceBEq, Int.reduceBNe, Int.reduceLT, Int.reduceLE, evM, entOk.eq_1, entOk.eq_2, ents.eq_1, ents.eq_2, kI.eq_1, mpOk.eq_1, mpR.eq_1, lkV.eq_1, lkV.eq_2, t3, t4, h4, t5, h14, t6, hX, z, List.length_map]
  have hpos : 0 < row.length := List.length_pos_iff.2 h0
  have hpos' : (0 : Int) < (row.length : Int) := by omega
  have hlenq : out.length + row.length ≤ q.length := by rw [hqe, List.length_append, List.length_append]; omega
  have hTr : List.take row.length (row.map (AV.int .i64)) = row.map (AV.int .i64) := List.take_of_length_le (by simp)
  have hsub : ∀ s, s ∈ row → s ∈ q := fun s hs => by rw [hqe]; exact List.mem_append.2 (.inl (List.mem_append.2 (.inr hs)))
  have hfresh : ∀ (i : Nat) (s : Int), row[i]? = some s → (out ++ row.take i).contains s = false := fun i s hi => by
    have hil := (List.getElem?_eq_some_iff.1 hi).1
    have hd := hq.dup
    rw [hqe, List.append_assoc] at hd
    have hsp : row = row.take i ++ s :: row.drop (i + 1) := by
      have : row[i] = s := by
        have := List.getElem?_eq_getElem hil
        rw [hi] at this; cases this; rfl
      rw [← this, List.getElem_cons_drop, List.take_append_drop]
    rw [hsp, List.append_assoc, ← List.append_assoc, List.cons_append] at hd
    rw [List.contains_eq_mem, decide_eq_false_iff_not]
    intro hm
    have := (List.nodup_append.1 hd).2.2 s hm s (List.mem_cons_self ..)
    exact this rfl
  have enter : ∀ σ', RowAt σ' row → σ'.T 20 = .int .i64 row.length → σ'.T 21 = .int .i64 0 → σ'.T 3 = .mv (treeM l) → σ'.T 4 = .rs 4 0 out.length → σ'.H 4 = some ⟨1, 3, out.map (AV.int .i64), 0⟩ → σ'.T 5 = .mp 14 (metM out) → σ'.H 14 = some ⟨1, 82, [], 0⟩ → σ'.T 7 = .rs 7 0 0 → σ'.H 7 = some ⟨1, 3, [], 0⟩ →
      oInv l out row row.length σ' := fun σ' a1 a2 a3 a4 a5 a6 a7 a8 a9 a10 =>
    ⟨0, out, [], Nat.zero_le _, rfl, by simp, rfl, a1, a2, a3, a4, a5, a6, a7, a8, a9, a10⟩
  have next : ∀ σ', σ'.T 3 = .mv (treeM l) → σ'.T 4 = .rs 4 0 (out ++ row).length → σ'.H 4 = some ⟨1, 3, (out ++ row).map (AV.int .i64), 0⟩ → σ'.T 5 = .mp 14 (metM (out ++ row)) → σ'.H 14 = some ⟨1, 82, [], 0⟩ →
      σ'.T 6 = .rs 7 0 (row.flatMap (kidsAt l)).length → σ'.H 7 = some ⟨1, 3, (row.flatMap (kidsAt l)).map (AV.int .i64), 0⟩ → ∃ m, m < q.length - out.length ∧ ooInv l q m σ' := by
    intro σ' a3 a4 a5 a6 a7 a8 a9
    refine ⟨q.length - (out ++ row).length, by rw [List.length_append]; omega, out ++ row, row.flatMap (kidsAt l), t.flatMap (kidsAt l), 7, ?_, ?_, rfl, .inr rfl, a3, a4, a5, a6, a7, a8, a9⟩
    · have e := hq.eq
      have e2 : q.flatMap (kidsAt l) = out.flatMap (kidsAt l) ++ row.flatMap (kidsAt l) ++ t.flatMap (kidsAt l) := by
        conv => lhs; rw [hqe]
        rw [List.flatMap_append, List.flatMap_append]
      rw [e2] at e
      rw [hro]
      exact e
    · rw [List.flatMap_append, hro]; rfl
  rcases hx with rfl | rfl
  · simp (maxSteps := 4000000) only [go_sem, ↓reduceIte, reduceCtorEq, Nat.reduceEqDiff, Nat.reduceBEq, Nat.reduceAdd, Nat.reduceSub, Nat.reduceMul, Nat.reduceLT, Nat.reduceLeDiff, Nat.reduceBNe, Int.reduceBEq, Int.reduceBNe, Int.reduceLT, Int.reduceLE, evM, entOk.eq_1, entOk.eq_2, ents.eq_1, ents.eq_2, kI.eq_1, mpOk.eq_1, mpR.eq_1, lkV.eq_1, lkV.eq_2, t3, t4, h4, t5, h14, t6, hX, hpos', hTr, List.length_map]
    refine run_loop (oInv l out row) (k := row.length) (enter _ ?_ ?_ ?_ ?_ ?_ ?_ ?_ ?_ ?_ ?_) (row_loop l h out row (by omega) (fun s hs => hq.mem s (hsub s hs)) hfresh _ ?_)
    · refine .inr ⟨?_, ?_⟩
      · simp (maxSteps := 4000000) only [go_sem, ↓reduceIte, reduceCtorEq, Nat.reduceEqDiff, Nat.reduceBEq, Nat.reduceAdd, Nat.reduceSub, Nat.reduceMul, Nat.reduceLT, Nat.reduceLeDiff, Nat.reduceBNe, Int.reduceBEq, Int.reduceBNe, Int.reduceLT, Int.reduceLE, evM, entOk.eq_1, entOk.eq_2, ents.eq_1, ents.eq_2, kI.eq_1, mpOk.eq_1, mpR.eq_1, lkV.eq_1, lkV.eq_2, t6]
      · simp (maxSteps := 4000000) only [go_sem, ↓reduceIte, reduceCtorEq, Nat.reduceEqDiff, Nat.reduceBEq, Nat.reduceAdd, Nat.reduceSub, Nat.reduceMul, Nat.reduceLT, Nat.reduceLeDiff, Nat.reduceBNe, Int.reduceBEq, Int.reduceBNe, Int.reduceLT, Int.reduceLE, evM, entOk.eq_1, entOk.eq_2, ents.eq_1, ents.eq_2, kI.eq_1, mpOk.eq_1, mpR.eq_1, lkV.eq_1, lkV.eq_2, hX]
    · simp (maxSteps := 4000000) only [go_sem, ↓reduceIte, reduceCtorEq, Nat.reduceEqDiff, Nat.reduceBEq, Nat.reduceAdd, Nat.reduceSub, Nat.reduceMul, Nat.reduceLT, Nat.reduceLeDiff, Nat.reduceBNe, Int.reduceBEq, Int.reduceBNe, Int.reduceLT, Int.reduceLE, evM, entOk.eq_1, entOk.eq_2, ents.eq_1, ents.eq_2, kI.eq_1, mpOk.eq_1, mpR.eq_1, lkV.eq_1, lkV.eq_2, List.length_map]
    · simp (maxSteps := 4000000) only [go_sem, ↓reduceIte, reduceCtorEq, Nat.reduceEqDiff, Nat.reduceBEq, Nat.reduceAdd, Nat.reduceSub, Nat.reduceMul, Nat.reduceLT, Nat.reduceLeDiff, Nat.reduceBNe, Int.reduceBEq, Int.reduceBNe, Int.reduceLT, Int.reduceLE, evM, entOk.eq_1, entOk.eq_2, ents.eq_1, ents.eq_2, kI.eq_1, mpOk.eq_1, mpR.eq_1, lkV.eq_1, lkV.eq_2]
    · simp (maxSteps := 4000000) only [go_sem, ↓reduceIte, reduceCtorEq, Nat.reduceEqDiff, Nat.reduceBEq, Nat.reduceAdd, Nat.reduceSub, Nat.reduceMul, Nat.reduceLT, Nat.reduceLeDiff, Nat.reduceBNe, Int.reduceBEq, Int.reduceBNe, Int.reduceLT, Int.reduceLE, evM, entOk.eq_1, entOk.eq_2, ents.eq_1, ents.eq_2, kI.eq_1, mpOk.eq_1, mpR.eq_1, lkV.eq_1, lkV.eq_2, t3]
    · simp (maxSteps := 4000000) only [go_sem, ↓reduceIte, reduceCtorEq, Nat.reduceEqDiff, Nat.reduceBEq, Nat.reduceAdd, Nat.reduceSub, Nat.reduceMul, Nat.reduceLT, Nat.reduceLeDiff, Nat.reduceBNe, Int.reduceBEq, Int.reduceBNe, Int.reduceLT, Int.reduceLE, evM, entOk.eq_1, entOk.eq_2, ents.eq_1, ents.eq_2, kI.eq_1, mpOk.eq_1, mpR.eq_1, lkV.eq_1, lkV.eq_2, t4]
    · simp (maxSteps := 4000000) only [go_sem, ↓reduceIte, reduceCtorEq, Nat.reduceEqDiff, Nat.reduceBEq, Nat.reduceAdd, Nat.reduceSub, Nat.reduceMul, Nat.reduceLT, Nat.reduceLeDiff, Nat.reduceBNe, Int.reduceBEq, Int.reduceBNe, Int.reduceLT, Int.reduceLE, evM, entOk.eq_1, entOk.eq_2, ents.eq_1, ents.eq_2, kI.eq_1, mpOk.eq_1, mpR.eq_1, lkV.eq_1, lkV.eq_2, h4]
    · simp (maxSteps := 4000000) only [go_sem, ↓reduceIte, reduceCtorEq, Nat.reduceEqDiff, Nat.reduceBEq, Nat.reduceAdd, Nat.reduceSub, Nat.reduceMul, Nat.reduceLT, Nat.reduceLeDiff, Nat.reduceBNe, Int.reduceBEq, Int.reduceBNe, Int.reduceLT, Int.reduceLE, evM, entOk.eq_1, entOk.eq_2, ents.eq_1, ents.eq_2, kI.eq_1, mpOk.eq_1, mpR.eq_1, lkV.eq_1, lkV.eq_2, t5]
    · simp (maxSteps := 4000000) only [go_sem, ↓reduceIte, reduceCtorEq, Nat.reduceEqDiff, Nat.reduceBEq, Nat.reduceAdd, Nat.reduceSub, Nat.reduceMul, Nat.reduceLT, Nat.reduceLeDiff, Nat.reduceBNe, Int.reduceBEq, Int.reduceBNe, Int.reduceLT, Int.reduceLE, evM, entOk.eq_1, entOk.eq_2, ents.eq_1, ents.eq_2, kI.eq_1, mpOk.eq_1, mpR.eq_1, lkV.eq_1, lkV.eq_2, h14]
    · simp (maxSteps := 4000000) only [go_sem, ↓reduceIte, reduceCtorEq, Nat.reduceEqDiff, Nat.reduceBEq, Nat.reduceAdd, Nat.reduceSub, Nat.reduceMul, Nat.reduceLT, Nat.reduceLeDiff, Nat.reduceBNe, Int.reduceBEq, Int.reduceBNe, Int.reduceLT, Int.reduceLE, evM, entOk.eq_1, entOk.eq_2, ents.eq_1, ents.eq_2, kI.eq_1, mpOk.eq_1, mpR.eq_1, lkV.eq_1, lkV.eq_2]
    · simp (maxSteps := 4000000) only [go_sem, ↓reduceIte, reduceCtorEq, Nat.reduceEqDiff, Nat.reduceBEq, Nat.reduceAdd, Nat.reduceSub, Nat.reduceMul, Nat.reduceLT, Nat.reduceLeDiff, Nat.reduceBNe, Int.reduceBEq, Int.reduceBNe, Int.reduceLT, Int.reduceLE, evM, entOk.eq_1, entOk.eq_2, ents.eq_1, ents.eq_2, kI.eq_1, mpOk.eq_1, mpR.eq_1, lkV.eq_1, lkV.eq_2]
    · intro σ2 a3 a4 a5 a6 a7 a8 a9
      simp (maxSteps := 4000000) only [go_sem, ↓reduceIte, reduceCtorEq, Nat.reduceEqDiff, Nat.reduceBEq, Nat.reduceAdd, Nat.reduceSub, Nat.reduceMul, Nat.reduceLT, Nat.reduceLeDiff, Nat.reduceBNe, Int.reduceBEq, Int.reduceBNe, Int.reduceLT, Int.reduceLE, evM, entOk.eq_1, entOk.eq_2, ents.eq_1, ents.eq_2, kI.eq_1, mpOk.eq_1, mpR.eq_1, lkV.eq_1, lkV.eq_2, a3, a4, a5, a6, a7, a8, a9]
      refine next _ ?_ ?_ ?_ ?_ ?_ ?_ ?_
      · simp (maxSteps := 4000000) only [go_sem, ↓reduceIte, reduceCtorEq, Nat.reduceEqDiff, Nat.reduceBEq, Nat.reduceAdd, Nat.reduceSub, Nat.reduceMul, Nat.reduceLT, Nat.reduceLeDiff, Nat.reduceBNe, Int.reduceBEq, Int.reduceBNe, Int.reduceLT, Int.reduceLE, evM, entOk.eq_1, entOk.eq_2, ents.eq_1, ents.eq_2, kI.eq_1, mpOk.eq_1, mpR.eq_1, lkV.eq_1, lkV.eq_2, a3]
      · simp (maxSteps := 4000000) only [go_sem, ↓reduceIte, reduceCtorEq, Nat.reduceEqDiff, Nat.reduceBEq, Nat.reduceAdd, Nat.reduceSub, Nat.reduceMul, Nat.reduceLT, Nat.reduceLeDiff, Nat.reduceBNe, Int.reduceBEq, Int.reduceBNe, Int.reduceLT, Int.reduceLE, evM, entOk.eq_1, entOk.eq_2, ents.eq_1, ents.eq_2, kI.eq_1, mpOk.eq_1, mpR.eq_1, lkV.eq_1, lkV.eq_2, a4]
      · simp (maxSteps := 4000000) only [go_sem, ↓reduceIte, reduceCtorEq, Nat.reduceEqDiff, Nat.reduceBEq, Nat.reduceAdd, Nat.reduceSub, Nat.reduceMul, Nat.reduceLT, Nat.reduceLeDiff, Nat.reduceBNe, Int.reduceBEq, Int.reduceBNe, Int.reduceLT, Int.reduceLE, evM, entOk.eq_1, entOk.eq_2, ents.eq_1, ents.eq_2, kI.eq_1, mpOk.eq_1, mpR.eq_1, lkV.eq_1, lkV.eq_2, a5]
      · simp (maxSteps := 4000000) only [go_sem, ↓reduceIte, reduceCtorEq, Nat.reduceEqDiff, Nat.reduceBEq, Nat.reduceAdd, Nat.reduceSub, Nat.reduceMul, Nat.reduceLT, Nat.reduceLeDiff, Nat.reduceBNe, Int.reduceBEq, Int.reduceBNe, Int.reduceLT, Int.reduceLE, evM, entOk.eq_1, entOk.eq_2, ents.eq_1, ents.eq_2, kI.eq_1, mpOk.eq_1, mpR.eq_1, lkV.eq_1, lkV.eq_2, a6]
      · simp (maxSteps := 4000000) only [go_sem, ↓reduceIte, reduceCtorEq, Nat.reduceEqDiff, Nat.reduceBEq, Nat.reduceAdd, Nat.reduceSub, Nat.reduceMul, Nat.reduceLT, Nat.reduceLeDiff, Nat.reduceBNe, Int.reduceBEq, Int.reduceBNe, Int.reduceLT, Int.reduceLE, evM, entOk.eq_1, entOk.eq_2, ents.eq_1, ents.eq_2, kI.eq_1, mpOk.eq_1, mpR.eq_1, lkV.eq_1, lkV.eq_2, a7]
      · simp (maxSteps := 4000000) only [go_sem, ↓reduceIte, reduceCtorEq, Nat.reduceEqDiff, Nat.reduceBEq, Nat.reduceAdd, Nat.reduceSub, Nat.reduceMul, Nat.reduceLT, Nat.reduceLeDiff, Nat.reduceBNe, Int.reduceBEq, Int.reduceBNe, Int.reduceLT, Int.reduceLE, evM, entOk.eq_1, entOk.eq_2, ents.eq_1, ents.eq_2, kI.eq_1, mpOk.eq_1, mpR.eq_1, lkV.eq_1, lkV.eq_2, a8]
      · simp (maxSteps := 4000000) only [go_sem, ↓reduceIte, reduceCtorEq, Nat.reduceEqDiff, Nat.reduceBEq, Nat.reduceAdd, Nat.reduceSub, Nat.reduceMul, Nat.reduceLT, Nat.reduceLeDiff, Nat.reduceBNe, Int.reduceBEq, Int.reduceBNe, Int.reduceLT, Int.reduceLE, evM, entOk.eq_1, entOk.eq_2, ents.eq_1, ents.eq_2, kI.eq_1, mpOk.eq_1, mpR.eq_1, lkV.eq_1, lkV.eq_2, a9]
  · simp (maxSteps := 4000000) only [go_sem, ↓reduceIte, reduceCtorEq, Nat.reduceEqDiff, Nat.reduceBEq, Nat.reduceAdd, Nat.reduceSub, Nat.reduceMul, Nat.reduceLT, Nat.reduceLeDiff, Nat.reduceBNe, Int.reduceBEq, Int.reduceBNe, Int.reduceLT, Int.reduceLE, evM, entOk.eq_1, entOk.eq_2, ents.eq_1, ents.eq_2, kI.eq_1, mpOk.eq_1, mpR.eq_1, lkV.eq_1, lkV.eq_2, t3, t4, h4, t5, h14, t6, hX, hpos', hTr, List.length_map]
    refine run_loop (oInv l out row) (k := row.length) (enter _ ?_ ?_ ?_ ?_ ?_ ?_ ?_ ?_ ?_ ?_) (row_loop l h out row (by omega) (fun s hs => hq.mem s (hsub s hs)) hfresh _ ?_)
    · refine .inl ?_
      simp (maxSteps := 4000000) only [go_sem, ↓reduceIte, reduceCtorEq, Nat.reduceEqDiff, Nat.reduceBEq, Nat.reduceAdd, Nat.reduceSub, Nat.reduceMul, Nat.reduceLT, Nat.reduceLeDiff, Nat.reduceBNe, Int.reduceBEq, Int.reduceBNe, Int.reduceLT, Int.reduceLE, evM, entOk.eq_1, entOk.eq_2, ents.eq_1, ents.eq_2, kI.eq_1, mpOk.eq_1, mpR.eq_1, lkV.eq_1, lkV.eq_2, t6, hX, hTr]
    · simp (maxSteps := 4000000) only [go_sem, ↓reduceIte, reduceCtorEq, Nat.reduceEqDiff, Nat.reduceBEq, Nat.reduceAdd, Nat.reduceSub, Nat.reduceMul, Nat.reduceLT, Nat.reduceLeDiff, Nat.reduceBNe, Int.reduceBEq, Int.reduceBNe, Int.reduceLT, Int.reduceLE, evM, entOk.eq_1, entOk.eq_2, ents.eq_1, ents.eq_2, kI.eq_1, mpOk.eq_1, mpR.eq_1, lkV.eq_1, lkV.eq_2, List.length_map]
    · simp (maxSteps := 4000000) only [go_sem, ↓reduceIte, reduceCtorEq, Nat.reduceEqDiff, Nat.reduceBEq, Nat.reduceAdd, Nat.reduceSub, Nat.reduceMul, Nat.reduceLT, Nat.reduceLeDiff, Nat.reduceBNe, Int.reduceBEq, Int.reduceBNe, Int.reduceLT, Int.reduceLE, evM, entOk.eq_1, entOk.eq_2, ents.eq_1, ents.eq_2, kI.eq_1, mpOk.eq_1, mpR.eq_1, lkV.eq_1, lkV.eq_2]
    · simp (maxSteps := 4000000) only [go_sem, ↓reduceIte, reduceCtorEq, Nat.reduceEqDiff, Nat.reduceBEq, Nat.reduceAdd, Nat.reduceSub, Nat.reduceMul, Nat.reduceLT, Nat.reduceLeDiff, Nat.reduceBNe, Int.reduceBEq, Int.reduceBNe, Int.reduceLT, Int.reduceLE, evM, entOk.eq_1, entOk.eq_2, ents.eq_1, ents.eq_2, kI.eq_1, mpOk.eq_1, mpR.eq_1, lkV.eq_1, lkV.eq_2, t3]
    · simp (maxSteps := 4000000) only [go_sem, ↓reduceIte, reduceCtorEq, Nat.reduceEqDiff, Nat.reduceBEq, Nat.reduceAdd, Nat.reduceSub, Nat.reduceMul, Nat.reduceLT, Nat.reduceLeDiff, Nat.reduceBNe, Int.reduceBEq, Int.reduceBNe, Int.reduceLT, Int.reduceLE, evM, entOk.eq_1, entOk.eq_2, ents.eq_1, ents.eq_2, kI.eq_1, mpOk.eq_1, mpR.eq_1, lkV.eq_1, lkV.eq_2, t4]
    · simp (maxSteps := 4000000) only [go_sem, ↓reduceIte, reduceCtorEq, Nat.reduceEqDiff, Nat.reduceBEq, Nat.reduceAdd, Nat.reduceSub, Nat.reduceMul, Nat.reduceLT, Nat.reduceLeDiff, Nat.reduceBNe, Int.reduceBEq, Int.reduceBNe, Int.reduceLT, Int.reduceLE, evM, entOk.eq_1, entOk.eq_2, ents.eq_1, ents.eq_2, kI.eq_1, mpOk.eq_1, mpR.eq_1, lkV.eq_1, lkV.eq_2, h4]
    · simp (maxSteps := 4000000) only [go_sem, ↓reduceIte, reduceCtorEq, Nat.reduceEqDiff, Nat.reduceBEq, Nat.reduceAdd, Nat.reduceSub, Nat.reduceMul, Nat.reduceLT, Nat.reduceLeDiff, Nat.reduceBNe, Int.reduceBEq, Int.reduceBNe, Int.reduceLT, Int.reduceLE, evM, entOk.eq_1, entOk.eq_2, ents.eq_1, ents.eq_2, kI.eq_1, mpOk.eq_1, mpR.eq_1, lkV.eq_1, lkV.eq_2, t5]
    · simp (maxSteps := 4000000) only [go_sem, ↓reduceIte, reduceCtorEq, Nat.reduceEqDiff, Nat.reduceBEq, Nat.reduceAdd, Nat.reduceSub, Nat.reduceMul, Nat.reduceLT, Nat.reduceLeDiff, Nat.reduceBNe, Int.reduceBEq, Int.reduceBNe, Int.reduceLT, Int.reduceLE, evM, entOk.eq_1, entOk.eq_2, ents.eq_1, ents.eq_2, kI.eq_1, mpOk.eq_1, mpR.eq_1, lkV.eq_1, lkV.eq_2, h14]
    · simp (maxSteps := 4000000) only [go_sem, ↓reduceIte, reduceCtorEq, Nat.reduceEqDiff, Nat.reduceBEq, Nat.reduceAdd, Nat.reduceSub, Nat.reduceMul, Nat.reduceLT, Nat.reduceLeDiff, Nat.reduceBNe, Int.reduceBEq, Int.reduceBNe, Int.reduceLT, Int.reduceLE, evM, entOk.eq_1, entOk.eq_2, ents.eq_1, ents.eq_2, kI.eq_1, mpOk.eq_1, mpR.eq_1, lkV.eq_1, lkV.eq_2]
    · simp (maxSteps := 4000000) only [go_sem, ↓reduceIte, reduceCtorEq, Nat.reduceEqDiff, Nat.reduceBEq, Nat.reduceAdd, Nat.reduceSub, Nat.reduceMul, Nat.reduceLT, Nat.reduceLeDiff, Nat.reduceBNe, Int.reduceBEq, Int.reduceBNe, Int.reduceLT, Int.reduceLE, evM, entOk.eq_1, entOk.eq_2, ents.eq_1, ents.eq_2, kI.eq_1, mpOk.eq_1, mpR.eq_1, lkV.eq_1, lkV.eq_2]
    · intro σ2 a3 a4 a5 a6 a7 a8 a9
      simp (maxSteps := 4000000) only [go_sem, ↓reduceIte, reduceCtorEq, Nat.reduceEqDiff, Nat.reduceBEq, Nat.reduceAdd, Nat.reduceSub, Nat.reduceMul, Nat.reduceLT, Nat.reduceLeDiff, Nat.reduceBNe, Int.reduceBEq, Int.reduceBNe, Int.reduceLT, Int.reduceLE, evM, entOk.eq_1, entOk.eq_2, ents.eq_1, ents.eq_2, kI.eq_1, mpOk.eq_1, mpR.eq_1, lkV.eq_1, lkV.eq_2, a3, a4, a5, a6, a7, a8, a9]
      refine next _ ?_ ?_ ?_ ?_ ?_ ?_ ?_
      · simp (maxSteps := 4000000) only [go_sem, ↓reduceIte, reduceCtorEq, Nat.reduceEqDiff, Nat.reduceBEq, Nat.reduceAdd, Nat.reduceSub, Nat.reduceMul, Nat.reduceLT, Nat.reduceLeDiff, Nat.reduceBNe, Int.reduceBEq, Int.reduceBNe, Int.reduceLT, Int.reduceLE, evM, entOk.eq_1, entOk.eq_2, ents.eq_1, ents.eq_2, kI.eq_1, mpOk.eq_1, mpR.eq_1, lkV.eq_1, lkV.eq_2, a3]
      · simp (maxSteps := 4000000) only [go_sem, ↓reduceIte, reduceCtorEq, Nat.reduceEqDiff, Nat.reduceBEq, Nat.reduceAdd, Nat.reduceSub, Nat.reduceMul, Nat.reduceLT, Nat.reduceLeDiff, Nat.reduceBNe, Int.reduceBEq, Int.reduceBNe, Int.reduceLT, Int.reduceLE, evM, entOk.eq_1, entOk.eq_2, ents.eq_1, ents.eq_2, kI.eq_1, mpOk.eq_1, mpR.eq_1, lkV.eq_1, lkV.eq_2, a4]
      · simp (maxSteps := 4000000) only [go_sem, ↓reduceIte, reduceCtorEq, Nat.reduceEqDiff, Nat.reduceBEq, Nat.reduceAdd, Nat.reduceSub, Nat.reduceMul, Nat.reduceLT, Nat.reduceLeDiff, Nat.reduceBNe, Int.reduceBEq, Int.reduceBNe, Int.reduceLT, Int.reduceLE, evM, entOk.eq_1, entOk.eq_2, ents.eq_1, ents.eq_2, kI.eq_1, mpOk.eq_1, mpR.eq_1, lkV.eq_1, lkV.eq_2, a5]
      · simp (maxSteps := 4000000) only [go_sem, ↓reduceIte, reduceCtorEq, Nat.reduceEqDiff, Nat.reduceBEq, Nat.reduceAdd, Nat.reduceSub, Nat.reduceMul, Nat.reduceLT, Nat.reduceLeDiff, Nat.reduceBNe, Int.reduceBEq, Int.reduceBNe, Int.reduceLT, Int.reduceLE, evM, entOk.eq_1, entOk.eq_2, ents.eq_1, ents.eq_2, kI.eq_1, mpOk.eq_1, mpR.eq_1, lkV.eq_1, lkV.eq_2, a6]
      · simp (maxSteps := 4000000) only [go_sem, ↓reduceIte, reduceCtorEq, Nat.reduceEqDiff, Nat.reduceBEq, Nat.reduceAdd, Nat.reduceSub, Nat.reduceMul, Nat.reduceLT, Nat.reduceLeDiff, Nat.reduceBNe, Int.reduceBEq, Int.reduceBNe, Int.reduceLT, Int.reduceLE, evM, entOk.eq_1, entOk.eq_2, ents.eq_1, ents.eq_2, kI.eq_1, mpOk.eq_1, mpR.eq_1, lkV.eq_1, lkV.eq_2, a7]
      · simp (maxSteps := 4000000) only [go_sem, ↓reduceIte, reduceCtorEq, Nat.reduceEqDiff, Nat.reduceBEq, Nat.reduceAdd, Nat.reduceSub, Nat.reduceMul, Nat.reduceLT, Nat.reduceLeDiff, Nat.reduceBNe, Int.reduceBEq, Int.reduceBNe, Int.reduceLT, Int.reduceLE, evM, entOk.eq_1, entOk.eq_2, ents.eq_1, ents.eq_2, kI.eq_1, mpOk.eq_1, mpR.eq_1, lkV.eq_1, lkV.eq_2, a8]
      · simp (maxSteps := 4000000) only [go_sem, ↓reduceIte, reduceCtorEq, Nat.reduceEqDiff, Nat.reduceBEq, Nat.reduceAdd, Nat.reduceSub, Nat.reduceMul, Nat.reduceLT, Nat.reduceLeDiff, Nat.reduceBNe, Int.reduceBEq, Int.reduceBNe, Int.reduceLT, Int.reduceLE, evM, entOk.eq_1, entOk.eq_2, ents.eq_1, ents.eq_2, kI.eq_1, mpOk.eq_1, mpR.eq_1, lkV.eq_1, lkV.eq_2, a9]
end
section
/-
  What is below a slot, by the document: the code, walked.
-/
open Go.RowKit
set_option linter.unusedVariables false
set_option linter.unusedSimpArgs false
set_option maxRecDepth 100000
attribute [local go_sem ↓] runOp headOp
/-! ### percolate/percolateref55.In -/
def r_r55in_0 : Reg := ⟨[], [⟨(.mv (.c (.bool false))), (some 4), none, [], []⟩], [], [], false⟩
def r_r55in_1 : Reg := ⟨[], [⟨(.mv (.c (.int .i64 0))), (some 5), none, [], []⟩], [], [], false⟩
def t_r55in_2 : List ROp := [⟨(.mv (.t 5)), (some 6), none, [], []⟩, ⟨(.mv (.t 0)), (some 7), none, [], []⟩, ⟨(.len false (.t 7)), (some 8), none, [], []⟩, ⟨(.bin .lss (.t 6) (.t 8)), (some 9), none, [], []⟩]
def r_r55in_2 : Reg := ⟨[], t_r55in_2, [], [], false⟩
def t_r55in_3 : List ROp := [⟨(.mv (.t 0)), (some 12), none, [], []⟩, ⟨(.mv (.t 5)), (some 13), none, [], []⟩, ⟨(.iaddr 1 (.t 12) (.t 13)), (some 14), none, [], []⟩, ⟨(.load 1 false (.t 14)), (some 15), none, [], []⟩, ⟨(.mv (.t 1)), (some 16), none, [], []⟩, ⟨(.bin .eql (.t 15) (.t 16)), (some 17), none, [], []⟩]
def r_r55in_3 : Reg := ⟨[], t_r55in_3, [], [], false⟩
def r_r55in_4 : Reg := ⟨[], [⟨(.mv (.c (.bool true))), (some 4), none, [], []⟩], [], [], false⟩
def t_r55in_5 : List ROp := [⟨(.mv (.t 5)), (some 10), none, [], []⟩, ⟨(.bin .add (.t 10) (.c (.int .i64 1))), (some 11), none, [], []⟩, ⟨(.mv (.t 11)), (some 5), none, [], []⟩]
def r_r55in_5 : Reg := ⟨[], t_r55in_5, [], [], false⟩
def r_r55in_l6 : IR := (.seq (.seq (.reg r_r55in_2)
  (.cond (.t 9) .skip
  (.exit 0)))
  (.seq (.block 1 (.seq (.reg r_r55in_3)
  (.cond (.t 17) (.seq (.reg r_r55in_4)
  .ret)
  .skip)))
  (.reg r_r55in_5)))
def r_r55in_7 : Reg := ⟨[], [⟨(.mv (.c (.bool false))), (some 4), none, [], []⟩], [], [], false⟩
def ir_r55in : IR := (.seq (.reg r_r55in_0)
  (.seq (.seq (.reg r_r55in_1)
  (.block 0 (.loop r_r55in_l6)))
  (.seq (.reg r_r55in_7)
  .ret)))
def res_r55in : List RDesc := [(.tmp 4)]
theorem e_r55in_0 (C : FuncId → List AV → AV → Prop) (σ : St) (K : St → Prop) : runReg C r_r55in_0 σ K = runOps C [⟨(.mv (.c (.bool false))), (some 4), none, [], []⟩] (σ.kills []) K := rfl
theorem e_r55in_1 (C : FuncId → List AV → AV → Prop) (σ : St) (K : St → Prop) : runReg C r_r55in_1 σ K = runOps C [⟨(.mv (.c (.int .i64 0))), (some 5), none, [], []⟩] (σ.kills []) K := rfl
theorem e_r55in_2 (C : FuncId → List AV → AV → Prop) (σ : St) (K : St → Prop) : runReg C r_r55in_2 σ K = runOps C t_r55in_2 (σ.kills []) K := rfl
theorem e_r55in_3 (C : FuncId → List AV → AV → Prop) (σ : St) (K : St → Prop) : runReg C r_r55in_3 σ K = runOps C t_r55in_3 (σ.kills []) K := rfl
theorem e_r55in_4 (C : FuncId → List AV → AV → Prop) (σ : St) (K : St → Prop) : runReg C r_r55in_4 σ K = runOps C [⟨(.mv (.c (.bool true))), (some 4), none, [], []⟩] (σ.kills []) K := rfl
theorem e_r55in_5 (C : FuncId → List AV → AV → Prop) (σ : St) (K : St → Prop) : runReg C r_r55in_5 σ K = runOps C t_r55in_5 (σ.kills []) K := rfl
theorem e_r55in_7 (C : FuncId → List AV → AV → Prop) (σ : St) (K : St → Prop) : runReg C r_r55in_7 σ K = runOps C [⟨(.mv (.c (.bool false))), (some 4), none, [], []⟩] (σ.kills []) K := rfl
theorem fn_r55in {args : List AV} {r : AV} (ha : args.length.ble Try.f59.ntmps = true) (h : run (AFn Try.prog) ir_r55in (endQ res_r55in r) (initSt args)) : AFn Try.prog 59 args r :=
  AFn.of_code (pv := false) (hint := fun _ => []) (c := Try.f59.body.getD .skip) (by kernel_rfl) (by kernel_rfl) Try.func59 (by kernel_rfl) (by kernel_rfl) (by kernel_rfl) (of_decide_eq_true (by kernel_rfl)) (Nat.le_of_ble_eq_true ha) (Nat.le_of_ble_eq_true (by kernel_rfl)) (run_ok h)
/-! ### percolate/percolateref55.Below -/
def r_r55b_0 : Reg := ⟨[], [⟨(.mv (.c (.bool false))), (some 6), none, [], []⟩], [], [], false⟩
def r_r55b_1 : Reg := ⟨[], [⟨(.mknil 1 3), (some 7), none, [], []⟩], [7], [], false⟩
def t_r55b_2 : List ROp := [⟨(.mv (.t 1)), (some 15), none, [16], []⟩, ⟨(.bsl 1 3 [(.t 15)]), (some 16), none, [], []⟩, ⟨(.mv (.t 16)), (some 8), none, [], []⟩]
def r_r55b_2 : Reg := ⟨[], t_r55b_2, [16], [], false⟩
def r_r55b_3 : Reg := ⟨[], [⟨(.mv (.c (.int .i64 0))), (some 9), none, [], []⟩], [], [], false⟩
def t_r55b_4 : List ROp := [⟨(.mv (.t 9)), (some 17), none, [], []⟩, ⟨(.mv (.t 8)), (some 18), none, [], []⟩, ⟨(.len false (.t 18)), (some 19), none, [], []⟩, ⟨(.bin .lss (.t 17) (.t 19)), (some 20), none, [], []⟩]
def r_r55b_4 : Reg := ⟨[], t_r55b_4, [], [], false⟩
def t_r55b_5 : List ROp := [⟨(.mv (.t 0)), (some 24), none, [29, 10], []⟩, ⟨(.mv (.t 8)), (some 25), none, [29, 10], []⟩, ⟨(.mv (.t 9)), (some 26), none, [29, 10], []⟩, ⟨(.iaddr 1 (.t 25) (.t 26)), (some 27), none, [29, 10], []⟩, ⟨(.load 1 false (.t 27)), (some 28), none, [29, 10], []⟩, ⟨(.callv (.c (.clo 52 [] [])) [(.t 24), (.t 28)]), (some 29), none, [10], []⟩, ⟨(.mv (.t 29)), (some 23), none, [10], []⟩, ⟨(.ext 0 (.t 23)), (some 30), none, [10], []⟩, ⟨(.ext 1 (.t 23)), (some 31), none, [10], []⟩, ⟨(.alloc 10 36 (.agg [(.int .i64 0), (.int .i64 0), (.sl []), (.sl []), (.str ⟨#[]⟩), (.bool false), (.int .i64 0), (.int .i64 0), (.sl []), (.sl [])])), (some 10), none, [], []⟩, ⟨(.store 10 (.t 10) (.t 30)), none, none, [], []⟩, ⟨(.mv (.t 31)), (some 11), none, [], []⟩]
def r_r55b_5 : Reg := ⟨[], t_r55b_5, [29, 10], [], false⟩
def r_r55b_6 : Reg := ⟨[], [⟨(.mv (.t 11)), (some 32), none, [], []⟩, ⟨(.un .not (.t 32)), (some 33), none, [], []⟩], [], [], false⟩
def t_r55b_7 : List ROp := [⟨(.bsl 1 3 []), (some 34), none, [], []⟩, ⟨(.faddr 3 (.t 10)), (some 35), none, [], []⟩, ⟨(.load 1 false (.t 35)), (some 36), none, [], []⟩, ⟨(.append 1 3 8 (.t 34) (.t 36)), (some 37), none, [], []⟩, ⟨(.mv (.t 37)), (some 12), none, [], []⟩]
def r_r55b_7 : Reg := ⟨[], t_r55b_7, [34], [], false⟩
def t_r55b_8 : List ROp := [⟨(.faddr 6 (.t 10)), (some 38), none, [], []⟩, ⟨(.load 1 false (.t 38)), (some 39), none, [], []⟩, ⟨(.bin .geq (.t 39) (.c (.int .i64 0))), (some 40), none, [], []⟩]
def r_r55b_8 : Reg := ⟨[], t_r55b_8, [], [], false⟩
def t_r55b_9 : List ROp := [⟨(.mv (.t 12)), (some 41), none, [44], []⟩, ⟨(.faddr 6 (.t 10)), (some 42), none, [44], []⟩, ⟨(.load 1 false (.t 42)), (some 43), none, [44], []⟩, ⟨(.bsl 1 3 [(.t 43)]), (some 44), none, [], []⟩, ⟨(.append 1 3 8 (.t 41) (.t 44)), (some 45), none, [], []⟩, ⟨(.mv (.t 45)), (some 12), none, [], []⟩]
def r_r55b_9 : Reg := ⟨[], t_r55b_9, [44], [], false⟩
def t_r55b_10 : List ROp := [⟨(.mv (.t 12)), (some 46), none, [], []⟩, ⟨(.len false (.t 46)), (some 47), none, [], []⟩, ⟨(.mv (.c (.int .i64 0))), (some 48), none, [], []⟩]
def r_r55b_10 : Reg := ⟨[], t_r55b_10, [], [], false⟩
def r_r55b_11 : Reg := ⟨[], [⟨(.bin .lss (.t 48) (.t 47)), (some 49), none, [], []⟩], [], [], false⟩
def t_r55b_12 : List ROp := [⟨(.iaddr 1 (.t 46) (.t 48)), (some 50), none, [], []⟩, ⟨(.load 1 false (.t 50)), (some 51), none, [], []⟩, ⟨(.mv (.t 51)), (some 14), none, [], []⟩]
def r_r55b_12 : Reg := ⟨[], t_r55b_12, [], [], false⟩
def t_r55b_13 : List ROp := [⟨(.mv (.t 7)), (some 52), none, [54], []⟩, ⟨(.mv (.t 14)), (some 53), none, [54], []⟩, ⟨(.callv (.c (.clo 59 [] [])) [(.t 52), (.t 53)]), (some 54), none, [], []⟩, ⟨(.un .not (.t 54)), (some 55), none, [], []⟩]
def r_r55b_13 : Reg := ⟨[], t_r55b_13, [54], [], false⟩
def t_r55b_14 : List ROp := [⟨(.mv (.t 7)), (some 56), none, [58], []⟩, ⟨(.mv (.t 14)), (some 57), none, [58], []⟩, ⟨(.bsl 1 3 [(.t 57)]), (some 58), none, [], []⟩, ⟨(.append 1 3 8 (.t 56) (.t 58)), (some 59), none, [], []⟩, ⟨(.mv (.t 59)), (some 7), none, [], []⟩]
def r_r55b_14 : Reg := ⟨[], t_r55b_14, [58], [], false⟩
def t_r55b_15 : List ROp := [⟨(.mv (.t 8)), (some 60), none, [62], []⟩, ⟨(.mv (.t 14)), (some 61), none, [62], []⟩, ⟨(.bsl 1 3 [(.t 61)]), (some 62), none, [], []⟩, ⟨(.append 1 3 8 (.t 60) (.t 62)), (some 63), none, [], []⟩, ⟨(.mv (.t 63)), (some 8), none, [], []⟩]
def r_r55b_15 : Reg := ⟨[], t_r55b_15, [62], [], false⟩
def r_r55b_16 : Reg := ⟨[], [⟨(.bin .add (.t 48) (.c (.int .i64 1))), (some 64), none, [], []⟩, ⟨(.mv (.t 64)), (some 48), none, [], []⟩], [], [], false⟩
def r_r55b_l17 : IR := (.seq (.reg r_r55b_11)
  (.seq (.cond (.t 49) .skip
  (.exit 2))
  (.seq (.block 3 (.seq (.reg r_r55b_12)
  (.seq (.reg r_r55b_13)
  (.cond (.t 55) (.seq (.reg r_r55b_14)
  (.reg r_r55b_15))
  .skip))))
  (.reg r_r55b_16))))
def t_r55b_18 : List ROp := [⟨(.mv (.t 9)), (some 21), none, [], []⟩, ⟨(.bin .add (.t 21) (.c (.int .i64 1))), (some 22), none, [], []⟩, ⟨(.mv (.t 22)), (some 9), none, [], []⟩]
def r_r55b_18 : Reg := ⟨[], t_r55b_18, [], [], false⟩
def r_r55b_l19 : IR := (.seq (.seq (.reg r_r55b_4)
  (.cond (.t 20) .skip
  (.exit 0)))
  (.seq (.block 1 (.seq (.reg r_r55b_5)
  (.seq (.seq (.reg r_r55b_6)
  (.cond (.t 33) (.exit 1)
  .skip))
  (.seq (.reg r_r55b_7)
  (.seq (.seq (.reg r_r55b_8)
  (.cond (.t 40) (.reg r_r55b_9)
  .skip))
  (.seq (.reg r_r55b_10)
  (.block 2 (.loop r_r55b_l17))))))))
  (.reg r_r55b_18)))
def t_r55b_20 : List ROp := [⟨(.mv (.t 7)), (some 65), none, [67], []⟩, ⟨(.mv (.t 2)), (some 66), none, [67], []⟩, ⟨(.callv (.c (.clo 59 [] [])) [(.t 65), (.t 66)]), (some 67), none, [], []⟩, ⟨(.mv (.t 67)), (some 6), none, [], []⟩]
def r_r55b_20 : Reg := ⟨[], t_r55b_20, [67], [], false⟩
def ir_r55b : IR := (.seq (.reg r_r55b_0)
  (.seq (.reg r_r55b_1)
  (.seq (.reg r_r55b_2)
  (.seq (.seq (.reg r_r55b_3)
  (.block 0 (.loop r_r55b_l19)))
  (.seq (.reg r_r55b_20)
  .ret)))))
def res_r55b : List RDesc := [(.tmp 6)]
theorem e_r55b_0 (C : FuncId → List AV → AV → Prop) (σ : St) (K : St → Prop) : runReg C r_r55b_0 σ K = runOps C [⟨(.mv (.c (.bool false))), (some 6), none, [], []⟩] (σ.kills []) K := rfl
theorem e_r55b_1 (C : FuncId → List AV → AV → Prop) (σ : St) (K : St → Prop) : runReg C r_r55b_1 σ K = runOps C [⟨(.mknil 1 3), (some 7), none, [], []⟩] (σ.kills [7]) K := rfl
theorem e_r55b_2 (C : FuncId → List AV → AV → Prop) (σ : St) (K : St → Prop) : runReg C r_r55b_2 σ K = runOps C t_r55b_2 (σ.kills [16]) K := rfl
theorem e_r55b_3 (C : FuncId → List AV → AV → Prop) (σ : St) (K : St → Prop) : runReg C r_r55b_3 σ K = runOps C [⟨(.mv (.c (.int .i64 0))), (some 9), none, [], []⟩] (σ.kills []) K := rfl
theorem e_r55b_4 (C : FuncId → List AV → AV → Prop) (σ : St) (K : St → Prop) : runReg C r_r55b_4 σ K = runOps C t_r55b_4 (σ.kills []) K := rfl
theorem e_r55b_5 (C : FuncId → List AV → AV → Prop) (σ : St) (K : St → Prop) : runReg C r_r55b_5 σ K = runOps C t_r55b_5 (σ.kills [29, 10]) K := rfl
theorem e_r55b_6 (C : FuncId → List AV → AV → Prop) (σ : St) (K : St → Prop) : runReg C r_r55b_6 σ K = runOps C [⟨(.mv (.t 11)), (some 32), none, [], []⟩, ⟨(.un .not (.t 32)), (some 33), none, [], []⟩] (σ.kills []) K := rfl
theorem e_r55b_7 (C : FuncId → List AV → AV → Prop) (σ : St) (K : St → Prop) : runReg C r_r55b_7 σ K = runOps C t_r55b_7 (σ.kills [34]) K := rfl
theorem e_r55b_8 (C : FuncId → List AV → AV → Prop) (σ : St) (K : St → Prop) : runReg C r_r55b_8 σ K = runOps C t_r55b_8 (σ.kills []) K := rfl
theorem e_r55b_9 (C : FuncId → List AV → AV → Prop) (σ : St) (K : St → Prop) : runReg C r_r55b_9 σ K = runOps C t_r55b_9 (σ.kills [44]) K := rfl
theorem e_r55b_10 (C : FuncId → List AV → AV → Prop) (σ : St) (K : St → Prop) : runReg C r_r55b_10 σ K = runOps C t_r55b_10 (σ.kills []) K := rfl
theorem e_r55b_11 (C : FuncId → List AV → AV → Prop) (σ : St) (K : St → Prop) : runReg C r_r55b_11 σ K = runOps C [⟨(.bin .lss (.t 48) (.t 47)), (some 49), none, [], []⟩] (σ.kills []) K := rfl
theorem e_r55b_12 (C : FuncId → List AV → AV → Prop) (σ : St) (K : St → Prop) : runReg C r_r55b_12 σ K = runOps C t_r55b_12 (σ.kills []) K := rfl
theorem e_r55b_13 (C : FuncId → List AV → AV → Prop) (σ : St) (K : St → Prop) : runReg C r_r55b_13 σ K = runOps C t_r55b_13 (σ.kills [54]) K := rfl
theorem e_r55b_14 (C : FuncId → List AV → AV → Prop) (σ : St) (K : St → Prop) : runReg C r_r55b_14 σ K = runOps C t_r55b_14 (σ.kills [58]) K := rfl
theorem e_r55b_15 (C : FuncId → List AV → AV → Prop) (σ : St) (K : St → Prop) : runReg C r_r55b_15 σ K = runOps C t_r55b_15 (σ.kills [62]) K := rfl
theorem e_r55b_16 (C : FuncId → List AV → AV → Prop) (σ : St) (K : St → Prop) : runReg C r_r55b_16 σ K = runOps C [⟨(.bin .add (.t 48) (.c (.int .i64 1))), (some 64), none, [], []⟩, ⟨(.mv (.t 64)), (some 48), none, [], []⟩] (σ.kills []) K := rfl
theorem e_r55b_18 (C : FuncId → List AV → AV → Prop) (σ : St) (K : St → Prop) : runReg C r_r55b_18 σ K = runOps C t_r55b_18 (σ.kills []) K := rfl
theorem e_r55b_20 (C : FuncId → List AV → AV → Prop) (σ : St) (K : St → Prop) : runReg C r_r55b_20 σ K = runOps C t_r55b_20 (σ.kills [67]) K := rfl
theorem fn_r55b {args : List AV} {r : AV} (ha : args.length.ble Try.f14.ntmps = true) (h : run (AFn Try.prog) ir_r55b (endQ res_r55b r) (initSt args)) : AFn Try.prog 14 args r :=
  AFn.of_code (pv := false) (hint := fun _ => []) (c := Try.f14.body.getD .skip) (by kernel_rfl) (by kernel_rfl) Try.func14 (by kernel_rfl) (by kernel_rfl) (by kernel_rfl) (of_decide_eq_true (by kernel_rfl)) (Nat.le_of_ble_eq_true ha) (Nat.le_of_ble_eq_true (by kernel_rfl)) (run_ok h)
attribute [local go_sem ↓] ir_r55in
attribute [local go_sem] res_r55in e_r55in_0 e_r55in_1 e_r55in_2 t_r55in_2 e_r55in_3 t_r55in_3 e_r55in_4 e_r55in_5 t_r55in_5 e_r55in_7
attribute [local go_sem ↓] ir_r55b
attribute [local go_sem] res_r55b e_r55b_0 e_r55b_1 e_r55b_2 t_r55b_2 e_r55b_3 e_r55b_4 t_r55b_4 e_r55b_5 t_r55b_5 e_r55b_6 e_r55b_7 t_r55b_7 e_r55b_8 t_r55b_8 e_r55b_9 t_r55b_9 e_r55b_10 t_r55b_10 e_r55b_11 e_r55b_12 t_r55b_12 e_r55b_13 t_r55b_13 e_r55b_14 t_r55b_14 e_r55b_15 t_r55b_15 e_r55b_16 e_r55b_18 t_r55b_18 e_r55b_20 t_r55b_20
def r55Inv (l : List Int) (s : Int) (R : Bool) (k : Nat) (σ : St) : Prop :=
  ∃ j : Nat, j ≤ l.length ∧ k = l.length - j ∧ σ.T 0 = .sl (l.map (AV.int .i64)) ∧ σ.T 1 = .int .i64 s ∧ σ.T 5 = .int .i64 j ∧ (l.drop j).contains s = R
theorem r55in_ok (l : List Int) (s : Int) (hl : l.length ≤ 1000000) : AFn Try.prog 59 [.sl (l.map (AV.int .i64)), .int .i64 s] (.bool (l.contains s)) := by
  refine fn_r55in rfl ?_
  obtain ⟨R, hR⟩ : ∃ R, l.contains s = R := ⟨_, rfl⟩
  rw [hR]
  simp (maxSteps := 4000000) only [go_sem, ↓reduceIte, reduceCtorEq, Nat.reduceEqDiff, Nat.reduceBEq, Nat.reduceAdd, Nat.reduceSub, Nat.reduceMul, Nat.reduceLT, Nat.reduceLeDiff, Nat.reduceBNe, Int.reduceBEq, Int.reduceBNe, Int.reduceLT, Int.reduceLE, Msg.a, Par.a, List.length_map]
  refine run_loop (r55Inv l s R) (k := l.length) ⟨0, by omega, rfl, ?_, ?_, ?_, hR⟩ ?_
  · (simp (maxSteps := 4000000) only [go_sem, ↓reduceIte, reduceCtorEq, Nat.reduceEqDiff, Nat.reduceBEq, Nat.reduceAdd, Nat.reduceSub, Nat.reduceMul, Nat.reduceLT, Nat.reduceLeDiff, Nat.reduceBNe, Int.reduceBEq, Int.reduceBNe, Int.reduceLT, Int.reduceLE, Msg.a, Par.a]) <;> rfl
  · (simp (maxSteps := 4000000) only [go_sem, ↓reduceIte, reduceCtorEq, Nat.reduceEqDiff, Nat.reduceBEq, Nat.reduceAdd, Nat.reduceSub, Nat.reduceMul, Nat.reduceLT, Nat.reduceLeDiff, Nat.reduceBNe, Int.reduceBEq, Int.reduceBNe, Int.reduceLT, Int.reduceLE, Msg.a, Par.a]) <;> rfl
  · (simp (maxSteps := 4000000) only [go_sem, ↓reduceIte, reduceCtorEq, Nat.reduceEqDiff, Nat.reduceBEq, Nat.reduceAdd, Nat.reduceSub, Nat.reduceMul, Nat.reduceLT, Nat.reduceLeDiff, Nat.reduceBNe, Int.reduceBEq, Int.reduceBNe, Int.reduceLT, Int.reduceLE, Msg.a, Par.a]) <;> rfl
  clear hR
  rintro k σ ⟨j, hj, rfl, t0, t1, t5, hr⟩
  simp only [r_r55in_l6]
  by_cases hlt : j < l.length
  case neg =>
    have hlt' : ¬ (j : Int) < (l.length : Int) := by omega
    rw [List.drop_eq_nil_of_le (by omega), List.contains_nil] at hr
    subst hr
    simp (maxSteps := 4000000) only [go_sem, ↓reduceIte, reduceCtorEq, Nat.reduceEqDiff, Nat.reduceBEq, Nat.reduceAdd, Nat.reduceSub, Nat.reduceMul, Nat.reduceLT, Nat.reduceLeDiff, Nat.reduceBNe, Int.reduceBEq, Int.reduceBNe, Int.reduceLT, Int.reduceLE, Msg.a, Par.a, t0, t1, t5, hlt', List.length_map]
  have hlt' : (j : Int) < (l.length : Int) := by omega
  obtain ⟨x, hx⟩ := get_lt hlt
  have hgx := at_map (f := AV.int .i64) hx
  have hw := wrapS (j := j) (by omega)
  rw [drop_at hx, List.contains_cons] at hr
  by_cases hs : x = s
  · have hs' : (x == s) = true := by simp [hs]
    rw [show (s == x) = true by simp [hs], Bool.true_or] at hr
    subst hr
    simp (maxSteps := 4000000) only [go_sem, ↓reduceIte, reduceCtorEq, Nat.reduceEqDiff, Nat.reduceBEq, Nat.reduceAdd, Nat.reduceSub, Nat.reduceMul, Nat.reduceLT, Nat.reduceLeDiff, Nat.reduceBNe, Int.reduceBEq, Int.reduceBNe, Int.reduceLT, Int.reduceLE, Msg.a, Par.a, t0, t1, t5, hlt', hgx, hs', List.length_map, Int.toNat_natCast]
    all_goals omega
  · have hs' : (x == s) = false := by simp [hs]
    rw [show (s == x) = false by simpa using fun e : s = x => hs e.symm, Bool.false_or] at hr
    simp (maxSteps := 4000000) only [go_sem, ↓reduceIte, reduceCtorEq, Nat.reduceEqDiff, Nat.reduceBEq, Nat.reduceAdd, Nat.reduceSub, Nat.reduceMul, Nat.reduceLT, Nat.reduceLeDiff, Nat.reduceBNe, Int.reduceBEq, Int.reduceBNe, Int.reduceLT, Int.reduceLE, Msg.a, Par.a, t0, t1, t5, hlt', hgx, hs', hw, List.length_map, Int.toNat_natCast]
    (repeat refine And.intro (by omega) ?_)
    refine ⟨l.length - (j + 1), by omega, j + 1, by omega, rfl, ?_, ?_, ?_, hr⟩
    · simp (maxSteps := 4000000) only [go_sem, ↓reduceIte, reduceCtorEq, Nat.reduceEqDiff, Nat.reduceBEq, Nat.reduceAdd, Nat.reduceSub, Nat.reduceMul, Nat.reduceLT, Nat.reduceLeDiff, Nat.reduceBNe, Int.reduceBEq, Int.reduceBNe, Int.reduceLT, Int.reduceLE, Msg.a, Par.a, t0]
    · simp (maxSteps := 4000000) only [go_sem, ↓reduceIte, reduceCtorEq, Nat.reduceEqDiff, Nat.reduceBEq, Nat.reduceAdd, Nat.reduceSub, Nat.reduceMul, Nat.reduceLT, Nat.reduceLeDiff, Nat.reduceBNe, Int.reduceBEq, Int.reduceBNe, Int.reduceLT, Int.reduceLE, Msg.a, Par.a, t1]
    · simp (maxSteps := 4000000) only [go_sem, ↓reduceIte, reduceCtorEq, Nat.reduceEqDiff, Nat.reduceBEq, Nat.reduceAdd, Nat.reduceSub, Nat.reduceMul, Nat.reduceLT, Nat.reduceLeDiff, Nat.reduceBNe, Int.reduceBEq, Int.reduceBNe, Int.reduceLT, Int.reduceLE, Msg.a, Par.a, hw]
def rbI (l : List Nd) (a b : Int) (M xs : List Int) (i : Nat) (k : Nat) (σ : St) : Prop :=
  ∃ (j p : Nat) (m : List Int), j ≤ xs.length ∧ k = xs.length - j ∧ addAll m (xs.drop j) = M ∧ p ≤ m.length ∧ left l.length m + m.length ≤ 200 ∧ σ.T 46 = .rs 34 0 xs.length ∧ σ.H 34 = some ⟨1, 3, xs.map (AV.int .i64), 0⟩ ∧ σ.T 47 = .int .i64 xs.length ∧ σ.T 48 = .int .i64 j ∧
    σ.T 0 = .sl (l.map Nd.a) ∧ σ.T 2 = .int .i64 b ∧ σ.T 7 = .rs 7 0 m.length ∧ σ.H 7 = some ⟨1, 3, m.map (AV.int .i64), p⟩ ∧ σ.T 8 = .rs 16 0 (m.length + 1) ∧ σ.H 16 = some ⟨1, 3, .int .i64 a :: m.map (AV.int .i64), 0⟩ ∧ σ.T 9 = .int .i64 i
def rbEnd (l : List Nd) (a b : Int) (M : List Int) (i : Nat) (σ : St) : Prop :=
  ∃ p : Nat, p ≤ M.length ∧ left l.length M + M.length ≤ 200 ∧ σ.T 0 = .sl (l.map Nd.a) ∧ σ.T 2 = .int .i64 b ∧ σ.T 7 = .rs 7 0 M.length ∧ σ.H 7 = some ⟨1, 3, M.map (AV.int .i64), p⟩ ∧ σ.T 8 = .rs 16 0 (M.length + 1) ∧ σ.H 16 = some ⟨1, 3, .int .i64 a :: M.map (AV.int .i64), 0⟩ ∧ σ.T 9 = .int .i64 i
set_option maxHeartbeats 8000000 in
theorem add_loop (l : List Nd) (a b : Int) (M xs : List Int) (i : Nat) (hx : ∀ x, x ∈ xs → 0 ≤ x ∧ x < l.length) (hxs : xs.length ≤ 2001) (Q : XK → St → Prop) (hEnd : ∀ σ, rbEnd l a b M i σ → Q (.exit 2) σ) (k : Nat) (σ : St) (hI : rbI l a b M xs i k σ) :
    run (AFn Try.prog) r_r55b_l17 (thenQ (fun σ' => ∃ m, m < k ∧ rbI l a b M xs i m σ') Q) σ := by
  obtain ⟨j, p, m, hj, rfl, hM, hp, hlen, t46, h34, t47, t48, t0, t2, t7, h7, t8, h16, t9⟩ := hI
  simp only [r_r55b_l17]
  by_cases hlt : j < xs.length
  case neg =>
    have hlt' : ¬ (j : Int) < (xs.length : Int) := by omega
    rw [List.drop_eq_nil_of_le (by omega), addAll] at hM
    subst hM
    simp (maxSteps := 4000000) only [go_sem, ↓reduceIte, reduceCtorEq, Nat.reduceEqDiff, Nat.reduceBEq, Nat.reduceAdd, Nat.reduceSub, Nat.reduceMul, Nat.reduceLT, Nat.reduceLeDiff, Nat.reduceBNe, Int.reduceBEq, Int.reduceBNe, Int.reduceLT, Int.reduceLE, Msg.a, Par.a, t47, t48, hlt']
    refine hEnd _ ⟨p, hp, hlen, ?_, ?_, ?_, ?_, ?_, ?_, ?_⟩
    · simp (maxSteps := 4000000) only [go_sem, ↓reduceIte, reduceCtorEq, Nat.reduceEqDiff, Nat.reduceBEq, Nat.reduceAdd, Nat.reduceSub, Nat.reduceMul, Nat.reduceLT, Nat.reduceLeDiff, Nat.reduceBNe, Int.reduceBEq, Int.reduceBNe, Int.reduceLT, Int.reduceLE, Msg.a, Par.a, t0]
    · simp (maxSteps := 4000000) only [go_sem, ↓reduceIte, reduceCtorEq, Nat.reduceEqDiff, Nat.reduceBEq, Nat.reduceAdd, Nat.reduceSub, Nat.reduceMul, Nat.reduceLT, Nat.reduceLeDiff, Nat.reduceBNe, Int.reduceBEq, Int.reduceBNe, Int.reduceLT, Int.reduceLE, Msg.a, Par.a, t2]
    · simp (maxSteps := 4000000) only [go_sem, ↓reduceIte, reduceCtorEq, Nat.reduceEqDiff, Nat.reduceBEq, Nat.reduceAdd, Nat.reduceSub, Nat.reduceMul, Nat.reduceLT, Nat.reduceLeDiff, Nat.reduceBNe, Int.reduceBEq, Int.reduceBNe, Int.reduceLT, Int.reduceLE, Msg.a, Par.a, t7]
    · simp (maxSteps := 4000000) only [go_sem, ↓reduceIte, reduceCtorEq, Nat.reduceEqDiff, Nat.reduceBEq, Nat.reduceAdd, Nat.reduceSub, Nat.reduceMul, Nat.reduceLT, Nat.reduceLeDiff, Nat.reduceBNe, Int.reduceBEq, Int.reduceBNe, Int.reduceLT, Int.reduceLE, Msg.a, Par.a, h7]
    · simp (maxSteps := 4000000) only [go_sem, ↓reduceIte, reduceCtorEq, Nat.reduceEqDiff, Nat.reduceBEq, Nat.reduceAdd, Nat.reduceSub, Nat.reduceMul, Nat.reduceLT, Nat.reduceLeDiff, Nat.reduceBNe, Int.reduceBEq, Int.reduceBNe, Int.reduceLT, Int.reduceLE, Msg.a, Par.a, t8]
    · simp (maxSteps := 4000000) only [go_sem, ↓reduceIte, reduceCtorEq, Nat.reduceEqDiff, Nat.reduceBEq, Nat.reduceAdd, Nat.reduceSub, Nat.reduceMul, Nat.reduceLT, Nat.reduceLeDiff, Nat.reduceBNe, Int.reduceBEq, Int.reduceBNe, Int.reduceLT, Int.reduceLE, Msg.a, Par.a, h16]
    · simp (maxSteps := 4000000) only [go_sem, ↓reduceIte, reduceCtorEq, Nat.reduceEqDiff, Nat.reduceBEq, Nat.reduceAdd, Nat.reduceSub, Nat.reduceMul, Nat.reduceLT, Nat.reduceLeDiff, Nat.reduceBNe, Int.reduceBEq, Int.reduceBNe, Int.reduceLT, Int.reduceLE, Msg.a, Par.a, t9]
  have hlt' : (j : Int) < (xs.length : Int) := by omega
  obtain ⟨x, hxj⟩ := get_lt hlt
  have hgx := at_map (f := AV.int .i64) hxj
  have hxr := hx x (List.mem_of_getElem? hxj)
  have hw := wrapS (j := j) (by omega)
  have cI := r55in_ok m x (by omega)
  have tk : List.take m.length (m.map (AV.int .i64)) = m.map (AV.int .i64) := List.take_of_length_le (by simp)
  rw [drop_at hxj, addAll] at hM
  cases hc : m.contains x with
  | true =>
    rw [hc] at cI
    rw [hc, if_pos rfl] at hM
    (repeat (first | simp (maxSteps := 4000000) only [go_sem, ↓reduceIte, reduceCtorEq, Nat.reduceEqDiff, Nat.reduceBEq, Nat.reduceAdd, Nat.reduceSub, Nat.reduceMul, Nat.reduceLT, Nat.reduceLeDiff, Nat.reduceBNe, Int.reduceBEq, Int.reduceBNe, Int.reduceLT, Int.reduceLE, Msg.a, Par.a, t46, h34, t47, t48, t0, t2, t7, h7, t8, h16, t9, hlt', hgx, hw, tk, hlt, Int.toNat_natCast, List.length_map, Nat.zero_add] | refine calling (cI) ?_ | refine callingH (cI) ?_ | refine And.intro (by omega) ?_ | refine And.intro (fun d hd => by (repeat (rcases hd with rfl | hd; · exact ⟨rfl, rfl⟩)); cases hd) ?_))
    refine ⟨xs.length - (j + 1), by omega, j + 1, p, m, by omega, rfl, hM, hp, hlen, ?_, ?_, ?_, ?_, ?_, ?_, ?_, ?_, ?_, ?_, ?_⟩
    · simp (maxSteps := 4000000) only [go_sem, ↓reduceIte, reduceCtorEq, Nat.reduceEqDiff, Nat.reduceBEq, Nat.reduceAdd, Nat.reduceSub, Nat.reduceMul, Nat.reduceLT, Nat.reduceLeDiff, Nat.reduceBNe, Int.reduceBEq, Int.reduceBNe, Int.reduceLT, Int.reduceLE, Msg.a, Par.a, t46]
    · simp (maxSteps := 4000000) only [go_sem, ↓reduceIte, reduceCtorEq, Nat.reduceEqDiff, Nat.reduceBEq, Nat.reduceAdd, Nat.reduceSub, Nat.reduceMul, Nat.reduceLT, Nat.reduceLeDiff, Nat.reduceBNe, Int.reduceBEq, Int.reduceBNe, Int.reduceLT, Int.reduceLE, Msg.a, Par.a, h34]
    · simp (maxSteps := 4000000) only [go_sem, ↓reduceIte, reduceCtorEq, Nat.reduceEqDiff, Nat.reduceBEq, Nat.reduceAdd, Nat.reduceSub, Nat.reduceMul, Nat.reduceLT, Nat.reduceLeDiff, Nat.reduceBNe, Int.reduceBEq, Int.reduceBNe, Int.reduceLT, Int.reduceLE, Msg.a, Par.a, t47]
    · simp (maxSteps := 4000000) only [go_sem, ↓reduceIte, reduceCtorEq, Nat.reduceEqDiff, Nat.reduceBEq, Nat.reduceAdd, Nat.reduceSub, Nat.reduceMul, Nat.reduceLT, Nat.reduceLeDiff, Nat.reduceBNe, Int.reduceBEq, Int.reduceBNe, Int.reduceLT, Int.reduceLE, Msg.a, Par.a, hw]
    · simp (maxSteps := 4000000) only [go_sem, ↓reduceIte, reduceCtorEq, Nat.reduceEqDiff, Nat.reduceBEq, Nat.reduceAdd, Nat.reduceSub, Nat.reduceMul, Nat.reduceLT, Nat.reduceLeDiff, Nat.reduceBNe, Int.reduceBEq, Int.reduceBNe, Int.reduceLT, Int.reduceLE, Msg.a, Par.a, t0]
    · simp (maxSteps := 4000000) only [go_sem, ↓reduceIte, reduceCtorEq, Nat.reduceEqDiff, Nat.reduceBEq, Nat.reduceAdd, Nat.reduceSub, Nat.reduceMul, Nat.reduceLT, Nat.reduceLeDiff, Nat.reduceBNe, Int.reduceBEq, Int.reduceBNe, Int.reduceLT, Int.reduceLE, Msg.a, Par.a, t2]
    · simp (maxSteps := 4000000) only [go_sem, ↓reduceIte, reduceCtorEq, Nat.reduceEqDiff, Nat.reduceBEq, Nat.reduceAdd, Nat.reduceSub, Nat.reduceMul, Nat.reduceLT, Nat.reduceLeDiff, Nat.reduceBNe, Int.reduceBEq, Int.reduceBNe, Int.reduceLT, Int.reduceLE, Msg.a, Par.a, t7]
    · simp (maxSteps := 4000000) only [go_sem, ↓reduceIte, reduceCtorEq, Nat.reduceEqDiff, Nat.reduceBEq, Nat.reduceAdd, Nat.reduceSub, Nat.reduceMul, Nat.reduceLT, Nat.reduceLeDiff, Nat.reduceBNe, Int.reduceBEq, Int.reduceBNe, Int.reduceLT, Int.reduceLE, Msg.a, Par.a, h7]
    · simp (maxSteps := 4000000) only [go_sem, ↓reduceIte, reduceCtorEq, Nat.reduceEqDiff, Nat.reduceBEq, Nat.reduceAdd, Nat.reduceSub, Nat.reduceMul, Nat.reduceLT, Nat.reduceLeDiff, Nat.reduceBNe, Int.reduceBEq, Int.reduceBNe, Int.reduceLT, Int.reduceLE, Msg.a, Par.a, t8]
    · simp (maxSteps := 4000000) only [go_sem, ↓reduceIte, reduceCtorEq, Nat.reduceEqDiff, Nat.reduceBEq, Nat.reduceAdd, Nat.reduceSub, Nat.reduceMul, Nat.reduceLT, Nat.reduceLeDiff, Nat.reduceBNe, Int.reduceBEq, Int.reduceBNe, Int.reduceLT, Int.reduceLE, Msg.a, Par.a, h16]
    · simp (maxSteps := 4000000) only [go_sem, ↓reduceIte, reduceCtorEq, Nat.reduceEqDiff, Nat.reduceBEq, Nat.reduceAdd, Nat.reduceSub, Nat.reduceMul, Nat.reduceLT, Nat.reduceLeDiff, Nat.reduceBNe, Int.reduceBEq, Int.reduceBNe, Int.reduceLT, Int.reduceLE, Msg.a, Par.a, t9]
  | false =>
    rw [hc] at cI
    rw [hc, if_neg (by decide)] at hM
    have hl1 := left_add hxr.1 hxr.2 hc
    (repeat (first | simp (maxSteps := 4000000) only [go_sem, ↓reduceIte, reduceCtorEq, Nat.reduceEqDiff, Nat.reduceBEq, Nat.reduceAdd, Nat.reduceSub, Nat.reduceMul, Nat.reduceLT, Nat.reduceLeDiff, Nat.reduceBNe, Int.reduceBEq, Int.reduceBNe, Int.reduceLT, Int.reduceLE, Msg.a, Par.a, t46, h34, t47, t48, t0, t2, t7, h7, t8, h16, t9, hlt', hgx, hw, tk, hlt, Int.toNat_natCast, List.length_map, Nat.zero_add] | refine calling (cI) ?_ | refine callingH (cI) ?_ | refine And.intro (by omega) ?_ | refine And.intro (fun d hd => by (repeat (rcases hd with rfl | hd; · exact ⟨rfl, rfl⟩)); cases hd) ?_))
    have one : ∀ d : AV, d = .int .i64 x ∨ False → d.cells.length = 1 ∧ d.cells.all AV.one = true := fun d hd => by
      rcases hd with rfl | hd
      · exact ⟨rfl, rfl⟩
      · cases hd
    have hml : (m ++ [x]).length = m.length + 1 := List.length_append
    have hmm : (m ++ [x]).map (AV.int .i64) = m.map (AV.int .i64) ++ [.int .i64 x] := List.map_append
    refine ⟨⟨hp, ⟨by omega, by omega⟩, one⟩, ⟨⟨by omega, by omega⟩, one⟩, xs.length - (j + 1), by omega, j + 1, p, m ++ [x], by omega, rfl, hM, by rw [hml]; omega, by rw [hml]; omega, ?_, ?_, ?_, ?_, ?_, ?_, ?_, ?_, ?_, ?_, ?_⟩
    · simp (maxSteps := 4000000) only [go_sem, ↓reduceIte, reduceCtorEq, Nat.reduceEqDiff, Nat.reduceBEq, Nat.reduceAdd, Nat.reduceSub, Nat.reduceMul, Nat.reduceLT, Nat.reduceLeDiff, Nat.reduceBNe, Int.reduceBEq, Int.reduceBNe, Int.reduceLT, Int.reduceLE, Msg.a, Par.a, t46]
    · simp (maxSteps := 4000000) only [go_sem, ↓reduceIte, reduceCtorEq, Nat.reduceEqDiff, Nat.reduceBEq, Nat.reduceAdd, Nat.reduceSub, Nat.reduceMul, Nat.reduceLT, Nat.reduceLeDiff, Nat.reduceBNe, Int.reduceBEq, Int.reduceBNe, Int.reduceLT, Int.reduceLE, Msg.a, Par.a, h34]
    · simp (maxSteps := 4000000) only [go_sem, ↓reduceIte, reduceCtorEq, Nat.reduceEqDiff, Nat.reduceBEq, Nat.reduceAdd, Nat.reduceSub, Nat.reduceMul, Nat.reduceLT, Nat.reduceLeDiff, Nat.reduceBNe, Int.reduceBEq, Int.reduceBNe, Int.reduceLT, Int.reduceLE, Msg.a, Par.a, t47]
    · simp (maxSteps := 4000000) only [go_sem, ↓reduceIte, reduceCtorEq, Nat.reduceEqDiff, Nat.reduceBEq, Nat.reduceAdd, Nat.reduceSub, Nat.reduceMul, Nat.reduceLT, Nat.reduceLeDiff, Nat.reduceBNe, Int.reduceBEq, Int.reduceBNe, Int.reduceLT, Int.reduceLE, Msg.a, Par.a, hw]
    · simp (maxSteps := 4000000) only [go_sem, ↓reduceIte, reduceCtorEq, Nat.reduceEqDiff, Nat.reduceBEq, Nat.reduceAdd, Nat.reduceSub, Nat.reduceMul, Nat.reduceLT, Nat.reduceLeDiff, Nat.reduceBNe, Int.reduceBEq, Int.reduceBNe, Int.reduceLT, Int.reduceLE, Msg.a, Par.a, t0]
    · simp (maxSteps := 4000000) only [go_sem, ↓reduceIte, reduceCtorEq, Nat.reduceEqDiff, Nat.reduceBEq, Nat.reduceAdd, Nat.reduceSub, Nat.reduceMul, Nat.reduceLT, Nat.reduceLeDiff, Nat.reduceBNe, Int.reduceBEq, Int.reduceBNe, Int.reduceLT, Int.reduceLE, Msg.a, Par.a, t2]
    · simp (maxSteps := 4000000) only [go_sem, ↓reduceIte, reduceCtorEq, Nat.reduceEqDiff, Nat.reduceBEq, Nat.reduceAdd, Nat.reduceSub, Nat.reduceMul, Nat.reduceLT, Nat.reduceLeDiff, Nat.reduceBNe, Int.reduceBEq, Int.reduceBNe, Int.reduceLT, Int.reduceLE, Msg.a, Par.a, hml]
    · simp (maxSteps := 4000000) only [go_sem, ↓reduceIte, reduceCtorEq, Nat.reduceEqDiff, Nat.reduceBEq, Nat.reduceAdd, Nat.reduceSub, Nat.reduceMul, Nat.reduceLT, Nat.reduceLeDiff, Nat.reduceBNe, Int.reduceBEq, Int.reduceBNe, Int.reduceLT, Int.reduceLE, Msg.a, Par.a, h7, hmm, tk]
    · simp (maxSteps := 4000000) only [go_sem, ↓reduceIte, reduceCtorEq, Nat.reduceEqDiff, Nat.reduceBEq, Nat.reduceAdd, Nat.reduceSub, Nat.reduceMul, Nat.reduceLT, Nat.reduceLeDiff, Nat.reduceBNe, Int.reduceBEq, Int.reduceBNe, Int.reduceLT, Int.reduceLE, Msg.a, Par.a, hml]
    · simp (maxSteps := 4000000) only [go_sem, ↓reduceIte, reduceCtorEq, Nat.reduceEqDiff, Nat.reduceBEq, Nat.reduceAdd, Nat.reduceSub, Nat.reduceMul, Nat.reduceLT, Nat.reduceLeDiff, Nat.reduceBNe, Int.reduceBEq, Int.reduceBNe, Int.reduceLT, Int.reduceLE, Msg.a, Par.a, h16, hmm, tk]
    · simp (maxSteps := 4000000) only [go_sem, ↓reduceIte, reduceCtorEq, Nat.reduceEqDiff, Nat.reduceBEq, Nat.reduceAdd, Nat.reduceSub, Nat.reduceMul, Nat.reduceLT, Nat.reduceLeDiff, Nat.reduceBNe, Int.reduceBEq, Int.reduceBNe, Int.reduceLT, Int.reduceLE, Msg.a, Par.a, t9]
def rbInv (l : List Nd) (a b : Int) (R : List Int) (k : Nat) (σ : St) : Prop :=
  ∃ (i p : Nat) (m : List Int), goR l a k m i = R ∧ mesR l m i ≤ k ∧ i ≤ m.length + 1 ∧ p ≤ m.length ∧ left l.length m + m.length ≤ 200 ∧
    σ.T 0 = .sl (l.map Nd.a) ∧ σ.T 2 = .int .i64 b ∧ σ.T 7 = .rs 7 0 m.length ∧ σ.H 7 = some ⟨1, 3, m.map (AV.int .i64), p⟩ ∧ σ.T 8 = .rs 16 0 (m.length + 1) ∧ σ.H 16 = some ⟨1, 3, .int .i64 a :: m.map (AV.int .i64), 0⟩ ∧ σ.T 9 = .int .i64 i
theorem goR_end (l : List Nd) (a : Int) {m : List Int} {i : Nat} (h : (a :: m)[i]? = none) : ∀ k, goR l a k m i = m
  | 0 => rfl
  | k + 1 => by rw [goR, h]
theorem mesR_start {l : List Nd} (h : Lad l) : left l.length ([] : List Int) ≤ 200 := by
  unfold left
  have := List.countP_le_length (p := fun i : Nat => !([] : List Int).contains (i : Int)) (l := List.range l.length)
  rw [List.length_range] at this
  have := h.len
  omega
set_option maxHeartbeats 8000000 in
theorem r55b_ok (l : List Nd) (h : Lad l) (a b : Int) : AFn Try.prog 14 [.sl (l.map Nd.a), .int .i64 a, .int .i64 b] (.bool ((belowR l a).contains b)) := by
  refine fn_r55b rfl ?_
  have hst := mesR_start h
  obtain ⟨R, hR⟩ : ∃ R, belowR l a = R := ⟨_, rfl⟩
  rw [hR]
  simp (maxSteps := 4000000) only [go_sem, ↓reduceIte, reduceCtorEq, Nat.reduceEqDiff, Nat.reduceBEq, Nat.reduceAdd, Nat.reduceSub, Nat.reduceMul, Nat.reduceLT, Nat.reduceLeDiff, Nat.reduceBNe, Int.reduceBEq, Int.reduceBNe, Int.reduceLT, Int.reduceLE, Msg.a, Par.a]
  refine run_loop (rbInv l a b R) (k := mesR l [] 0) ⟨0, 0, [], hR, Nat.le_refl _, Nat.zero_le _, Nat.le_refl _, hst, ?_, ?_, ?_, ?_, ?_, ?_, ?_⟩ ?_
  · (simp (maxSteps := 4000000) only [go_sem, ↓reduceIte, reduceCtorEq, Nat.reduceEqDiff, Nat.reduceBEq, Nat.reduceAdd, Nat.reduceSub, Nat.reduceMul, Nat.reduceLT, Nat.reduceLeDiff, Nat.reduceBNe, Int.reduceBEq, Int.reduceBNe, Int.reduceLT, Int.reduceLE, Msg.a, Par.a]) <;> rfl
  · (simp (maxSteps := 4000000) only [go_sem, ↓reduceIte, reduceCtorEq, Nat.reduceEqDiff, Nat.reduceBEq, Nat.reduceAdd, Nat.reduceSub, Nat.reduceMul, Nat.reduceLT, Nat.reduceLeDiff, Nat.reduceBNe, Int.reduceBEq, Int.reduceBNe, Int.reduceLT, Int.reduceLE, Msg.a, Par.a]) <;> rfl
  · (simp (maxSteps := 4000000) only [go_sem, ↓reduceIte, reduceCtorEq, Nat.reduceEqDiff, Nat.reduceBEq, Nat.reduceAdd, Nat.reduceSub, Nat.reduceMul, Nat.reduceLT, Nat.reduceLeDiff, Nat.reduceBNe, Int.reduceBEq, Int.reduceBNe, Int.reduceLT, Int.reduceLE, Msg.a, Par.a]) <;> rfl
  · (simp (maxSteps := 4000000) only [go_sem, ↓reduceIte, reduceCtorEq, Nat.reduceEqDiff, Nat.reduceBEq, Nat.reduceAdd, Nat.reduceSub, Nat.reduceMul, Nat.reduceLT, Nat.reduceLeDiff, Nat.reduceBNe, Int.reduceBEq, Int.reduceBNe, Int.reduceLT, Int.reduceLE, Msg.a, Par.a]) <;> rfl
  · (simp (maxSteps := 4000000) only [go_sem, ↓reduceIte, reduceCtorEq, Nat.reduceEqDiff, Nat.reduceBEq, Nat.reduceAdd, Nat.reduceSub, Nat.reduceMul, Nat.reduceLT, Nat.reduceLeDiff, Nat.reduceBNe, Int.reduceBEq, Int.reduceBNe, Int.reduceLT, Int.reduceLE, Msg.a, Par.a]) <;> rfl
  · (simp (maxSteps := 4000000) only [go_sem, ↓reduceIte, reduceCtorEq, Nat.reduceEqDiff, Nat.reduceBEq, Nat.reduceAdd, Nat.reduceSub, Nat.reduceMul, Nat.reduceLT, Nat.reduceLeDiff, Nat.reduceBNe, Int.reduceBEq, Int.reduceBNe, Int.reduceLT, Int.reduceLE, Msg.a, Par.a]) <;> rfl
  · (simp (maxSteps := 4000000) only [go_sem, ↓reduceIte, reduceCtorEq, Nat.reduceEqDiff, Nat.reduceBEq, Nat.reduceAdd, Nat.reduceSub, Nat.reduceMul, Nat.reduceLT, Nat.reduceLeDiff, Nat.reduceBNe, Int.reduceBEq, Int.reduceBNe, Int.reduceLT, Int.reduceLE, Msg.a, Par.a]) <;> rfl
  clear hR hst
  rintro k σ ⟨i, p, m, hr, hm, hi, hp, hlen, t0, t2, t7, h7, t8, h16, t9⟩
  simp only [r_r55b_l19]
  by_cases hlt : i < m.length + 1
  case neg =>
    have hlt' : ¬ (i : Int) < ((m.length + 1 : Nat) : Int) := by omega
    rw [goR_end l a (List.getElem?_eq_none_iff.2 (by rw [List.length_cons]; omega))] at hr
    subst hr
    have cI := r55in_ok m b (by omega)
    have tk : List.take m.length (m.map (AV.int .i64)) = m.map (AV.int .i64) := List.take_of_length_le (by simp)
    (repeat (first | simp (maxSteps := 4000000) only [go_sem, ↓reduceIte, reduceCtorEq, Nat.reduceEqDiff, Nat.reduceBEq, Nat.reduceAdd, Nat.reduceSub, Nat.reduceMul, Nat.reduceLT, Nat.reduceLeDiff, Nat.reduceBNe, Int.reduceBEq, Int.reduceBNe, Int.reduceLT, Int.reduceLE, Msg.a, Par.a, t0, t2, t7, h7, t8, h16, t9, hlt', tk, List.length_map] | refine calling (cI) ?_ | refine callingH (cI) ?_ | refine And.intro (by omega) ?_ | refine And.intro (fun d hd => by (repeat (rcases hd with rfl | hd; · exact ⟨rfl, rfl⟩)); cases hd) ?_))
  have hlt' : (i : Int) < ((m.length + 1 : Nat) : Int) := by omega
  obtain ⟨k, rfl⟩ : ∃ k', k = k' + 1 := ⟨k - 1, by unfold mesR at hm; omega⟩
  obtain ⟨c, hc⟩ : ∃ c, (a :: m)[i]? = some c := ⟨_, List.getElem?_eq_getElem (by rw [List.length_cons]; omega)⟩
  have hgc : (AV.int .i64 a :: m.map (AV.int .i64)).getD i .und = .int .i64 c := by
    have := congrArg (Option.map (AV.int .i64)) hc
    rw [← List.getElem?_map] at this
    rw [List.getD_eq_getElem?_getD, show (AV.int .i64 a :: m.map (AV.int .i64)) = (a :: m).map (AV.int .i64) from rfl, this]; rfl
  have hmr := mesR_next h hc
  rw [goR, hc] at hr
  dsimp only at hr
  have hw := wrapS (j := i) (by omega)
  have cF := find_ok l c (by have := h.len; omega)
  rw [findF_ord h.ord] at cF
  cases e : ndAt l c with
  | none =>
    rw [e] at cF
    have cF : AFn Try.prog 52 [.sl (l.map Nd.a), .int .i64 c] (.tup [Nd.zero.a, .bool false]) := cF
    simp only [Nd.zero, Nd.a, nul0, List.map_nil] at cF
    have hs : steps l c = [] := by unfold steps; rw [e]; rfl
    rw [hs, addAll] at hr
    rw [hs, addAll] at hmr
    (repeat (first | simp (maxSteps := 4000000) only [go_sem, ↓reduceIte, reduceCtorEq, Nat.reduceEqDiff, Nat.reduceBEq, Nat.reduceAdd, Nat.reduceSub, Nat.reduceMul, Nat.reduceLT, Nat.reduceLeDiff, Nat.reduceBNe, Int.reduceBEq, Int.reduceBNe, Int.reduceLT, Int.reduceLE, Msg.a, Par.a, t0, t2, t7, h7, t8, h16, t9, hlt', hgc, hlt, hw, Int.toNat_natCast, List.length_map, Nat.zero_add] | refine calling (cF) ?_ | refine callingH (cF) ?_ | refine And.intro (by omega) ?_ | refine And.intro (fun d hd => by (repeat (rcases hd with rfl | hd; · exact ⟨rfl, rfl⟩)); cases hd) ?_))
    refine ⟨k, by omega, i + 1, p, m, hr, by omega, by omega, hp, hlen, ?_, ?_, ?_, ?_, ?_, ?_, ?_⟩
    · simp (maxSteps := 4000000) only [go_sem, ↓reduceIte, reduceCtorEq, Nat.reduceEqDiff, Nat.reduceBEq, Nat.reduceAdd, Nat.reduceSub, Nat.reduceMul, Nat.reduceLT, Nat.reduceLeDiff, Nat.reduceBNe, Int.reduceBEq, Int.reduceBNe, Int.reduceLT, Int.reduceLE, Msg.a, Par.a, t0]
    · simp (maxSteps := 4000000) only [go_sem, ↓reduceIte, reduceCtorEq, Nat.reduceEqDiff, Nat.reduceBEq, Nat.reduceAdd, Nat.reduceSub, Nat.reduceMul, Nat.reduceLT, Nat.reduceLeDiff, Nat.reduceBNe, Int.reduceBEq, Int.reduceBNe, Int.reduceLT, Int.reduceLE, Msg.a, Par.a, t2]
    · simp (maxSteps := 4000000) only [go_sem, ↓reduceIte, reduceCtorEq, Nat.reduceEqDiff, Nat.reduceBEq, Nat.reduceAdd, Nat.reduceSub, Nat.reduceMul, Nat.reduceLT, Nat.reduceLeDiff, Nat.reduceBNe, Int.reduceBEq, Int.reduceBNe, Int.reduceLT, Int.reduceLE, Msg.a, Par.a, t7]
    · simp (maxSteps := 4000000) only [go_sem, ↓reduceIte, reduceCtorEq, Nat.reduceEqDiff, Nat.reduceBEq, Nat.reduceAdd, Nat.reduceSub, Nat.reduceMul, Nat.reduceLT, Nat.reduceLeDiff, Nat.reduceBNe, Int.reduceBEq, Int.reduceBNe, Int.reduceLT, Int.reduceLE, Msg.a, Par.a, h7]
    · simp (maxSteps := 4000000) only [go_sem, ↓reduceIte, reduceCtorEq, Nat.reduceEqDiff, Nat.reduceBEq, Nat.reduceAdd, Nat.reduceSub, Nat.reduceMul, Nat.reduceLT, Nat.reduceLeDiff, Nat.reduceBNe, Int.reduceBEq, Int.reduceBNe, Int.reduceLT, Int.reduceLE, Msg.a, Par.a, t8]
    · simp (maxSteps := 4000000) only [go_sem, ↓reduceIte, reduceCtorEq, Nat.reduceEqDiff, Nat.reduceBEq, Nat.reduceAdd, Nat.reduceSub, Nat.reduceMul, Nat.reduceLT, Nat.reduceLeDiff, Nat.reduceBNe, Int.reduceBEq, Int.reduceBNe, Int.reduceLT, Int.reduceLE, Msg.a, Par.a, h16]
    · simp (maxSteps := 4000000) only [go_sem, ↓reduceIte, reduceCtorEq, Nat.reduceEqDiff, Nat.reduceBEq, Nat.reduceAdd, Nat.reduceSub, Nat.reduceMul, Nat.reduceLT, Nat.reduceLeDiff, Nat.reduceBNe, Int.reduceBEq, Int.reduceBNe, Int.reduceLT, Int.reduceLE, Msg.a, Par.a, hw]
  | some n =>
    rw [e] at cF
    have cF : AFn Try.prog 52 [.sl (l.map Nd.a), .int .i64 c] (.tup [n.a, .bool true]) := cF
    simp only [Nd.a] at cF
    have hs : steps l c = nxt n := by unfold steps; rw [e]; rfl
    rw [hs] at hr hmr
    have hnm := (ndAt_slot h.ord e).2.1
    have hnk := h.nk n hnm
    have hxr : ∀ x, x ∈ nxt n → 0 ≤ x ∧ x < l.length := fun x hx => h.step (s := c) (by rw [hs]; exact hx)
    have hxl : (nxt n).length ≤ 2001 := by have := h.steps_len c; rw [hs] at this; exact this
    have tkk : List.take n.kids.length (n.kids.map (AV.int .i64)) = n.kids.map (AV.int .i64) := List.take_of_length_le (by simp)
    obtain ⟨ys, e1, _⟩ := addAll_pre (nxt n) m
    have hge : m.length ≤ (addAll m (nxt n)).length := by rw [e1, List.length_append]; omega
    clear e1
    cases ht : n.top with
    | true =>
      have hneg : ¬ 0 ≤ n.right := fun q => by rw [(h.top n hnm).1 q] at ht; cases ht
      have hx : nxt n = n.kids := by unfold nxt; rw [ht, if_pos rfl, List.append_nil]
      rw [hx] at hr hmr hxr hxl hge
      (repeat (first | simp (maxSteps := 4000000) only [go_sem, ↓reduceIte, reduceCtorEq, Nat.reduceEqDiff, Nat.reduceBEq, Nat.reduceAdd, Nat.reduceSub, Nat.reduceMul, Nat.reduceLT, Nat.reduceLeDiff, Nat.reduceBNe, Int.reduceBEq, Int.reduceBNe, Int.reduceLT, Int.reduceLE, Msg.a, Par.a, t0, t2, t7, h7, t8, h16, t9, hlt', hgc, hlt, hw, hneg, tkk, Int.toNat_natCast, List.length_map, Nat.zero_add] | refine calling (cF) ?_ | refine callingH (cF) ?_ | refine And.intro (by omega) ?_ | refine And.intro (fun d hd => by (repeat (rcases hd with rfl | hd; · exact ⟨rfl, rfl⟩)); cases hd) ?_))
      refine ⟨⟨⟨by omega, by omega⟩, fun d hd => ?_⟩, run_loop (rbI l a b (addAll m n.kids) n.kids i) (k := n.kids.length) ⟨0, p, m, Nat.zero_le _, rfl, rfl, hp, hlen, ?_, ?_, ?_, ?_, ?_, ?_, ?_, ?_, ?_, ?_, ?_⟩ (add_loop l a b _ n.kids i hxr hxl _ ?_)⟩
      · obtain ⟨z, _, rfl⟩ := List.mem_map.1 hd
        exact ⟨rfl, rfl⟩
      · simp (maxSteps := 4000000) only [go_sem, ↓reduceIte, reduceCtorEq, Nat.reduceEqDiff, Nat.reduceBEq, Nat.reduceAdd, Nat.reduceSub, Nat.reduceMul, Nat.reduceLT, Nat.reduceLeDiff, Nat.reduceBNe, Int.reduceBEq, Int.reduceBNe, Int.reduceLT, Int.reduceLE, Msg.a, Par.a, List.length_map]
      · simp (maxSteps := 4000000) only [go_sem, ↓reduceIte, reduceCtorEq, Nat.reduceEqDiff, Nat.reduceBEq, Nat.reduceAdd, Nat.reduceSub, Nat.reduceMul, Nat.reduceLT, Nat.reduceLeDiff, Nat.reduceBNe, Int.reduceBEq, Int.reduceBNe, Int.reduceLT, Int.reduceLE, Msg.a, Par.a, tkk]
      · simp (maxSteps := 4000000) only [go_sem, ↓reduceIte, reduceCtorEq, Nat.reduceEqDiff, Nat.reduceBEq, Nat.reduceAdd, Nat.reduceSub, Nat.reduceMul, Nat.reduceLT, Nat.reduceLeDiff, Nat.reduceBNe, Int.reduceBEq, Int.reduceBNe, Int.reduceLT, Int.reduceLE, Msg.a, Par.a, List.length_map]
      · (simp (maxSteps := 4000000) only [go_sem, ↓reduceIte, reduceCtorEq, Nat.reduceEqDiff, Nat.reduceBEq, Nat.reduceAdd, Nat.reduceSub, Nat.reduceMul, Nat.reduceLT, Nat.reduceLeDiff, Nat.reduceBNe, Int.reduceBEq, Int.reduceBNe, Int.reduceLT, Int.reduceLE, Msg.a, Par.a]) <;> rfl
      · simp (maxSteps := 4000000) only [go_sem, ↓reduceIte, reduceCtorEq, Nat.reduceEqDiff, Nat.reduceBEq, Nat.reduceAdd, Nat.reduceSub, Nat.reduceMul, Nat.reduceLT, Nat.reduceLeDiff, Nat.reduceBNe, Int.reduceBEq, Int.reduceBNe, Int.reduceLT, Int.reduceLE, Msg.a, Par.a, t0]
      · simp (maxSteps := 4000000) only [go_sem, ↓reduceIte, reduceCtorEq, Nat.reduceEqDiff, Nat.reduceBEq, Nat.reduceAdd, Nat.reduceSub, Nat.reduceMul, Nat.reduceLT, Nat.reduceLeDiff, Nat.reduceBNe, Int.reduceBEq, Int.reduceBNe, Int.reduceLT, Int.reduceLE, Msg.a, Par.a, t2]
      · simp (maxSteps := 4000000) only [go_sem, ↓reduceIte, reduceCtorEq, Nat.reduceEqDiff, Nat.reduceBEq, Nat.reduceAdd, Nat.reduceSub, Nat.reduceMul, Nat.reduceLT, Nat.reduceLeDiff, Nat.reduceBNe, Int.reduceBEq, Int.reduceBNe, Int.reduceLT, Int.reduceLE, Msg.a, Par.a, t7]
      · simp (maxSteps := 4000000) only [go_sem, ↓reduceIte, reduceCtorEq, Nat.reduceEqDiff, Nat.reduceBEq, Nat.reduceAdd, Nat.reduceSub, Nat.reduceMul, Nat.reduceLT, Nat.reduceLeDiff, Nat.reduceBNe, Int.reduceBEq, Int.reduceBNe, Int.reduceLT, Int.reduceLE, Msg.a, Par.a, h7]
      · simp (maxSteps := 4000000) only [go_sem, ↓reduceIte, reduceCtorEq, Nat.reduceEqDiff, Nat.reduceBEq, Nat.reduceAdd, Nat.reduceSub, Nat.reduceMul, Nat.reduceLT, Nat.reduceLeDiff, Nat.reduceBNe, Int.reduceBEq, Int.reduceBNe, Int.reduceLT, Int.reduceLE, Msg.a, Par.a, t8]
      · simp (maxSteps := 4000000) only [go_sem, ↓reduceIte, reduceCtorEq, Nat.reduceEqDiff, Nat.reduceBEq, Nat.reduceAdd, Nat.reduceSub, Nat.reduceMul, Nat.reduceLT, Nat.reduceLeDiff, Nat.reduceBNe, Int.reduceBEq, Int.reduceBNe, Int.reduceLT, Int.reduceLE, Msg.a, Par.a, h16]
      · simp (maxSteps := 4000000) only [go_sem, ↓reduceIte, reduceCtorEq, Nat.reduceEqDiff, Nat.reduceBEq, Nat.reduceAdd, Nat.reduceSub, Nat.reduceMul, Nat.reduceLT, Nat.reduceLeDiff, Nat.reduceBNe, Int.reduceBEq, Int.reduceBNe, Int.reduceLT, Int.reduceLE, Msg.a, Par.a, t9]
      · rintro σ2 ⟨p', a1, a2, a3, a4, a5, a6, a7, a8, a9⟩
        simp (maxSteps := 4000000) only [go_sem, ↓reduceIte, reduceCtorEq, Nat.reduceEqDiff, Nat.reduceBEq, Nat.reduceAdd, Nat.reduceSub, Nat.reduceMul, Nat.reduceLT, Nat.reduceLeDiff, Nat.reduceBNe, Int.reduceBEq, Int.reduceBNe, Int.reduceLT, Int.reduceLE, Msg.a, Par.a, a9, hw]
        refine ⟨k, by omega, i + 1, p', _, hr, by omega, by omega, a1, a2, ?_, ?_, ?_, ?_, ?_, ?_, ?_⟩
        · simp (maxSteps := 4000000) only [go_sem, ↓reduceIte, reduceCtorEq, Nat.reduceEqDiff, Nat.reduceBEq, Nat.reduceAdd, Nat.reduceSub, Nat.reduceMul, Nat.reduceLT, Nat.reduceLeDiff, Nat.reduceBNe, Int.reduceBEq, Int.reduceBNe, Int.reduceLT, Int.reduceLE, Msg.a, Par.a, a3]
        · simp (maxSteps := 4000000) only [go_sem, ↓reduceIte, reduceCtorEq, Nat.reduceEqDiff, Nat.reduceBEq, Nat.reduceAdd, Nat.reduceSub, Nat.reduceMul, Nat.reduceLT, Nat.reduceLeDiff, Nat.reduceBNe, Int.reduceBEq, Int.reduceBNe, Int.reduceLT, Int.reduceLE, Msg.a, Par.a, a4]
        · simp (maxSteps := 4000000) only [go_sem, ↓reduceIte, reduceCtorEq, Nat.reduceEqDiff, Nat.reduceBEq, Nat.reduceAdd, Nat.reduceSub, Nat.reduceMul, Nat.reduceLT, Nat.reduceLeDiff, Nat.reduceBNe, Int.reduceBEq, Int.reduceBNe, Int.reduceLT, Int.reduceLE, Msg.a, Par.a, a5]
        · simp (maxSteps := 4000000) only [go_sem, ↓reduceIte, reduceCtorEq, Nat.reduceEqDiff, Nat.reduceBEq, Nat.reduceAdd, Nat.reduceSub, Nat.reduceMul, Nat.reduceLT, Nat.reduceLeDiff, Nat.reduceBNe, Int.reduceBEq, Int.reduceBNe, Int.reduceLT, Int.reduceLE, Msg.a, Par.a, a6]
        · simp (maxSteps := 4000000) only [go_sem, ↓reduceIte, reduceCtorEq, Nat.reduceEqDiff, Nat.reduceBEq, Nat.reduceAdd, Nat.reduceSub, Nat.reduceMul, Nat.reduceLT, Nat.reduceLeDiff, Nat.reduceBNe, Int.reduceBEq, Int.reduceBNe, Int.reduceLT, Int.reduceLE, Msg.a, Par.a, a7]
        · simp (maxSteps := 4000000) only [go_sem, ↓reduceIte, reduceCtorEq, Nat.reduceEqDiff, Nat.reduceBEq, Nat.reduceAdd, Nat.reduceSub, Nat.reduceMul, Nat.reduceLT, Nat.reduceLeDiff, Nat.reduceBNe, Int.reduceBEq, Int.reduceBNe, Int.reduceLT, Int.reduceLE, Msg.a, Par.a, a8]
        · simp (maxSteps := 4000000) only [go_sem, ↓reduceIte, reduceCtorEq, Nat.reduceEqDiff, Nat.reduceBEq, Nat.reduceAdd, Nat.reduceSub, Nat.reduceMul, Nat.reduceLT, Nat.reduceLeDiff, Nat.reduceBNe, Int.reduceBEq, Int.reduceBNe, Int.reduceLT, Int.reduceLE, Msg.a, Par.a, hw]
    | false =>
      have hnn : 0 ≤ n.right := (h.top n hnm).2 ht
      have hx : nxt n = n.kids ++ [n.right] := by unfold nxt; rw [ht, if_neg (by decide)]
      rw [hx] at hr hmr hxr hxl hge
      (repeat (first | simp (maxSteps := 4000000) only [go_sem, ↓reduceIte, reduceCtorEq, Nat.reduceEqDiff, Nat.reduceBEq, Nat.reduceAdd, Nat.reduceSub, Nat.reduceMul, Nat.reduceLT, Nat.reduceLeDiff, Nat.reduceBNe, Int.reduceBEq, Int.reduceBNe, Int.reduceLT, Int.reduceLE, Msg.a, Par.a, t0, t2, t7, h7, t8, h16, t9, hlt', hgc, hlt, hw, hnn, tkk, Int.toNat_natCast, List.length_map, Nat.zero_add] | refine calling (cF) ?_ | refine callingH (cF) ?_ | refine And.intro (by omega) ?_ | refine And.intro (fun d hd => by (repeat (rcases hd with rfl | hd; · exact ⟨rfl, rfl⟩)); cases hd) ?_))
      have hln : (n.kids ++ [n.right]).length = n.kids.length + 1 := List.length_append
      have hmn : (n.kids ++ [n.right]).map (AV.int .i64) = n.kids.map (AV.int .i64) ++ [.int .i64 n.right] := List.map_append
      refine ⟨⟨⟨by omega, by omega⟩, fun d hd => ?_⟩, ⟨⟨by omega, by omega⟩, fun d hd => ?_⟩, run_loop (rbI l a b (addAll m (n.kids ++ [n.right])) (n.kids ++ [n.right]) i) (k := (n.kids ++ [n.right]).length) ⟨0, p, m, Nat.zero_le _, rfl, rfl, hp, hlen, ?_, ?_, ?_, ?_, ?_, ?_, ?_, ?_, ?_, ?_, ?_⟩ (add_loop l a b _ (n.kids ++ [n.right]) i hxr hxl _ ?_)⟩
      · obtain ⟨z, _, rfl⟩ := List.mem_map.1 hd
        exact ⟨rfl, rfl⟩
      · rcases hd with rfl | hd
        · exact ⟨rfl, rfl⟩
        · cases hd
      · simp (maxSteps := 4000000) only [go_sem, ↓reduceIte, reduceCtorEq, Nat.reduceEqDiff, Nat.reduceBEq, Nat.reduceAdd, Nat.reduceSub, Nat.reduceMul, Nat.reduceLT, Nat.reduceLeDiff, Nat.reduceBNe, Int.reduceBEq, Int.reduceBNe, Int.reduceLT, Int.reduceLE, Msg.a, Par.a, List.length_map, hln]
      · simp (maxSteps := 4000000) only [go_sem, ↓reduceIte, reduceCtorEq, Nat.reduceEqDiff, Nat.reduceBEq, Nat.reduceAdd, Nat.reduceSub, Nat.reduceMul, Nat.reduceLT, Nat.reduceLeDiff, Nat.reduceBNe, Int.reduceBEq, Int.reduceBNe, Int.reduceLT, Int.reduceLE, Msg.a, Par.a, tkk, hmn]
      · simp (maxSteps := 4000000) only [go_sem, ↓reduceIte, reduceCtorEq, Nat.reduceEqDiff, Nat.reduceBEq, Nat.reduceAdd, Nat.reduceSub, Nat.reduceMul, Nat.reduceLT, Nat.reduceLeDiff, Nat.reduceBNe, Int.reduceBEq, Int.reduceBNe, Int.reduceLT, Int.reduceLE, Msg.a, Par.a, List.length_map, hln]
      · (simp (maxSteps := 4000000) only [go_sem, ↓reduceIte, reduceCtorEq, Nat.reduceEqDiff, Nat.reduceBEq, Nat.reduceAdd, Nat.reduceSub, Nat.reduceMul, Nat.reduceLT, Nat.reduceLeDiff, Nat.reduceBNe, Int.reduceBEq, Int.reduceBNe, Int.reduceLT, Int.reduceLE, Msg.a, Par.a]) <;> rfl
      · simp (maxSteps := 4000000) only [go_sem, ↓reduceIte, reduceCtorEq, Nat.reduceEqDiff, Nat.reduceBEq, Nat.reduceAdd, Nat.reduceSub, Nat.reduceMul, Nat.reduceLT, Nat.reduceLeDiff, Nat.reduceBNe, Int.reduceBEq, Int.reduceBNe, Int.reduceLT, Int.reduceLE, Msg.a, Par.a, t0]
      · simp (maxSteps := 4000000) only [go_sem, ↓reduceIte, reduceCtorEq, Nat.reduceEqDiff, Nat.reduceBEq, Nat.reduceAdd, Nat.reduceSub, Nat.reduceMul, Nat.reduceLT, Nat.reduceLeDiff, Nat.reduceBNe, Int.reduceBEq, Int.reduceBNe, Int.reduceLT, Int.reduceLE, Msg.a, Par.a, t2]
      · simp (maxSteps := 4000000) only [go_sem, ↓reduceIte, reduceCtorEq, Nat.reduceEqDiff, Nat.reduceBEq, Nat.reduceAdd, Nat.reduceSub, Nat.reduceMul, Nat.reduceLT, Nat.reduceLeDiff, Nat.reduceBNe, Int.reduceBEq, Int.reduceBNe, Int.reduceLT, Int.reduceLE, Msg.a, Par.a, t7]
      · simp (maxSteps := 4000000) only [go_sem, ↓reduceIte, reduceCtorEq, Nat.reduceEqDiff, Nat.reduceBEq, Nat.reduceAdd, Nat.reduceSub, Nat.reduceMul, Nat.reduceLT, Nat.reduceLeDiff, Nat.reduceBNe, Int.reduceBEq, Int.reduceBNe, Int.reduceLT, Int.reduceLE, Msg.a, Par.a, h7]
      · simp (maxSteps := 4000000) only [go_sem, ↓reduceIte, reduceCtorEq, Nat.reduceEqDiff, Nat.reduceBEq, Nat.reduceAdd, Nat.reduceSub, Nat.reduceMul, Nat.reduceLT, Nat.reduceLeDiff, Nat.reduceBNe, Int.reduceBEq, Int.reduceBNe, Int.reduceLT, Int.reduceLE, Msg.a, Par.a, t8]
      · simp (maxSteps := 4000000) only [go_sem, ↓reduceIte, reduceCtorEq, Nat.reduceEqDiff, Nat.reduceBEq, Nat.reduceAdd, Nat.reduceSub, Nat.reduceMul, Nat.reduceLT, Nat.reduceLeDiff, Nat.reduceBNe, Int.reduceBEq, Int.reduceBNe, Int.reduceLT, Int.reduceLE, Msg.a, Par.a, h16]
      · simp (maxSteps := 4000000) only [go_sem, ↓reduceIte, reduceCtorEq, Nat.reduceEqDiff, Nat.reduceBEq, Nat.reduceAdd, Nat.reduceSub, Nat.reduceMul, Nat.reduceLT, Nat.reduceLeDiff, Nat.reduceBNe, Int.reduceBEq, Int.reduceBNe, Int.reduceLT, Int.reduceLE, Msg.a, Par.a, t9]
      · rintro σ2 ⟨p', a1, a2, a3, a4, a5, a6, a7, a8, a9⟩
        simp (maxSteps := 4000000) only [go_sem, ↓reduceIte, reduceCtorEq, Nat.reduceEqDiff, Nat.reduceBEq, Nat.reduceAdd, Nat.reduceSub, Nat.reduceMul, Nat.reduceLT, Nat.reduceLeDiff, Nat.reduceBNe, Int.reduceBEq, Int.reduceBNe, Int.reduceLT, Int.reduceLE, Msg.a, Par.a, a9, hw]
        refine ⟨k, by omega, i + 1, p', _, hr, by omega, by omega, a1, a2, ?_, ?_, ?_, ?_, ?_, ?_, ?_⟩
        · simp (maxSteps := 4000000) only [go_sem, ↓reduceIte, reduceCtorEq, Nat.reduceEqDiff, Nat.reduceBEq, Nat.reduceAdd, Nat.reduceSub, Nat.reduceMul, Nat.reduceLT, Nat.reduceLeDiff, Nat.reduceBNe, Int.reduceBEq, Int.reduceBNe, Int.reduceLT, Int.reduceLE, Msg.a, Par.a, a3]
        · simp (maxSteps := 4000000) only [go_sem, ↓reduceIte, reduceCtorEq, Nat.reduceEqDiff, Nat.reduceBEq, Nat.reduceAdd, Nat.reduceSub, Nat.reduceMul, Nat.reduceLT, Nat.reduceLeDiff, Nat.reduceBNe, Int.reduceBEq, Int.reduceBNe, Int.reduceLT, Int.reduceLE, Msg.a, Par.a, a4]
        · simp (maxSteps := 4000000) only [go_sem, ↓reduceIte, reduceCtorEq, Nat.reduceEqDiff, Nat.reduceBEq, Nat.reduceAdd, Nat.reduceSub, Nat.reduceMul, Nat.reduceLT, Nat.reduceLeDiff, Nat.reduceBNe, Int.reduceBEq, Int.reduceBNe, Int.reduceLT, Int.reduceLE, Msg.a, Par.a, a5]
        · simp (maxSteps := 4000000) only [go_sem, ↓reduceIte, reduceCtorEq, Nat.reduceEqDiff, Nat.reduceBEq, Nat.reduceAdd, Nat.reduceSub, Nat.reduceMul, Nat.reduceLT, Nat.reduceLeDiff, Nat.reduceBNe, Int.reduceBEq, Int.reduceBNe, Int.reduceLT, Int.reduceLE, Msg.a, Par.a, a6]
        · simp (maxSteps := 4000000) only [go_sem, ↓reduceIte, reduceCtorEq, Nat.reduceEqDiff, Nat.reduceBEq, Nat.reduceAdd, Nat.reduceSub, Nat.reduceMul, Nat.reduceLT, Nat.reduceLeDiff, Nat.reduceBNe, Int.reduceBEq, Int.reduceBNe, Int.reduceLT, Int.reduceLE, Msg.a, Par.a, a7]
        · simp (maxSteps := 4000000) only [go_sem, ↓reduceIte, reduceCtorEq, Nat.reduceEqDiff, Nat.reduceBEq, Nat.reduceAdd, Nat.reduceSub, Nat.reduceMul, Nat.reduceLT, Nat.reduceLeDiff, Nat.reduceBNe, Int.reduceBEq, Int.reduceBNe, Int.reduceLT, Int.reduceLE, Msg.a, Par.a, a8]
        · simp (maxSteps := 4000000) only [go_sem, ↓reduceIte, reduceCtorEq, Nat.reduceEqDiff, Nat.reduceBEq, Nat.reduceAdd, Nat.reduceSub, Nat.reduceMul, Nat.reduceLT, Nat.reduceLeDiff, Nat.reduceBNe, Int.reduceBEq, Int.reduceBNe, Int.reduceLT, Int.reduceLE, Msg.a, Par.a, hw]
end
section
/-
  The order of a tree's slots and what is below what: the chapter's example, walked.
-/
open Go.RowKit
set_option linter.unusedVariables false
set_option linter.unusedSimpArgs false
set_option maxRecDepth 100000
attribute [local go_sem ↓] runOp headOp
/-! ### percolate/percolateref11.Ints -/
def r_rints_0 : Reg := ⟨[], [⟨(.mv (.c (.bool false))), (some 4), none, [], []⟩], [], [], false⟩
def t_rints_1 : List ROp := [⟨(.mv (.t 0)), (some 6), none, [], []⟩, ⟨(.len false (.t 6)), (some 7), none, [], []⟩, ⟨(.mv (.t 1)), (some 8), none, [], []⟩, ⟨(.len false (.t 8)), (some 9), none, [], []⟩, ⟨(.bin .neq (.t 7) (.t 9)), (some 10), none, [], []⟩]
def r_rints_1 : Reg := ⟨[], t_rints_1, [], [], false⟩
def r_rints_2 : Reg := ⟨[], [⟨(.mv (.c (.bool false))), (some 4), none, [], []⟩], [], [], false⟩
def r_rints_3 : Reg := ⟨[], [⟨(.mv (.c (.int .i64 0))), (some 5), none, [], []⟩], [], [], false⟩
def t_rints_4 : List ROp := [⟨(.mv (.t 5)), (some 11), none, [], []⟩, ⟨(.mv (.t 0)), (some 12), none, [], []⟩, ⟨(.len false (.t 12)), (some 13), none, [], []⟩, ⟨(.bin .lss (.t 11) (.t 13)), (some 14), none, [], []⟩]
def r_rints_4 : Reg := ⟨[], t_rints_4, [], [], false⟩
def h_rints_5 : List ROp := [⟨(.mv (.t 0)), (some 17), none, [], []⟩, ⟨(.mv (.t 5)), (some 18), none, [], []⟩, ⟨(.iaddr 1 (.t 17) (.t 18)), (some 19), none, [], []⟩, ⟨(.load 1 false (.t 19)), (some 20), none, [], []⟩, ⟨(.mv (.t 1)), (some 21), none, [], []⟩, ⟨(.mv (.t 5)), (some 22), none, [], []⟩, ⟨(.iaddr 1 (.t 21) (.t 22)), (some 23), none, [], []⟩, ⟨(.load 1 false (.t 23)), (some 24), none, [], []⟩]
def r_rints_5 : Reg := ⟨h_rints_5, [⟨(.bin .neq (.t 20) (.t 24)), (some 25), none, [], []⟩], [], [], true⟩
def r_rints_6 : Reg := ⟨[], [⟨(.mv (.c (.bool false))), (some 4), none, [], []⟩], [], [], false⟩
def t_rints_7 : List ROp := [⟨(.mv (.t 5)), (some 15), none, [], []⟩, ⟨(.bin .add (.t 15) (.c (.int .i64 1))), (some 16), none, [], []⟩, ⟨(.mv (.t 16)), (some 5), none, [], []⟩]
def r_rints_7 : Reg := ⟨[], t_rints_7, [], [], false⟩
def r_rints_l8 : IR := (.seq (.seq (.reg r_rints_4)
  (.cond (.t 14) .skip
  (.exit 0)))
  (.seq (.block 1 (.seq (.reg r_rints_5)
  (.cond (.t 25) (.seq (.reg r_rints_6)
  .ret)
  .skip)))
  (.reg r_rints_7)))
def r_rints_9 : Reg := ⟨[], [⟨(.mv (.c (.bool true))), (some 4), none, [], []⟩], [], [], false⟩
def ir_rints : IR := (.seq (.reg r_rints_0)
  (.seq (.seq (.reg r_rints_1)
  (.cond (.t 10) (.seq (.reg r_rints_2)
  .ret)
  .skip))
  (.seq (.seq (.reg r_rints_3)
  (.block 0 (.loop r_rints_l8)))
  (.seq (.reg r_rints_9)
  .ret))))
def res_rints : List RDesc := [(.tmp 4)]
theorem e_rints_0 (C : FuncId → List AV → AV → Prop) (σ : St) (K : St → Prop) : runReg C r_rints_0 σ K = runOps C [⟨(.mv (.c (.bool false))), (some 4), none, [], []⟩] (σ.kills []) K := rfl
theorem e_rints_1 (C : FuncId → List AV → AV → Prop) (σ : St) (K : St → Prop) : runReg C r_rints_1 σ K = runOps C t_rints_1 (σ.kills []) K := rfl
theorem e_rints_2 (C : FuncId → List AV → AV → Prop) (σ : St) (K : St → Prop) : runReg C r_rints_2 σ K = runOps C [⟨(.mv (.c (.bool false))), (some 4), none, [], []⟩] (σ.kills []) K := rfl
theorem e_rints_3 (C : FuncId → List AV → AV → Prop) (σ : St) (K : St → Prop) : runReg C r_rints_3 σ K = runOps C [⟨(.mv (.c (.int .i64 0))), (some 5), none, [], []⟩] (σ.kills []) K := rfl
theorem e_rints_4 (C : FuncId → List AV → AV → Prop) (σ : St) (K : St → Prop) : runReg C r_rints_4 σ K = runOps C t_rints_4 (σ.kills []) K := rfl
theorem e_rints_5 (C : FuncId → List AV → AV → Prop) (σ : St) (K : St → Prop) : runReg C r_rints_5 σ K = runHead C [] [⟨(.bin .neq (.t 20) (.t 24)), (some 25), none, [], []⟩] h_rints_5 (σ.kills []) K := rfl
theorem e_rints_6 (C : FuncId → List AV → AV → Prop) (σ : St) (K : St → Prop) : runReg C r_rints_6 σ K = runOps C [⟨(.mv (.c (.bool false))), (some 4), none, [], []⟩] (σ.kills []) K := rfl
theorem e_rints_7 (C : FuncId → List AV → AV → Prop) (σ : St) (K : St → Prop) : runReg C r_rints_7 σ K = runOps C t_rints_7 (σ.kills []) K := rfl
theorem e_rints_9 (C : FuncId → List AV → AV → Prop) (σ : St) (K : St → Prop) : runReg C r_rints_9 σ K = runOps C [⟨(.mv (.c (.bool true))), (some 4), none, [], []⟩] (σ.kills []) K := rfl
theorem fn_rints {args : List AV} {r : AV} (ha : args.length.ble Try.f31.ntmps = true) (h : run (AFn Try.prog) ir_rints (endQ res_rints r) (initSt args)) : AFn Try.prog 31 args r :=
  AFn.of_code (pv := false) (hint := fun _ => []) (c := Try.f31.body.getD .skip) (by kernel_rfl) (by kernel_rfl) Try.func31 (by kernel_rfl) (by kernel_rfl) (by kernel_rfl) (of_decide_eq_true (by kernel_rfl)) (Nat.le_of_ble_eq_true ha) (Nat.le_of_ble_eq_true (by kernel_rfl)) (run_ok h)
/-! ### percolate/percolatelaw55.awake -/
def r_aw55_0 : Reg := ⟨[], [⟨(.mv (.c (.bool false))), (some 0), none, [], []⟩], [], [], false⟩
def t_aw55_1 : List ROp := [⟨(.bsl 1 9 [(.c (.str ⟨#[109]⟩))]), (some 2), none, [3, 7], []⟩, ⟨(.bsl 1 3 [(.c (.int .i64 1)), (.c (.int .i64 2))]), (some 3), none, [7], []⟩, ⟨(.bld [(.int .i64 0), (.int .i64 0), (.sl []), (.sl []), (.str ⟨#[]⟩), (.bool false), (.int .i64 0), (.int .i64 0), (.sl []), (.sl [])] [⟨1, 1, (.c (.int .i64 1))⟩, ⟨5, 1, (.c (.bool true))⟩, ⟨6, 1, (.c (.int .i64 (-1)))⟩, ⟨2, 1, (.t 2)⟩, ⟨3, 1, (.t 3)⟩]), (some 4), none, [7], []⟩, ⟨(.bld [(.int .i64 0), (.int .i64 0), (.sl []), (.sl []), (.str ⟨#[]⟩), (.bool false), (.int .i64 0), (.int .i64 0), (.sl []), (.sl [])] [⟨0, 1, (.c (.int .i64 1))⟩, ⟨4, 1, (.c (.str ⟨#[109]⟩))⟩, ⟨6, 1, (.c (.int .i64 2))⟩]), (some 5), none, [7], []⟩, ⟨(.bld [(.int .i64 0), (.int .i64 0), (.sl []), (.sl []), (.str ⟨#[]⟩), (.bool false), (.int .i64 0), (.int .i64 0), (.sl []), (.sl [])] [⟨0, 1, (.c (.int .i64 2))⟩, ⟨5, 1, (.c (.bool true))⟩, ⟨6, 1, (.c (.int .i64 (-1)))⟩]), (some 6), none, [7], []⟩, ⟨(.bsl 10 36 [(.t 4), (.t 5), (.t 6)]), (some 7), none, [], []⟩, ⟨(.mv (.t 7)), (some 1), none, [], []⟩]
def r_aw55_1 : Reg := ⟨[], t_aw55_1, [2, 3, 7], [], false⟩
def t_aw55_2 : List ROp := [⟨(.mv (.t 1)), (some 8), none, [9, 12, 16, 20, 25, 26, 27], []⟩, ⟨(.callv (.c (.clo 13 [] [])) [(.t 8), (.c (.int .i64 0)), (.c (.int .i64 1))]), (some 9), none, [12, 16, 20, 25, 26, 27], []⟩, ⟨(.mv (.t 9)), (some 10), none, [12, 16, 20, 25, 26, 27], []⟩, ⟨(.mv (.t 1)), (some 11), (some (10, true)), [12, 16, 20, 25, 26, 27], []⟩, ⟨(.callv (.c (.clo 13 [] [])) [(.t 11), (.c (.int .i64 0)), (.c (.int .i64 2))]), (some 12), (some (10, true)), [16, 20, 25, 26, 27], []⟩, ⟨(.pick (.t 10) (.t 12) (.c (.bool false))), (some 13), none, [16, 20, 25, 26, 27], []⟩, ⟨(.mv (.t 13)), (some 14), none, [16, 20, 25, 26, 27], []⟩, ⟨(.mv (.t 1)), (some 15), (some (14, true)), [16, 20, 25, 26, 27], []⟩, ⟨(.callv (.c (.clo 13 [] [])) [(.t 15), (.c (.int .i64 1)), (.c (.int .i64 2))]), (some 16), (some (14, true)), [20, 25, 26, 27], []⟩, ⟨(.pick (.t 14) (.t 16) (.c (.bool false))), (some 17), none, [20, 25, 26, 27], []⟩, ⟨(.mv (.t 17)), (some 18), none, [20, 25, 26, 27], []⟩, ⟨(.mv (.t 1)), (some 19), (some (18, true)), [20, 25, 26, 27], []⟩, ⟨(.callv (.c (.clo 13 [] [])) [(.t 19), (.c (.int .i64 2)), (.c (.int .i64 1))]), (some 20), (some (18, true)), [25, 26, 27], []⟩, ⟨(.un .not (.t 20)), (some 21), (some (18, true)), [25, 26, 27], []⟩, ⟨(.pick (.t 18) (.t 21) (.c (.bool false))), (some 22), none, [25, 26, 27], []⟩, ⟨(.mv (.t 22)), (some 23), none, [25, 26, 27], []⟩, ⟨(.mv (.t 1)), (some 24), (some (23, true)), [25, 26, 27], []⟩, ⟨(.callv (.c (.clo 11 [] [])) [(.t 24)]), (some 25), (some (23, true)), [26, 27], []⟩, ⟨(.bsl 1 3 [(.c (.int .i64 0)), (.c (.int .i64 1)), (.c (.int .i64 2))]), (some 26), (some (23, true)), [27], []⟩, ⟨(.callv (.c (.clo 31 [] [])) [(.t 25), (.t 26)]), (some 27), (some (23, true)), [], []⟩, ⟨(.pick (.t 23) (.t 27) (.c (.bool false))), (some 28), none, [], []⟩, ⟨(.mv (.t 28)), (some 0), none, [], []⟩]
def r_aw55_2 : Reg := ⟨[], t_aw55_2, [9, 12, 16, 20, 25, 26, 27], [], false⟩
def ir_aw55 : IR := (.seq (.reg r_aw55_0)
  (.seq (.reg r_aw55_1)
  (.seq (.reg r_aw55_2)
  .ret)))
def res_aw55 : List RDesc := [(.tmp 0)]
theorem e_aw55_0 (C : FuncId → List AV → AV → Prop) (σ : St) (K : St → Prop) : runReg C r_aw55_0 σ K = runOps C [⟨(.mv (.c (.bool false))), (some 0), none, [], []⟩] (σ.kills []) K := rfl
theorem e_aw55_1 (C : FuncId → List AV → AV → Prop) (σ : St) (K : St → Prop) : runReg C r_aw55_1 σ K = runOps C t_aw55_1 (σ.kills [2, 3, 7]) K := rfl
theorem e_aw55_2 (C : FuncId → List AV → AV → Prop) (σ : St) (K : St → Prop) : runReg C r_aw55_2 σ K = runOps C t_aw55_2 (σ.kills [9, 12, 16, 20, 25, 26, 27]) K := rfl
theorem fn_aw55 {args : List AV} {r : AV} (ha : args.length.ble Try.f10.ntmps = true) (h : run (AFn Try.prog) ir_aw55 (endQ res_aw55 r) (initSt args)) : AFn Try.prog 10 args r :=
  AFn.of_code (pv := false) (hint := fun _ => []) (c := Try.f10.body.getD .skip) (by kernel_rfl) (by kernel_rfl) Try.func10 (by kernel_rfl) (by kernel_rfl) (by kernel_rfl) (of_decide_eq_true (by kernel_rfl)) (Nat.le_of_ble_eq_true ha) (Nat.le_of_ble_eq_true (by kernel_rfl)) (run_ok h)
attribute [local go_sem ↓] ir_rints
attribute [local go_sem] res_rints e_rints_0 e_rints_1 t_rints_1 e_rints_2 e_rints_3 e_rints_4 t_rints_4 e_rints_5 h_rints_5 e_rints_6 e_rints_7 t_rints_7 e_rints_9
attribute [local go_sem ↓] ir_aw55
attribute [local go_sem] res_aw55 e_aw55_0 e_aw55_1 t_aw55_1 e_aw55_2 t_aw55_2
def eqI : List Int → List Int → Bool
  | [], [] => true
  | x :: a, y :: b => (x == y) && eqI a b
  | _, _ => false
theorem eqI_self : ∀ l : List Int, eqI l l = true
  | [] => rfl
  | x :: l => by rw [eqI, eqI_self l, beq_self_eq_true]; rfl
theorem eqI_len : ∀ (a b : List Int), a.length ≠ b.length → eqI a b = false
  | [], [], h => absurd rfl h
  | [], y :: b, _ => rfl
  | x :: a, [], _ => rfl
  | x :: a, y :: b, h => by
    rw [eqI, eqI_len a b (fun e => h (by rw [List.length_cons, List.length_cons, e])), Bool.and_false]
def rintsInv (a b : List Int) (R : Bool) (k : Nat) (σ : St) : Prop :=
  ∃ j : Nat, j ≤ a.length ∧ k = a.length - j ∧ σ.T 0 = .sl (a.map (AV.int .i64)) ∧ σ.T 1 = .sl (b.map (AV.int .i64)) ∧ σ.T 5 = .int .i64 j ∧ eqI (a.drop j) (b.drop j) = R
set_option maxHeartbeats 1000000 in
theorem rints_ok (a b : List Int) (ha : a.length ≤ 1000000) (hb : b.length ≤ 1000000) : AFn Try.prog 31 [.sl (a.map (AV.int .i64)), .sl (b.map (AV.int .i64))] (.bool (eqI a b)) := by
  refine fn_rints rfl ?_
  by_cases hl : a.length = b.length
  case neg =>
    have hl' : (((a.length : Nat) : Int) != ((b.length : Nat) : Int)) = true := by simp; omega
    rw [eqI_len a b hl]
    simp (maxSteps := 4000000) only [go_sem, ↓reduceIte, reduceCtorEq, Nat.reduceEqDiff, Nat.reduceBEq, Nat.reduceAdd, Nat.reduceSub, Nat.reduceMul, Nat.reduceLT, Nat.reduceLeDiff, Nat.reduceBNe, Int.reduceBEq, Int.reduceBNe, Int.reduceLT, Int.reduceLE, Msg.a, Par.a, hl', List.length_map]
  have hl' : (((a.length : Nat) : Int) != ((b.length : Nat) : Int)) = false := by simp; omega
  obtain ⟨R, hR⟩ : ∃ R, eqI a b = R := ⟨_, rfl⟩
  rw [hR]
  simp (maxSteps := 4000000) only [go_sem, ↓reduceIte, reduceCtorEq, Nat.reduceEqDiff, Nat.reduceBEq, Nat.reduceAdd, Nat.reduceSub, Nat.reduceMul, Nat.reduceLT, Nat.reduceLeDiff, Nat.reduceBNe, Int.reduceBEq, Int.reduceBNe, Int.reduceLT, Int.reduceLE, Msg.a, Par.a, hl', List.length_map]
  refine run_loop (rintsInv a b R) (k := a.length) ⟨0, by omega, rfl, ?_, ?_, ?_, hR⟩ ?_
  · (simp (maxSteps := 4000000) only [go_sem, ↓reduceIte, reduceCtorEq, Nat.reduceEqDiff, Nat.reduceBEq, Nat.reduceAdd, Nat.reduceSub, Nat.reduceMul, Nat.reduceLT, Nat.reduceLeDiff, Nat.reduceBNe, Int.reduceBEq, Int.reduceBNe, Int.reduceLT, Int.reduceLE, Msg.a, Par.a]) <;> rfl
  · (simp (maxSteps := 4000000) only [go_sem, ↓reduceIte, reduceCtorEq, Nat.reduceEqDiff, Nat.reduceBEq, Nat.reduceAdd, Nat.reduceSub, Nat.reduceMul, Nat.reduceLT, Nat.reduceLeDiff, Nat.reduceBNe, Int.reduceBEq, Int.reduceBNe, Int.reduceLT, Int.reduceLE, Msg.a, Par.a]) <;> rfl
  · (simp (maxSteps := 4000000) only [go_sem, ↓reduceIte, reduceCtorEq, Nat.reduceEqDiff, Nat.reduceBEq, Nat.reduceAdd, Nat.reduceSub, Nat.reduceMul, Nat.reduceLT, Nat.reduceLeDiff, Nat.reduceBNe, Int.reduceBEq, Int.reduceBNe, Int.reduceLT, Int.reduceLE, Msg.a, Par.a]) <;> rfl
  clear hR
  rintro k σ ⟨j, hj, rfl, t0, t1, t5, hr⟩
  simp only [r_rints_l8]
  by_cases hlt : j < a.length
  case neg =>
    have hlt' : ¬ (j : Int) < (a.length : Int) := by omega
    rw [List.drop_eq_nil_of_le (by omega), List.drop_eq_nil_of_le (by omega), eqI] at hr
    subst hr
    simp (maxSteps := 4000000) only [go_sem, ↓reduceIte, reduceCtorEq, Nat.reduceEqDiff, Nat.reduceBEq, Nat.reduceAdd, Nat.reduceSub, Nat.reduceMul, Nat.reduceLT, Nat.reduceLeDiff, Nat.reduceBNe, Int.reduceBEq, Int.reduceBNe, Int.reduceLT, Int.reduceLE, Msg.a, Par.a, t0, t1, t5, hlt', List.length_map]
  have hlt' : (j : Int) < (a.length : Int) := by omega
  have hlt2 : j < b.length := by omega
  obtain ⟨x, hx⟩ := get_lt hlt
  obtain ⟨y, hy⟩ := get_lt hlt2
  have hgx := at_map (f := AV.int .i64) hx
  have hgy := at_map (f := AV.int .i64) hy
  have hw := wrapS (j := j) (by omega)
  rw [drop_at hx, drop_at hy, eqI] at hr
  by_cases hs : x = y
  · have hs' : (x != y) = false := by simp [hs]
    rw [show (x == y) = true by simp [hs], Bool.true_and] at hr
    simp (maxSteps := 4000000) only [go_sem, ↓reduceIte, reduceCtorEq, Nat.reduceEqDiff, Nat.reduceBEq, Nat.reduceAdd, Nat.reduceSub, Nat.reduceMul, Nat.reduceLT, Nat.reduceLeDiff, Nat.reduceBNe, Int.reduceBEq, Int.reduceBNe, Int.reduceLT, Int.reduceLE, Msg.a, Par.a, t0, t1, t5, hlt', hgx, hgy, hs', hw, hlt, hlt2, List.length_map, Int.toNat_natCast]
    (repeat refine And.intro (by omega) ?_)
    refine ⟨a.length - (j + 1), by omega, j + 1, by omega, rfl, ?_, ?_, ?_, hr⟩
    · simp (maxSteps := 4000000) only [go_sem, ↓reduceIte, reduceCtorEq, Nat.reduceEqDiff, Nat.reduceBEq, Nat.reduceAdd, Nat.reduceSub, Nat.reduceMul, Nat.reduceLT, Nat.reduceLeDiff, Nat.reduceBNe, Int.reduceBEq, Int.reduceBNe, Int.reduceLT, Int.reduceLE, Msg.a, Par.a, t0]
    · simp (maxSteps := 4000000) only [go_sem, ↓reduceIte, reduceCtorEq, Nat.reduceEqDiff, Nat.reduceBEq, Nat.reduceAdd, Nat.reduceSub, Nat.reduceMul, Nat.reduceLT, Nat.reduceLeDiff, Nat.reduceBNe, Int.reduceBEq, Int.reduceBNe, Int.reduceLT, Int.reduceLE, Msg.a, Par.a, t1]
    · simp (maxSteps := 4000000) only [go_sem, ↓reduceIte, reduceCtorEq, Nat.reduceEqDiff, Nat.reduceBEq, Nat.reduceAdd, Nat.reduceSub, Nat.reduceMul, Nat.reduceLT, Nat.reduceLeDiff, Nat.reduceBNe, Int.reduceBEq, Int.reduceBNe, Int.reduceLT, Int.reduceLE, Msg.a, Par.a, hw]
  · have hs' : (x != y) = true := by simp [hs]
    rw [show (x == y) = false by simp [hs], Bool.false_and] at hr
    subst hr
    simp (maxSteps := 4000000) only [go_sem, ↓reduceIte, reduceCtorEq, Nat.reduceEqDiff, Nat.reduceBEq, Nat.reduceAdd, Nat.reduceSub, Nat.reduceMul, Nat.reduceLT, Nat.reduceLeDiff, Nat.reduceBNe, Int.reduceBEq, Int.reduceBNe, Int.reduceLT, Int.reduceLE, Msg.a, Par.a, t0, t1, t5, hlt', hgx, hgy, hs', hlt, hlt2, List.length_map, Int.toNat_natCast]
    all_goals omega
def lE : List Nd := [⟨0, 1, [⟨#[109]⟩], [1, 2], ⟨#[]⟩, true, -1, 0, [], []⟩, ⟨1, 0, [], [], ⟨#[109]⟩, false, 2, 0, [], []⟩, ⟨2, 0, [], [], ⟨#[]⟩, true, -1, 0, [], []⟩]
theorem lE_cases {p : Nd → Prop} (h0 : p (lE[0]'(by decide))) (h1 : p (lE[1]'(by decide))) (h2 : p (lE[2]'(by decide))) : ∀ n, n ∈ lE → p n := by
  intro n hn
  rcases List.mem_cons.1 hn with e | hn
  · rw [e]; exact h0
  rcases List.mem_cons.1 hn with e | hn
  · rw [e]; exact h1
  rw [List.mem_singleton.1 hn]; exact h2
theorem lE_lad : Lad lE := by
  refine ⟨fun j n e => ?_, by decide, lE_cases (by decide) (by decide) (by decide), lE_cases (by decide) (by decide) (by decide), lE_cases (by decide) (by decide) (by decide), lE_cases (by decide) (by decide) (by decide)⟩
  match j, e with
  | 0, e => cases e; rfl
  | 1, e => cases e; rfl
  | 2, e => cases e; rfl
  | j + 3, e => simp [lE] at e
theorem lE_ords : Ords lE [0, 1, 2] := by
  refine ⟨by decide +kernel, by decide, fun s hs => ?_, fun j hj => ?_⟩
  · simp only [List.mem_cons, List.not_mem_nil, or_false] at hs
    rcases hs with rfl | rfl | rfl <;> decide
  · match j, hj with
    | 0, _ => decide +kernel
    | 1, _ => decide +kernel
    | 2, _ => decide +kernel
    | j + 3, hj => exact absurd hj (by simp)
set_option maxHeartbeats 2000000 in
theorem awake55_ok : AFn Try.prog 10 [] (.bool true) := by
  refine fn_aw55 rfl ?_
  have c1 := Below_ok lE lE_lad 0 1
  have c2 := Below_ok lE lE_lad 0 2
  have c3 := Below_ok lE lE_lad 1 2
  have c4 := Below_ok lE lE_lad 2 1
  have c5 := order_ok lE lE_lad [0, 1, 2] lE_ords (by decide)
  have c6 := rints_ok [0, 1, 2] [0, 1, 2] (by decide) (by decide)
  rw [show (belowL lE 0).contains 1 = true by decide +kernel] at c1
  rw [show (belowL lE 0).contains 2 = true by decide +kernel] at c2
  rw [show (belowL lE 1).contains 2 = true by decide +kernel] at c3
  rw [show (belowL lE 2).contains 1 = false by decide +kernel] at c4
  rw [eqI_self] at c6
  simp only [lE, Nd.a, List.map_cons, List.map_nil] at c1 c2 c3 c4 c5 c6
  (repeat (first | simp (maxSteps := 4000000) only [go_sem, ↓reduceIte, reduceCtorEq, Nat.reduceEqDiff, Nat.reduceBEq, Nat.reduceAdd, Nat.reduceSub, Nat.reduceMul, Nat.reduceLT, Nat.reduceLeDiff, Nat.reduceBNe, Int.reduceBEq, Int.reduceBNe, Int.reduceLT, Int.reduceLE, Msg.a, Par.a] | refine calling (c1) ?_ | refine callingH (c1) ?_ | refine calling (c2) ?_ | refine callingH (c2) ?_ | refine calling (c3) ?_ | refine callingH (c3) ?_ | refine calling (c4) ?_ | refine callingH (c4) ?_ | refine calling (c5) ?_ | refine callingH (c5) ?_ | refine calling (c6) ?_ | refine callingH (c6) ?_ | refine And.intro (by omega) ?_ | refine And.intro (fun d hd => by (repeat (rcases hd with rfl | hd; · exact ⟨rfl, rfl⟩)); cases hd) ?_))
end
end Go.Proofs.Ythfdbjocpicbmaa
