/-
  Part 10 of a proof: StB, StD, StE, StF, StG.
-/
import Derived.Test.YtjkicoiiadgebaaHT9
namespace Go.Proofs.Ytjkicoiiadgebaa
attribute [local go_sem] ev0 ev1 ev2 ev3 ev4 evA stHOk.eq_1 stHOk.eq_2 stHSt.eq_1 stHSt.eq_2 okV valV fzV okF valF okBld valBld mxOk.eq_1 mxOk.eq_2 mxVal.eq_1 mxVal.eq_2 cellFit.eq_1 cellFit.eq_2 cellFit.eq_3 cellEq.eq_1 cellEq.eq_2 cellEq.eq_3 upd_at AV.flatB AV.flatBs binIok binIV binSok binSV cellsOk.eq_1 cellsOk.eq_2 cellsVal.eq_1 cellsVal.eq_2 objCells.eq_1 objCells.eq_2 objZ.eq_1 objZ.eq_2 objProt.eq_1 objProt.eq_2 oneObj ptrOk.eq_1 ptrOk.eq_2 ptrOk.eq_3 ptrCells.eq_1 ptrCells.eq_2 ptrCells.eq_3 lenOk.eq_1 lenOk.eq_2 lenOk.eq_3 lenOk.eq_4 lenVal.eq_1 lenVal.eq_2 lenVal.eq_3 lenVal.eq_4 faOk.eq_1 faOk.eq_2 faOk.eq_3 faVal.eq_1 faVal.eq_2 faVal.eq_3 iaOk.eq_1 iaOk.eq_2 iaOk.eq_3 iaVal.eq_1 iaVal.eq_2 iaVal.eq_3 slcLen.eq_1 slcLen.eq_2 slcLen.eq_3 slcLen.eq_4 bdOk.eq_1 bdOk.eq_2 bdVal.eq_1 bdVal.eq_2 slcOk.eq_1 slcOk.eq_2 slcOk.eq_3 slcOk.eq_4 slcVal.eq_1 slcVal.eq_2 slcVal.eq_3 slcVal.eq_4 slcFz.eq_1 slcFz.eq_2 loK.eq_1 loK.eq_2 loK.eq_3 rsVal.eq_1 rsVal.eq_2 rsVal.eq_3 byOk.eq_1 byOk.eq_2 byOk.eq_3 byOk.eq_4 byOk.eq_5 byOk.eq_6 byOk.eq_7 byOk.eq_8 byVal.eq_1 byVal.eq_2 byVal.eq_3 byFz.eq_1 byFz.eq_2 byFz.eq_3 byOks byVals byFzs allOne resSt.eq_1 resSt.eq_2 resName.eq_1 resName.eq_2 stOk.eq_1 stOk.eq_2 stArr.eq_1 stArr.eq_2 stSt.eq_1 stSt.eq_2 AV.patch nameOk_none gB.eq_1 gB.eq_2 gB.eq_3 gIs.eq_1 gIs.eq_2 gIs.eq_3 retV resV resVs evalV cellsV St.byval List.getD_cons_zero List.getD_cons_succ List.getD_nil List.map_cons List.map_nil List.length_cons List.length_nil List.take_succ_cons List.take_zero List.drop_succ_cons List.drop_zero List.headD_cons List.set_cons_zero List.append_nil List.nil_append List.cons_append List.contains_cons List.contains_nil List.elem_cons List.elem_nil List.all_cons List.all_nil List.getElem?_cons_zero List.getElem?_cons_succ List.filterMap_cons List.filterMap_nil Option.isSome_some Option.isSome_none Option.map_some Option.map_none Option.some.injEq AV.int.injEq AV.bool.injEq AV.str.injEq AV.tup.injEq AV.agg.injEq AV.sl.injEq List.cons.injEq Bool.false_eq_true Bool.true_eq_false Bool.not_true Bool.not_false Bool.and_true Bool.true_and Bool.or_false Bool.or_true Bool.false_or Bool.true_or Bool.or_self Bool.and_self Bool.not_eq_true' Bool.not_eq_false' Bool.not_not beq_self_eq_true true_and and_true false_and and_false and_self not_true_eq_false not_false_eq_true forall_const true_implies false_implies implies_true imp_self Nat.lt_add_one Nat.le_refl Nat.zero_le Nat.add_zero Nat.zero_add decide_true decide_false decide_eq_true_eq decide_eq_false_iff_not exists_eq_left exists_eq_left' ge_iff_le gt_iff_lt ite_branch ite_branch' nilOk.eq_1 nilOk.eq_2 nilMay.eq_1 nilMay.eq_2 AV.isSl.eq_1 objTy'.eq_1 objTy'.eq_2 apSt.eq_1 apArr.eq_1 apArr.eq_2 apTwo.eq_1 apTwo.eq_2 apSt2.eq_1 apArr2.eq_1 apArr2.eq_2 slOf.eq_1 fitsV List.mem_cons List.not_mem_nil Bool.false_and Bool.and_false primOk.eq_1 primOk.eq_2 primOk.eq_3 primOk.eq_4 primOk.eq_5 primVal.eq_1 primVal.eq_2 primVal.eq_3 primVal.eq_4 primVal.eq_5 mOk.eq_1 mOk.eq_2 mVal.eq_1 mVal.eq_2 mFz.eq_1 mFz.eq_2 mOks mVals mFzs mCalOk.eq_1 mCalOk.eq_2 mFn.eq_1 mFn.eq_2 mArgs.eq_1 mArgs.eq_2 ckOk.eq_1 ckOk.eq_2 cloOk.eq_1 ptrAt.eq_1 sh.eq_1 sh.eq_2 sh.eq_3 sh.eq_4 sh.eq_5 sh.eq_6 retM shH_small evM entOk.eq_1 entOk.eq_2 ents.eq_1 ents.eq_2 kI.eq_1 mpOk.eq_1 mpR.eq_1 lkV.eq_1 lkV.eq_2 remp.eq_2 evP pvOk.eq_1 pvOk.eq_2 pvVal.eq_1 pvVal.eq_2 plOk.eq_1 plOk.eq_2 plOk.eq_3 plV.eq_1 plV.eq_2 plF.eq_1 plF.eq_2 plVal.eq_1 plVal.eq_2 plFz.eq_1 plFz.eq_2 lpOk.eq_1 lpOk.eq_2 lpVal.eq_1 lpVal.eq_2 lpFz.eq_1 lpFz.eq_2 stpOk.eq_1 stpOk.eq_2 stpSt.eq_1 stpSt.eq_2 stpArr.eq_1 keepS.eq_1 keepS.eq_2
section
/-
  Two ranges of a slice that was handed on change places; a rotation: the library's code, walked.
-/
open Go.RowKit
set_option linter.unusedVariables false
set_option linter.unusedSimpArgs false
set_option maxRecDepth 100000
attribute [local go_sem ↓] runOp headOp
/-! ### slices.swapRangeCmpFunc[percolate/api.Event] -/
def r_swR_0 : List XOp := [(.op [] ⟨(.mv (.c (.int .i64 0))), (some 10), none, [], []⟩)]
def r_swR_1 : List XOp := [(.op [] ⟨(.mv (.t 10)), (some 11), none, [], []⟩), (.op [] ⟨(.mv (.t 3)), (some 12), none, [], []⟩), (.op [] ⟨(.bin .lss (.t 11) (.t 12)), (some 13), none, [], []⟩)]
def r_swR_2 : Reg := ⟨[⟨(.mv (.t 0)), (some 16), none, [], []⟩, ⟨(.mv (.t 1)), (some 17), none, [], []⟩, ⟨(.mv (.t 10)), (some 18), none, [], []⟩, ⟨(.bin .add (.t 17) (.t 18)), (some 19), none, [], []⟩, ⟨(.mv (.t 0)), (some 20), none, [], []⟩, ⟨(.mv (.t 2)), (some 21), none, [], []⟩, ⟨(.mv (.t 10)), (some 22), none, [], []⟩, ⟨(.bin .add (.t 21) (.t 22)), (some 23), none, [], []⟩, ⟨(.mv (.t 0)), (some 24), none, [], []⟩, ⟨(.mv (.t 2)), (some 25), none, [], []⟩, ⟨(.mv (.t 10)), (some 26), none, [], []⟩, ⟨(.bin .add (.t 25) (.t 26)), (some 27), none, [], []⟩, ⟨(.iaddr 15 (.t 24) (.t 27)), (some 28), none, [], []⟩, ⟨(.load 15 true (.t 28)), (some 29), none, [], []⟩, ⟨(.mv (.t 0)), (some 30), none, [], []⟩, ⟨(.mv (.t 1)), (some 31), none, [], []⟩, ⟨(.mv (.t 10)), (some 32), none, [], []⟩, ⟨(.bin .add (.t 31) (.t 32)), (some 33), none, [], []⟩, ⟨(.iaddr 15 (.t 30) (.t 33)), (some 34), none, [], []⟩, ⟨(.load 15 true (.t 34)), (some 35), none, [], []⟩, ⟨(.iaddr 15 (.t 16) (.t 19)), (some 36), none, [], []⟩, ⟨(.store 15 (.t 36) (.t 29)), none, none, [], [0]⟩], [⟨(.iaddr 15 (.t 20) (.t 23)), (some 37), none, [], []⟩, ⟨(.store 15 (.t 37) (.t 35)), none, none, [], [0]⟩], [], [], true⟩
def r_swR_3 : List XOp := [(.op [] ⟨(.mv (.t 10)), (some 14), none, [], []⟩), (.op [] ⟨(.bin .add (.t 14) (.c (.int .i64 1))), (some 15), none, [], []⟩), (.op [] ⟨(.mv (.t 15)), (some 10), none, [], []⟩)]
def r_swR_l4 (P : Program) : IR := (.seq (.seq (.regx P r_swR_1)
  (.cond (.t 13) .skip
  (.exit 0)))
  (.seq (.block 1 (.regw r_swR_2 0))
  (.regx P r_swR_3)))
def ir_swR (P : Program) : IR := (.seq (.regx P r_swR_0)
  (.block 0 (.loop (r_swR_l4 P))))
def res_swR : List RDesc := []
theorem e_swR_2 (C : FuncId → List AV → AV → Prop) (σ : St) (K : St → Prop) (q : Nat) : runReg C (Reg.ren 0 q r_swR_2) σ K = runHead C [] [⟨(.iaddr 15 (.t 20) (.t 23)), (some 37), none, [], []⟩, ⟨(.store 15 (.t 37) (.t 35)), none, none, [], [q]⟩] [⟨(.mv (.t 0)), (some 16), none, [], []⟩, ⟨(.mv (.t 1)), (some 17), none, [], []⟩, ⟨(.mv (.t 10)), (some 18), none, [], []⟩, ⟨(.bin .add (.t 17) (.t 18)), (some 19), none, [], []⟩, ⟨(.mv (.t 0)), (some 20), none, [], []⟩, ⟨(.mv (.t 2)), (some 21), none, [], []⟩, ⟨(.mv (.t 10)), (some 22), none, [], []⟩, ⟨(.bin .add (.t 21) (.t 22)), (some 23), none, [], []⟩, ⟨(.mv (.t 0)), (some 24), none, [], []⟩, ⟨(.mv (.t 2)), (some 25), none, [], []⟩, ⟨(.mv (.t 10)), (some 26), none, [], []⟩, ⟨(.bin .add (.t 25) (.t 26)), (some 27), none, [], []⟩, ⟨(.iaddr 15 (.t 24) (.t 27)), (some 28), none, [], []⟩, ⟨(.load 15 true (.t 28)), (some 29), none, [], []⟩, ⟨(.mv (.t 0)), (some 30), none, [], []⟩, ⟨(.mv (.t 1)), (some 31), none, [], []⟩, ⟨(.mv (.t 10)), (some 32), none, [], []⟩, ⟨(.bin .add (.t 31) (.t 32)), (some 33), none, [], []⟩, ⟨(.iaddr 15 (.t 30) (.t 33)), (some 34), none, [], []⟩, ⟨(.load 15 true (.t 34)), (some 35), none, [], []⟩, ⟨(.iaddr 15 (.t 16) (.t 19)), (some 36), none, [], []⟩, ⟨(.store 15 (.t 36) (.t 29)), none, none, [], [q]⟩] (σ.kills []) K := rfl
theorem fnm_swR {args : List AV} {r : AV} {H H' : Nat → Option Arr} (ha : args.length.ble Try.f84.ntmps = true) (h : run (AFn Try.prog) (ir_swR Try.prog) (endM res_swR r H') (initM args H)) : MFn Try.prog 84 args H r H' :=
  MFn.of_code (pv := false) (hint := fun _ => [1]) (c := Try.f84.body.getD .skip) (by kernel_rfl) (by kernel_rfl) Try.func84 (by kernel_rfl) (by kernel_rfl) (by kernel_rfl) (of_decide_eq_true (by kernel_rfl)) (Nat.le_of_ble_eq_true ha) (Nat.le_of_ble_eq_true (by kernel_rfl)) (run_ok h)
attribute [local go_sem ↓] ir_swR
attribute [local go_sem] res_swR e_swR_2 r_swR_0 r_swR_1 r_swR_3
theorem atS {α : Type} {f : α → AV} {l : List α} {j : Nat} {x : α} (h : l[j]? = some x) : (l.map f).getD j .und = f x := by
  rw [List.getD_eq_getElem?_getD, List.getElem?_map, h]; rfl
theorem wrapN {j : Int} (h : -1000000000000000 ≤ j ∧ j ≤ 1000000000000000) : IntKind.i64.wrap j = j := IntWalk.i64_in _ (by omega)
/-- things of 15 cells each -/
structure Kind15 (α : Type) where
  c : α → List AV
  len : ∀ x, (c x).length = 15
  one : ∀ x, (c x).all AV.one = true
def Kind15.f {α : Type} (K : Kind15 α) (x : α) : AV := .agg (K.c x)
theorem Kind15.take {α : Type} (K : Kind15 α) (x : α) : List.take 15 (K.c x) = K.c x := List.take_of_length_le (by rw [K.len]; exact Nat.le_refl _)
theorem Kind15.drop {α : Type} (K : Kind15 α) (x : α) : List.drop 15 (K.c x) = [] := List.drop_eq_nil_of_le (by rw [K.len]; exact Nat.le_refl _)
/-- what the machine asks where two elements change places -/
structure Swp {α : Type} (K : Kind15 α) (Y : List α) (ja jb : Nat) (u v : α) : Prop where
  a : (List.map (fun x => AV.agg (K.c x)) Y).getD ja .und = .agg (K.c u)
  b : (List.map (fun x => AV.agg (K.c x)) Y).getD jb .und = .agg (K.c v)
  s1 : (List.map (fun x => AV.agg (K.c x)) Y).set ja (.agg (K.c v)) = List.map (fun x => AV.agg (K.c x)) (Y.set ja v)
  c : (List.map (fun x => AV.agg (K.c x)) (Y.set ja v)).getD jb .und = .agg (K.c v)
  s2 : (List.map (fun x => AV.agg (K.c x)) (Y.set ja v)).set jb (.agg (K.c u)) = List.map (fun x => AV.agg (K.c x)) ((Y.set ja v).set jb u)
  la : ja < Y.length
  lb : jb < Y.length
  lc : jb < (Y.set ja v).length
theorem Swp.of {α : Type} (K : Kind15 α) {Y : List α} {ja jb : Nat} {u v : α} (hu : Y[ja]? = some u) (hv : Y[jb]? = some v) (hne : ja ≠ jb) : Swp K Y ja jb u v := by
  have h1 := (List.getElem?_eq_some_iff.1 hu).1
  have h2 := (List.getElem?_eq_some_iff.1 hv).1
  have h3 : jb < (Y.set ja v).length := by rw [List.length_set]; exact h2
  refine ⟨atS hu, atS hv, List.map_set.symm, atS ?_, List.map_set.symm, h1, h2, h3⟩
  rw [List.getElem?_set_ne hne]; exact hv
section
variable {α : Type} (K : Kind15 α)
/-- an own slice of these -/
def ObjE (X : List α) : Option Arr := some ⟨15, 32, X.map K.f, 0⟩
def only (H0 H : Nat → Option Arr) (r : Nat) (X : List α) : Prop := (∀ q, q ≠ r → H (q + 1000) = H0 q) ∧ H (r + 1000) = ObjE K X
theorem only_end {H0 H : Nat → Option Arr} {r : Nat} {X : List α} (h : only K H0 H r X) : ∀ q, H (q + 1000) = upd H0 r (ObjE K X) q := fun q => by
  by_cases e : q = r
  · rw [e, upd_same]; exact h.2
  · rw [upd_ne _ _ e]; exact h.1 q e
/-- two blocks of one length change places -/
def swB (P U Q V R : List α) (i : Nat) : List α := P ++ (V.take i ++ U.drop i) ++ Q ++ (U.take i ++ V.drop i) ++ R
theorem swB_at {P U Q V R : List α} {i : Nat} {u v : α} (hl : U.length = V.length) (hu : U[i]? = some u) (hv : V[i]? = some v) :
    (swB P U Q V R i)[P.length + i]? = some u ∧ (swB P U Q V R i)[P.length + U.length + Q.length + i]? = some v ∧
    ((swB P U Q V R i).set (P.length + i) v).set (P.length + U.length + Q.length + i) u = swB P U Q V R (i + 1) := by
  have h1 := (List.getElem?_eq_some_iff.1 hu).1
  have h2 := (List.getElem?_eq_some_iff.1 hv).1
  have lv : (V.take i).length = i := by rw [List.length_take]; omega
  have lu : (U.take i).length = i := by rw [List.length_take]; omega
  have du : U.drop i = u :: U.drop (i + 1) := by rw [List.drop_eq_getElem_cons h1, (List.getElem?_eq_some_iff.1 hu).2]
  have dv : V.drop i = v :: V.drop (i + 1) := by rw [List.drop_eq_getElem_cons h2, (List.getElem?_eq_some_iff.1 hv).2]
  have tu : U.take (i + 1) = U.take i ++ [u] := by rw [List.take_add_one, hu]; rfl
  have tv : V.take (i + 1) = V.take i ++ [v] := by rw [List.take_add_one, hv]; rfl
  have e0 : swB P U Q V R i = (P ++ V.take i) ++ u :: (U.drop (i + 1) ++ Q ++ U.take i ++ v :: (V.drop (i + 1) ++ R)) := by
    unfold swB; rw [du, dv]; simp
  have e1 : swB P U Q V R i = (P ++ V.take i ++ u :: (U.drop (i + 1) ++ Q ++ U.take i)) ++ v :: (V.drop (i + 1) ++ R) := by
    rw [e0]; simp
  have la : (P ++ V.take i).length = P.length + i := by rw [List.length_append, lv]
  have lb : (P ++ V.take i ++ u :: (U.drop (i + 1) ++ Q ++ U.take i)).length = P.length + U.length + Q.length + i := by
    simp only [List.length_append, List.length_cons, lv, lu, List.length_drop]; omega
  refine ⟨?_, ?_, ?_⟩
  · rw [e0, ← la, List.getElem?_append_right (Nat.le_refl _), Nat.sub_self]; rfl
  · rw [e1, ← lb, List.getElem?_append_right (Nat.le_refl _), Nat.sub_self]; rfl
  · have s1 : (swB P U Q V R i).set (P.length + i) v = (P ++ V.take i ++ v :: (U.drop (i + 1) ++ Q ++ U.take i)) ++ v :: (V.drop (i + 1) ++ R) := by
      rw [e0, ← la, List.set_append_right _ _ (Nat.le_refl _), Nat.sub_self, List.set_cons_zero]; simp
    have lc : (P ++ V.take i ++ v :: (U.drop (i + 1) ++ Q ++ U.take i)).length = P.length + U.length + Q.length + i := by
      simp only [List.length_append, List.length_cons, lv, lu, List.length_drop]; omega
    rw [s1, ← lc, List.set_append_right _ _ (Nat.le_refl _), Nat.sub_self, List.set_cons_zero]
    unfold swB
    rw [tu, tv]; simp
def swInv (H : Nat → Option Arr) (r : Nat) (P U Q V R : List α) (k : Nat) (σ : St) : Prop :=
  ∃ i : Nat, i ≤ U.length ∧ k = U.length - i ∧ σ.T 0 = .rs (r + 1000) 0 (P ++ U ++ Q ++ V ++ R).length ∧ σ.T 1 = .int .i64 P.length ∧ σ.T 2 = .int .i64 ((P.length + U.length + Q.length : Nat) : Int) ∧ σ.T 3 = .int .i64 U.length ∧ σ.T 10 = .int .i64 i ∧ only K H σ.H r (swB P U Q V R i)
set_option maxHeartbeats 2000000 in
theorem swR_ok (H : Nat → Option Arr) (r : Nat) (P U Q V R : List α) (cmp : AV) (hl : U.length = V.length) (hb : (P ++ U ++ Q ++ V ++ R).length ≤ 1000000) (hr : H r = ObjE K (P ++ U ++ Q ++ V ++ R)) :
    MFn Try.prog 84 [.rs r 0 (P ++ U ++ Q ++ V ++ R).length, .int .i64 P.length, .int .i64 ((P.length + U.length + Q.length : Nat) : Int), .int .i64 U.length, cmp] H (.tup []) (upd H r (ObjE K (P ++ V ++ Q ++ U ++ R))) := by
  refine fnm_swR rfl ?_
  have hz : swB P U Q V R 0 = P ++ U ++ Q ++ V ++ R := by unfold swB; simp
  simp (maxSteps := 4000000) only [go_sem, ↓reduceIte, reduceCtorEq, Nat.reduceEqDiff, Nat.reduceBEq, Nat.reduceAdd, Nat.reduceSub, Nat.reduceMul, Nat.reduceLT, Nat.reduceLeDiff, Nat.reduceBNe, Int.reduceBEq, Int.reduceBNe, Int.reduceLT, Int.reduceLE, evW, retM]
  refine run_loop (swInv K H r P U Q V R) (k := U.length) ⟨0, Nat.zero_le _, rfl, ?_, ?_, ?_, ?_, ?_, ?_⟩ ?_
  · (simp (maxSteps := 4000000) only [go_sem, ↓reduceIte, reduceCtorEq, Nat.reduceEqDiff, Nat.reduceBEq, Nat.reduceAdd, Nat.reduceSub, Nat.reduceMul, Nat.reduceLT, Nat.reduceLeDiff, Nat.reduceBNe, Int.reduceBEq, Int.reduceBNe, Int.reduceLT, Int.reduceLE, evW, retM, sh]) <;> rfl
  · (simp (maxSteps := 4000000) only [go_sem, ↓reduceIte, reduceCtorEq, Nat.reduceEqDiff, Nat.reduceBEq, Nat.reduceAdd, Nat.reduceSub, Nat.reduceMul, Nat.reduceLT, Nat.reduceLeDiff, Nat.reduceBNe, Int.reduceBEq, Int.reduceBNe, Int.reduceLT, Int.reduceLE, evW, retM, sh]) <;> rfl
  · (simp (maxSteps := 4000000) only [go_sem, ↓reduceIte, reduceCtorEq, Nat.reduceEqDiff, Nat.reduceBEq, Nat.reduceAdd, Nat.reduceSub, Nat.reduceMul, Nat.reduceLT, Nat.reduceLeDiff, Nat.reduceBNe, Int.reduceBEq, Int.reduceBNe, Int.reduceLT, Int.reduceLE, evW, retM, sh]) <;> rfl
  · (simp (maxSteps := 4000000) only [go_sem, ↓reduceIte, reduceCtorEq, Nat.reduceEqDiff, Nat.reduceBEq, Nat.reduceAdd, Nat.reduceSub, Nat.reduceMul, Nat.reduceLT, Nat.reduceLeDiff, Nat.reduceBNe, Int.reduceBEq, Int.reduceBNe, Int.reduceLT, Int.reduceLE, evW, retM, sh]) <;> rfl
  · (simp (maxSteps := 4000000) only [go_sem, ↓reduceIte, reduceCtorEq, Nat.reduceEqDiff, Nat.reduceBEq, Nat.reduceAdd, Nat.reduceSub, Nat.reduceMul, Nat.reduceLT, Nat.reduceLeDiff, Nat.reduceBNe, Int.reduceBEq, Int.reduceBNe, Int.reduceLT, Int.reduceLE, evW, retM]) <;> rfl
  · refine ⟨fun q hq => ?_, ?_⟩
    · simp (maxSteps := 4000000) only [go_sem, ↓reduceIte, reduceCtorEq, Nat.reduceEqDiff, Nat.reduceBEq, Nat.reduceAdd, Nat.reduceSub, Nat.reduceMul, Nat.reduceLT, Nat.reduceLeDiff, Nat.reduceBNe, Int.reduceBEq, Int.reduceBNe, Int.reduceLT, Int.reduceLE, evW, retM]
    · simp (maxSteps := 4000000) only [go_sem, ↓reduceIte, reduceCtorEq, Nat.reduceEqDiff, Nat.reduceBEq, Nat.reduceAdd, Nat.reduceSub, Nat.reduceMul, Nat.reduceLT, Nat.reduceLeDiff, Nat.reduceBNe, Int.reduceBEq, Int.reduceBNe, Int.reduceLT, Int.reduceLE, evW, retM, hr, hz]
  rintro k σ ⟨i, hi, rfl, t0, t1, t2, t3, t10, hH⟩
  simp only [r_swR_l4]
  by_cases hlt : i < U.length
  case neg =>
    have hlt' : ¬ (i : Int) < (U.length : Int) := by omega
    have e : swB P U Q V R i = P ++ V ++ Q ++ U ++ R := by
      unfold swB
      rw [List.take_of_length_le (by omega), List.take_of_length_le (by omega), List.drop_eq_nil_of_le (by omega), List.drop_eq_nil_of_le (by omega), List.append_nil, List.append_nil]
    rw [e] at hH
    have hf := only_end K hH
    simp (maxSteps := 4000000) only [go_sem, ↓reduceIte, reduceCtorEq, Nat.reduceEqDiff, Nat.reduceBEq, Nat.reduceAdd, Nat.reduceSub, Nat.reduceMul, Nat.reduceLT, Nat.reduceLeDiff, Nat.reduceBNe, Int.reduceBEq, Int.reduceBNe, Int.reduceLT, Int.reduceLE, evW, retM, t3, t10, hlt']
    exact hf
  have hlt' : (i : Int) < (U.length : Int) := by omega
  obtain ⟨u, hu⟩ : ∃ u, U[i]? = some u := ⟨_, List.getElem?_eq_getElem hlt⟩
  obtain ⟨v, hv⟩ : ∃ v, V[i]? = some v := ⟨_, List.getElem?_eq_getElem (by omega)⟩
  obtain ⟨ga, gb, gs⟩ := swB_at (P := P) (Q := Q) (R := R) hl hu hv
  obtain ⟨hX1, hX2⟩ := hH
  generalize hY : swB P U Q V R i = Y at *
  have hYl : Y.length = (P ++ U ++ Q ++ V ++ R).length := by
    rw [← hY]; unfold swB
    simp only [List.length_append, List.length_take, List.length_drop]; omega
  have hn : (P ++ U ++ Q ++ V ++ R).length = P.length + U.length + Q.length + V.length + R.length := by simp only [List.length_append]
  generalize hN : (P ++ U ++ Q ++ V ++ R).length = N at *
  generalize hja : P.length + i = ja at *
  generalize hjb : P.length + U.length + Q.length + i = jb at *
  have wa : IntKind.i64.wrap ((P.length : Int) + (i : Int)) = (ja : Int) := by rw [wrapN (by omega)]; omega
  have wb : IntKind.i64.wrap (((P.length + U.length + Q.length : Nat) : Int) + (i : Int)) = (jb : Int) := by rw [wrapN (by omega)]; omega
  have wi : IntKind.i64.wrap ((i : Int) + 1) = ((i + 1 : Nat) : Int) := by rw [wrapN (by omega)]; rfl
  obtain ⟨ha, hb', s1, hc, s2, la', lb', lc'⟩ := Swp.of K ga gb (by omega)
  have la : (ja : Int) < (N : Int) := by omega
  have lb : (jb : Int) < (N : Int) := by omega
  have z0 : ∀ x : Nat, (0 : Int) ≤ (x : Int) := fun x => Int.natCast_nonneg x
  have hX2' := hX2
  unfold ObjE Kind15.f at hX2'
  have hk1 := K.take
  have hk2 := K.drop
  have hk3 := K.len
  have hk4 := K.one
  simp (maxSteps := 4000000) only [go_sem, ↓reduceIte, reduceCtorEq, Nat.reduceEqDiff, Nat.reduceBEq, Nat.reduceAdd, Nat.reduceSub, Nat.reduceMul, Nat.reduceLT, Nat.reduceLeDiff, Nat.reduceBNe, Int.reduceBEq, Int.reduceBNe, Int.reduceLT, Int.reduceLE, evW, retM, t0, t1, t2, t3, t10, hX2', hlt', wa, wb, la, lb, ha, hb', s1, hc, s2, la', lb', lc', hk1, hk2, hk3, hk4, z0, Int.toNat_natCast, List.length_map]
  refine ⟨U.length - (i + 1), by omega, i + 1, by omega, rfl, ?_, ?_, ?_, ?_, ?_, ?_⟩
  · (simp (maxSteps := 4000000) only [go_sem, ↓reduceIte, reduceCtorEq, Nat.reduceEqDiff, Nat.reduceBEq, Nat.reduceAdd, Nat.reduceSub, Nat.reduceMul, Nat.reduceLT, Nat.reduceLeDiff, Nat.reduceBNe, Int.reduceBEq, Int.reduceBNe, Int.reduceLT, Int.reduceLE, evW, retM, t0, hN])
  · (simp (maxSteps := 4000000) only [go_sem, ↓reduceIte, reduceCtorEq, Nat.reduceEqDiff, Nat.reduceBEq, Nat.reduceAdd, Nat.reduceSub, Nat.reduceMul, Nat.reduceLT, Nat.reduceLeDiff, Nat.reduceBNe, Int.reduceBEq, Int.reduceBNe, Int.reduceLT, Int.reduceLE, evW, retM, t1])
  · (simp (maxSteps := 4000000) only [go_sem, ↓reduceIte, reduceCtorEq, Nat.reduceEqDiff, Nat.reduceBEq, Nat.reduceAdd, Nat.reduceSub, Nat.reduceMul, Nat.reduceLT, Nat.reduceLeDiff, Nat.reduceBNe, Int.reduceBEq, Int.reduceBNe, Int.reduceLT, Int.reduceLE, evW, retM, t2])
  · (simp (maxSteps := 4000000) only [go_sem, ↓reduceIte, reduceCtorEq, Nat.reduceEqDiff, Nat.reduceBEq, Nat.reduceAdd, Nat.reduceSub, Nat.reduceMul, Nat.reduceLT, Nat.reduceLeDiff, Nat.reduceBNe, Int.reduceBEq, Int.reduceBNe, Int.reduceLT, Int.reduceLE, evW, retM, t3])
  · (simp (maxSteps := 4000000) only [go_sem, ↓reduceIte, reduceCtorEq, Nat.reduceEqDiff, Nat.reduceBEq, Nat.reduceAdd, Nat.reduceSub, Nat.reduceMul, Nat.reduceLT, Nat.reduceLeDiff, Nat.reduceBNe, Int.reduceBEq, Int.reduceBNe, Int.reduceLT, Int.reduceLE, evW, retM, wi])
  · refine ⟨fun q hq => ?_, ?_⟩
    · have hq' : q + 1000 ≠ r + 1000 := by omega
      have := hX1 q hq
      simp (maxSteps := 4000000) only [go_sem, ↓reduceIte, reduceCtorEq, Nat.reduceEqDiff, Nat.reduceBEq, Nat.reduceAdd, Nat.reduceSub, Nat.reduceMul, Nat.reduceLT, Nat.reduceLeDiff, Nat.reduceBNe, Int.reduceBEq, Int.reduceBNe, Int.reduceLT, Int.reduceLE, evW, retM, hq', this]
    · rw [← gs]
      unfold ObjE Kind15.f
      simp (maxSteps := 4000000) only [go_sem, ↓reduceIte, reduceCtorEq, Nat.reduceEqDiff, Nat.reduceBEq, Nat.reduceAdd, Nat.reduceSub, Nat.reduceMul, Nat.reduceLT, Nat.reduceLeDiff, Nat.reduceBNe, Int.reduceBEq, Int.reduceBNe, Int.reduceLT, Int.reduceLE, evW, retM]
end
end
section
/-
  A rotation of a slice that was handed on: the library's code, walked.
-/
open Go.RowKit
set_option linter.unusedVariables false
set_option linter.unusedSimpArgs false
set_option maxRecDepth 100000
attribute [local go_sem ↓] runOp headOp
/-! ### slices.rotateCmpFunc[percolate/api.Event] -/
def r_rotE_0 : List XOp := [(.op [] ⟨(.mv (.t 2)), (some 12), none, [], []⟩), (.op [] ⟨(.mv (.t 1)), (some 13), none, [], []⟩), (.op [] ⟨(.bin .sub (.t 12) (.t 13)), (some 14), none, [], []⟩), (.op [] ⟨(.mv (.t 14)), (some 10), none, [], []⟩)]
def r_rotE_1 : List XOp := [(.op [] ⟨(.mv (.t 3)), (some 15), none, [], []⟩), (.op [] ⟨(.mv (.t 2)), (some 16), none, [], []⟩), (.op [] ⟨(.bin .sub (.t 15) (.t 16)), (some 17), none, [], []⟩), (.op [] ⟨(.mv (.t 17)), (some 11), none, [], []⟩)]
def r_rotE_2 : List XOp := [(.op [] ⟨(.mv (.t 10)), (some 18), none, [], []⟩), (.op [] ⟨(.mv (.t 11)), (some 19), none, [], []⟩), (.op [] ⟨(.bin .neq (.t 18) (.t 19)), (some 20), none, [], []⟩)]
def r_rotE_3 : List XOp := [(.op [] ⟨(.mv (.t 10)), (some 21), none, [], []⟩), (.op [] ⟨(.mv (.t 11)), (some 22), none, [], []⟩), (.op [] ⟨(.bin .gtr (.t 21) (.t 22)), (some 23), none, [], []⟩)]
def r_rotE_4 : List XOp := [(.op [] ⟨(.mv (.t 0)), (some 24), none, [], []⟩), (.op [] ⟨(.mv (.t 2)), (some 25), none, [], []⟩), (.op [] ⟨(.mv (.t 10)), (some 26), none, [], []⟩), (.op [] ⟨(.bin .sub (.t 25) (.t 26)), (some 27), none, [], []⟩), (.op [] ⟨(.mv (.t 2)), (some 28), none, [], []⟩), (.op [] ⟨(.mv (.t 11)), (some 29), none, [], []⟩), (.op [] ⟨(.mv (.t 4)), (some 30), none, [], []⟩), (.wcall 31 (.c (.clo 84 [] [])) [(.t 24), (.t 27), (.t 28), (.t 29), (.t 30)])]
def r_rotE_5 : List XOp := [(.op [] ⟨(.mv (.t 10)), (some 32), none, [], []⟩), (.op [] ⟨(.mv (.t 11)), (some 33), none, [], []⟩), (.op [] ⟨(.bin .sub (.t 32) (.t 33)), (some 34), none, [], []⟩), (.op [] ⟨(.mv (.t 34)), (some 10), none, [], []⟩)]
def r_rotE_6 : List XOp := [(.op [] ⟨(.mv (.t 0)), (some 35), none, [], []⟩), (.op [] ⟨(.mv (.t 2)), (some 36), none, [], []⟩), (.op [] ⟨(.mv (.t 10)), (some 37), none, [], []⟩), (.op [] ⟨(.bin .sub (.t 36) (.t 37)), (some 38), none, [], []⟩), (.op [] ⟨(.mv (.t 2)), (some 39), none, [], []⟩), (.op [] ⟨(.mv (.t 11)), (some 40), none, [], []⟩), (.op [] ⟨(.bin .add (.t 39) (.t 40)), (some 41), none, [], []⟩), (.op [] ⟨(.mv (.t 10)), (some 42), none, [], []⟩), (.op [] ⟨(.bin .sub (.t 41) (.t 42)), (some 43), none, [], []⟩), (.op [] ⟨(.mv (.t 10)), (some 44), none, [], []⟩), (.op [] ⟨(.mv (.t 4)), (some 45), none, [], []⟩), (.wcall 46 (.c (.clo 84 [] [])) [(.t 35), (.t 38), (.t 43), (.t 44), (.t 45)])]
def r_rotE_7 : List XOp := [(.op [] ⟨(.mv (.t 11)), (some 47), none, [], []⟩), (.op [] ⟨(.mv (.t 10)), (some 48), none, [], []⟩), (.op [] ⟨(.bin .sub (.t 47) (.t 48)), (some 49), none, [], []⟩), (.op [] ⟨(.mv (.t 49)), (some 11), none, [], []⟩)]
def r_rotE_l8 (P : Program) : IR := (.seq (.seq (.regx P r_rotE_2)
  (.cond (.t 20) .skip
  (.exit 0)))
  (.block 1 (.seq (.regx P r_rotE_3)
  (.cond (.t 23) (.seq (.regx P r_rotE_4)
  (.regx P r_rotE_5))
  (.seq (.regx P r_rotE_6)
  (.regx P r_rotE_7))))))
def r_rotE_9 : List XOp := [(.op [] ⟨(.mv (.t 0)), (some 50), none, [], []⟩), (.op [] ⟨(.mv (.t 2)), (some 51), none, [], []⟩), (.op [] ⟨(.mv (.t 10)), (some 52), none, [], []⟩), (.op [] ⟨(.bin .sub (.t 51) (.t 52)), (some 53), none, [], []⟩), (.op [] ⟨(.mv (.t 2)), (some 54), none, [], []⟩), (.op [] ⟨(.mv (.t 10)), (some 55), none, [], []⟩), (.op [] ⟨(.mv (.t 4)), (some 56), none, [], []⟩), (.wcall 57 (.c (.clo 84 [] [])) [(.t 50), (.t 53), (.t 54), (.t 55), (.t 56)])]
def ir_rotE (P : Program) : IR := (.seq (.regx P r_rotE_0)
  (.seq (.regx P r_rotE_1)
  (.seq (.block 0 (.loop (r_rotE_l8 P)))
  (.regx P r_rotE_9))))
def res_rotE : List RDesc := []
theorem fnm_rotE {args : List AV} {r : AV} {H H' : Nat → Option Arr} (ha : args.length.ble Try.f72.ntmps = true) (h : run (AFn Try.prog) (ir_rotE Try.prog) (endM res_rotE r H') (initM args H)) : MFn Try.prog 72 args H r H' :=
  MFn.of_code (pv := false) (hint := fun _ => [1]) (c := Try.f72.body.getD .skip) (by kernel_rfl) (by kernel_rfl) Try.func72 (by kernel_rfl) (by kernel_rfl) (by kernel_rfl) (of_decide_eq_true (by kernel_rfl)) (Nat.le_of_ble_eq_true ha) (Nat.le_of_ble_eq_true (by kernel_rfl)) (run_ok h)
attribute [local go_sem ↓] ir_rotE
attribute [local go_sem] res_rotE r_rotE_0 r_rotE_1 r_rotE_2 r_rotE_3 r_rotE_4 r_rotE_5 r_rotE_6 r_rotE_7 r_rotE_9
theorem only_upd {α : Type} (K : Kind15 α) {H0 H : Nat → Option Arr} {r : Nat} {X X' : List α} (h : only K H0 H r X) : only K H0 (upd H (r + 1000) (ObjE K X')) r X' :=
  ⟨fun q hq => by rw [upd_ne _ _ (by omega)]; exact h.1 q hq, upd_same _ _ _⟩
theorem made_Hf (σ : St) (t : Nat) (v : AV) : (σ.made t v none).H = σ.H := rfl
section
variable {α : Type} (K : Kind15 α)
theorem swR_at (H : Nat → Option Arr) (r : Nat) {X X' P U Q V R : List α} {n : Nat} {a b k : Int} (cmp : AV) (hX : X = P ++ U ++ Q ++ V ++ R) (hX' : X' = P ++ V ++ Q ++ U ++ R) (hl : U.length = V.length) (hb : X.length ≤ 1000000) (hn : n = X.length) (ha : a = P.length) (hb' : b = ((P.length + U.length + Q.length : Nat) : Int)) (hk : k = U.length) (hr : H r = ObjE K X) :
    MFn Try.prog 84 [.rs r 0 n, .int .i64 a, .int .i64 b, .int .i64 k, cmp] H (.tup []) (upd H r (ObjE K X')) := by
  subst hX hX' hn ha hb' hk
  exact swR_ok K H r P U Q V R cmp hl hb hr
def rotInv (H : Nat → Option Arr) (r f m : Nat) (F : List α) (k : Nat) (σ : St) : Prop :=
  ∃ P A B R : List α, 0 < A.length ∧ 0 < B.length ∧ k = A.length + B.length ∧ P ++ B ++ A ++ R = F ∧ m = P.length + A.length ∧
  σ.T 0 = .rs (r + 1000) 0 F.length ∧ σ.T 2 = .int .i64 m ∧ σ.T 4 = .clo f [] [] ∧ σ.T 10 = .int .i64 A.length ∧ σ.T 11 = .int .i64 B.length ∧ only K H σ.H r (P ++ A ++ B ++ R)
set_option maxHeartbeats 2000000 in
theorem rotE_ok (H : Nat → Option Arr) (r f : Nat) (P A B R : List α) (hA : 0 < A.length) (hB : 0 < B.length) (hb : (P ++ A ++ B ++ R).length ≤ 1000000) (hr : H r = ObjE K (P ++ A ++ B ++ R)) :
    MFn Try.prog 72 [.rs r 0 (P ++ A ++ B ++ R).length, .int .i64 P.length, .int .i64 ((P.length + A.length : Nat) : Int), .int .i64 ((P.length + A.length + B.length : Nat) : Int), .clo f [] []] H (.tup []) (upd H r (ObjE K (P ++ B ++ A ++ R))) := by
  refine fnm_rotE rfl ?_
  have hN : (P ++ B ++ A ++ R).length = (P ++ A ++ B ++ R).length := by simp only [List.length_append]; omega
  have hn : (P ++ A ++ B ++ R).length = P.length + A.length + B.length + R.length := by simp only [List.length_append]
  have wi : IntKind.i64.wrap (((P.length + A.length : Nat) : Int) - (P.length : Int)) = (A.length : Int) := by rw [wrapN (by omega)]; omega
  have wj : IntKind.i64.wrap (((P.length + A.length + B.length : Nat) : Int) - ((P.length + A.length : Nat) : Int)) = (B.length : Int) := by rw [wrapN (by omega)]; omega
  simp (maxSteps := 4000000) only [go_sem, ↓reduceIte, reduceCtorEq, Nat.reduceEqDiff, Nat.reduceBEq, Nat.reduceAdd, Nat.reduceSub, Nat.reduceMul, Nat.reduceLT, Nat.reduceLeDiff, Nat.reduceBNe, Int.reduceBEq, Int.reduceBNe, Int.reduceLT, Int.reduceLE, evW, retM, sh]
  refine run_loop (rotInv K H r f (P.length + A.length) (P ++ B ++ A ++ R)) (k := A.length + B.length) ⟨P, A, B, R, hA, hB, rfl, rfl, rfl, ?_, ?_, ?_, ?_, ?_, ?_⟩ ?_
  · (simp (maxSteps := 4000000) only [go_sem, ↓reduceIte, reduceCtorEq, Nat.reduceEqDiff, Nat.reduceBEq, Nat.reduceAdd, Nat.reduceSub, Nat.reduceMul, Nat.reduceLT, Nat.reduceLeDiff, Nat.reduceBNe, Int.reduceBEq, Int.reduceBNe, Int.reduceLT, Int.reduceLE, evW, retM, sh, hN])
  · (simp (maxSteps := 4000000) only [go_sem, ↓reduceIte, reduceCtorEq, Nat.reduceEqDiff, Nat.reduceBEq, Nat.reduceAdd, Nat.reduceSub, Nat.reduceMul, Nat.reduceLT, Nat.reduceLeDiff, Nat.reduceBNe, Int.reduceBEq, Int.reduceBNe, Int.reduceLT, Int.reduceLE, evW, retM, sh])
  · (simp (maxSteps := 4000000) only [go_sem, ↓reduceIte, reduceCtorEq, Nat.reduceEqDiff, Nat.reduceBEq, Nat.reduceAdd, Nat.reduceSub, Nat.reduceMul, Nat.reduceLT, Nat.reduceLeDiff, Nat.reduceBNe, Int.reduceBEq, Int.reduceBNe, Int.reduceLT, Int.reduceLE, evW, retM, sh])
  · (simp (maxSteps := 4000000) only [go_sem, ↓reduceIte, reduceCtorEq, Nat.reduceEqDiff, Nat.reduceBEq, Nat.reduceAdd, Nat.reduceSub, Nat.reduceMul, Nat.reduceLT, Nat.reduceLeDiff, Nat.reduceBNe, Int.reduceBEq, Int.reduceBNe, Int.reduceLT, Int.reduceLE, evW, retM, sh, wi])
  · (simp (maxSteps := 4000000) only [go_sem, ↓reduceIte, reduceCtorEq, Nat.reduceEqDiff, Nat.reduceBEq, Nat.reduceAdd, Nat.reduceSub, Nat.reduceMul, Nat.reduceLT, Nat.reduceLeDiff, Nat.reduceBNe, Int.reduceBEq, Int.reduceBNe, Int.reduceLT, Int.reduceLE, evW, retM, sh, wj])
  · refine ⟨fun q hq => ?_, ?_⟩
    · simp (maxSteps := 4000000) only [go_sem, ↓reduceIte, reduceCtorEq, Nat.reduceEqDiff, Nat.reduceBEq, Nat.reduceAdd, Nat.reduceSub, Nat.reduceMul, Nat.reduceLT, Nat.reduceLeDiff, Nat.reduceBNe, Int.reduceBEq, Int.reduceBNe, Int.reduceLT, Int.reduceLE, evW, retM]
    · simp (maxSteps := 4000000) only [go_sem, ↓reduceIte, reduceCtorEq, Nat.reduceEqDiff, Nat.reduceBEq, Nat.reduceAdd, Nat.reduceSub, Nat.reduceMul, Nat.reduceLT, Nat.reduceLeDiff, Nat.reduceBNe, Int.reduceBEq, Int.reduceBNe, Int.reduceLT, Int.reduceLE, evW, retM, hr]
  rintro k σ ⟨P', A', B', R', hA', hB', rfl, hF, hm, t0, t2, t4, t10, t11, hH⟩
  have hl : (P' ++ B' ++ A' ++ R').length = (P ++ B ++ A ++ R).length := by rw [hF]
  have hl' : (P' ++ A' ++ B' ++ R').length = (P ++ B ++ A ++ R).length := by rw [← hl]; simp only [List.length_append]; omega
  have hn' : (P' ++ A' ++ B' ++ R').length = P'.length + A'.length + B'.length + R'.length := by simp only [List.length_append]
  simp only [r_rotE_l8]
  have c1 := hH.2
  have hb2 : (P' ++ A' ++ B' ++ R').length ≤ 1000000 := by omega
  have wm : IntKind.i64.wrap (((P.length + A.length : Nat) : Int) - (A'.length : Int)) = (P'.length : Int) := by rw [wrapN (by omega)]; omega
  by_cases heq : A'.length = B'.length
  case pos =>
    have he : ((A'.length : Int) != (B'.length : Int)) = false := by rw [heq]; simp
    simp (maxSteps := 4000000) only [go_sem, ↓reduceIte, reduceCtorEq, Nat.reduceEqDiff, Nat.reduceBEq, Nat.reduceAdd, Nat.reduceSub, Nat.reduceMul, Nat.reduceLT, Nat.reduceLeDiff, Nat.reduceBNe, Int.reduceBEq, Int.reduceBNe, Int.reduceLT, Int.reduceLE, evW, retM, t0, t2, t4, t10, t11, he, wm, made_Hf]
    refine mcalling (swR_at K σ.H (r + 1000) (X' := P ++ B ++ A ++ R) (P := P') (U := A') (Q := []) (V := B') (R := R') _ (by simp) (by rw [← hF]; simp) heq hb2 (by rw [hl']) rfl (by rw [hm]; simp) rfl c1) ?_
    simp (maxSteps := 4000000) only [go_sem, ↓reduceIte, reduceCtorEq, Nat.reduceEqDiff, Nat.reduceBEq, Nat.reduceAdd, Nat.reduceSub, Nat.reduceMul, Nat.reduceLT, Nat.reduceLeDiff, Nat.reduceBNe, Int.reduceBEq, Int.reduceBNe, Int.reduceLT, Int.reduceLE, evW, retM, t0]
    intro q
    by_cases hq : q = r
    · rw [if_pos hq, if_pos hq]
    · rw [if_neg hq, if_neg hq]; exact hH.1 q hq
  have he : ((A'.length : Int) != (B'.length : Int)) = true := by simp; omega
  by_cases hgt : B'.length < A'.length
  case pos =>
    have hg : decide ((B'.length : Int) < (A'.length : Int)) = true := by simp; omega
    have wk : IntKind.i64.wrap ((A'.length : Int) - (B'.length : Int)) = ((A'.length - B'.length : Nat) : Int) := by rw [wrapN (by omega)]; omega
    simp (maxSteps := 4000000) only [go_sem, ↓reduceIte, reduceCtorEq, Nat.reduceEqDiff, Nat.reduceBEq, Nat.reduceAdd, Nat.reduceSub, Nat.reduceMul, Nat.reduceLT, Nat.reduceLeDiff, Nat.reduceBNe, Int.reduceBEq, Int.reduceBNe, Int.reduceLT, Int.reduceLE, evW, retM, t0, t2, t4, t10, t11, he, hg, wm, made_Hf]
    refine mcalling (swR_at K σ.H (r + 1000) (X' := P' ++ B' ++ A'.drop B'.length ++ A'.take B'.length ++ R') (P := P') (U := A'.take B'.length) (Q := A'.drop B'.length) (V := B') (R := R') _ (by rw [List.append_assoc P' (A'.take B'.length) (A'.drop B'.length), List.take_append_drop]) rfl (by rw [List.length_take]; omega) hb2 (by rw [hl']) rfl (by rw [hm, List.length_take, List.length_drop]; omega) (by rw [List.length_take]; omega) c1) ?_
    have c2 := only_upd K (X' := P' ++ B' ++ A'.drop B'.length ++ A'.take B'.length ++ R') hH
    simp (maxSteps := 4000000) only [go_sem, ↓reduceIte, reduceCtorEq, Nat.reduceEqDiff, Nat.reduceBEq, Nat.reduceAdd, Nat.reduceSub, Nat.reduceMul, Nat.reduceLT, Nat.reduceLeDiff, Nat.reduceBNe, Int.reduceBEq, Int.reduceBNe, Int.reduceLT, Int.reduceLE, evW, retM, t0, t2, t4, t10, t11, wk, made_Hf]
    refine ⟨A'.length, by omega, P' ++ B', A'.drop B'.length, A'.take B'.length, R', by rw [List.length_drop]; omega, by rw [List.length_take]; omega, by rw [List.length_take, List.length_drop]; omega, ?_, by rw [List.length_append, List.length_drop]; omega, ?_, ?_, ?_, ?_, ?_, ?_⟩
    · rw [← hF, List.append_assoc (P' ++ B'), List.take_append_drop]
    · (simp (maxSteps := 4000000) only [go_sem, ↓reduceIte, reduceCtorEq, Nat.reduceEqDiff, Nat.reduceBEq, Nat.reduceAdd, Nat.reduceSub, Nat.reduceMul, Nat.reduceLT, Nat.reduceLeDiff, Nat.reduceBNe, Int.reduceBEq, Int.reduceBNe, Int.reduceLT, Int.reduceLE, evW, retM, t0])
    · (simp (maxSteps := 4000000) only [go_sem, ↓reduceIte, reduceCtorEq, Nat.reduceEqDiff, Nat.reduceBEq, Nat.reduceAdd, Nat.reduceSub, Nat.reduceMul, Nat.reduceLT, Nat.reduceLeDiff, Nat.reduceBNe, Int.reduceBEq, Int.reduceBNe, Int.reduceLT, Int.reduceLE, evW, retM, t2])
    · (simp (maxSteps := 4000000) only [go_sem, ↓reduceIte, reduceCtorEq, Nat.reduceEqDiff, Nat.reduceBEq, Nat.reduceAdd, Nat.reduceSub, Nat.reduceMul, Nat.reduceLT, Nat.reduceLeDiff, Nat.reduceBNe, Int.reduceBEq, Int.reduceBNe, Int.reduceLT, Int.reduceLE, evW, retM, t4])
    · (simp (maxSteps := 4000000) only [go_sem, ↓reduceIte, reduceCtorEq, Nat.reduceEqDiff, Nat.reduceBEq, Nat.reduceAdd, Nat.reduceSub, Nat.reduceMul, Nat.reduceLT, Nat.reduceLeDiff, Nat.reduceBNe, Int.reduceBEq, Int.reduceBNe, Int.reduceLT, Int.reduceLE, evW, retM, List.length_drop])
    · have : min B'.length A'.length = B'.length := by omega
      (simp (maxSteps := 4000000) only [go_sem, ↓reduceIte, reduceCtorEq, Nat.reduceEqDiff, Nat.reduceBEq, Nat.reduceAdd, Nat.reduceSub, Nat.reduceMul, Nat.reduceLT, Nat.reduceLeDiff, Nat.reduceBNe, Int.reduceBEq, Int.reduceBNe, Int.reduceLT, Int.reduceLE, evW, retM, t11, List.length_take, this])
    · exact c2
  have hg : decide ((B'.length : Int) < (A'.length : Int)) = false := by simp; omega
  have wk : IntKind.i64.wrap ((B'.length : Int) - (A'.length : Int)) = ((B'.length - A'.length : Nat) : Int) := by rw [wrapN (by omega)]; omega
  have wb : IntKind.i64.wrap (IntKind.i64.wrap (((P.length + A.length : Nat) : Int) + (B'.length : Int)) - (A'.length : Int)) = ((P.length + A.length + (B'.length - A'.length) : Nat) : Int) := by
    have w1 : IntKind.i64.wrap (((P.length + A.length : Nat) : Int) + (B'.length : Int)) = ((P.length + A.length + B'.length : Nat) : Int) := by rw [wrapN (by omega)]; omega
    rw [w1, wrapN (by omega)]; omega
  simp (maxSteps := 4000000) only [go_sem, ↓reduceIte, reduceCtorEq, Nat.reduceEqDiff, Nat.reduceBEq, Nat.reduceAdd, Nat.reduceSub, Nat.reduceMul, Nat.reduceLT, Nat.reduceLeDiff, Nat.reduceBNe, Int.reduceBEq, Int.reduceBNe, Int.reduceLT, Int.reduceLE, evW, retM, t0, t2, t4, t10, t11, he, hg, wm, wb, made_Hf]
  refine mcalling (swR_at K σ.H (r + 1000) (X' := P' ++ B'.drop (B'.length - A'.length) ++ B'.take (B'.length - A'.length) ++ A' ++ R') (P := P') (U := A') (Q := B'.take (B'.length - A'.length)) (V := B'.drop (B'.length - A'.length)) (R := R') _ (by rw [List.append_assoc (P' ++ A') (B'.take (B'.length - A'.length)) (B'.drop (B'.length - A'.length)), List.take_append_drop]) rfl (by rw [List.length_drop]; omega) hb2 (by rw [hl']) rfl (by rw [hm, List.length_take]; omega) rfl c1) ?_
  have c2 := only_upd K (X' := P' ++ B'.drop (B'.length - A'.length) ++ B'.take (B'.length - A'.length) ++ A' ++ R') hH
  simp (maxSteps := 4000000) only [go_sem, ↓reduceIte, reduceCtorEq, Nat.reduceEqDiff, Nat.reduceBEq, Nat.reduceAdd, Nat.reduceSub, Nat.reduceMul, Nat.reduceLT, Nat.reduceLeDiff, Nat.reduceBNe, Int.reduceBEq, Int.reduceBNe, Int.reduceLT, Int.reduceLE, evW, retM, t0, t2, t4, t10, t11, wk, made_Hf]
  refine ⟨B'.length, by omega, P', B'.drop (B'.length - A'.length), B'.take (B'.length - A'.length), A' ++ R', by rw [List.length_drop]; omega, by rw [List.length_take]; omega, by rw [List.length_take, List.length_drop]; omega, ?_, by rw [List.length_drop]; omega, ?_, ?_, ?_, ?_, ?_, ?_⟩
  · rw [← hF, List.append_assoc P', List.take_append_drop]; simp
  · (simp (maxSteps := 4000000) only [go_sem, ↓reduceIte, reduceCtorEq, Nat.reduceEqDiff, Nat.reduceBEq, Nat.reduceAdd, Nat.reduceSub, Nat.reduceMul, Nat.reduceLT, Nat.reduceLeDiff, Nat.reduceBNe, Int.reduceBEq, Int.reduceBNe, Int.reduceLT, Int.reduceLE, evW, retM, t0])
  · (simp (maxSteps := 4000000) only [go_sem, ↓reduceIte, reduceCtorEq, Nat.reduceEqDiff, Nat.reduceBEq, Nat.reduceAdd, Nat.reduceSub, Nat.reduceMul, Nat.reduceLT, Nat.reduceLeDiff, Nat.reduceBNe, Int.reduceBEq, Int.reduceBNe, Int.reduceLT, Int.reduceLE, evW, retM, t2])
  · (simp (maxSteps := 4000000) only [go_sem, ↓reduceIte, reduceCtorEq, Nat.reduceEqDiff, Nat.reduceBEq, Nat.reduceAdd, Nat.reduceSub, Nat.reduceMul, Nat.reduceLT, Nat.reduceLeDiff, Nat.reduceBNe, Int.reduceBEq, Int.reduceBNe, Int.reduceLT, Int.reduceLE, evW, retM, t4])
  · have : B'.length - (B'.length - A'.length) = A'.length := by omega
    (simp (maxSteps := 4000000) only [go_sem, ↓reduceIte, reduceCtorEq, Nat.reduceEqDiff, Nat.reduceBEq, Nat.reduceAdd, Nat.reduceSub, Nat.reduceMul, Nat.reduceLT, Nat.reduceLeDiff, Nat.reduceBNe, Int.reduceBEq, Int.reduceBNe, Int.reduceLT, Int.reduceLE, evW, retM, t10, List.length_drop, this])
  · have : min (B'.length - A'.length) B'.length = B'.length - A'.length := by omega
    (simp (maxSteps := 4000000) only [go_sem, ↓reduceIte, reduceCtorEq, Nat.reduceEqDiff, Nat.reduceBEq, Nat.reduceAdd, Nat.reduceSub, Nat.reduceMul, Nat.reduceLT, Nat.reduceLeDiff, Nat.reduceBNe, Int.reduceBEq, Int.reduceBNe, Int.reduceLT, Int.reduceLE, evW, retM, List.length_take, this])
  · rw [← List.append_assoc]; exact c2
end
end
section
/-
  Insertion sort of a slice that was handed on: the library's code, walked.
-/
open Go.RowKit
set_option linter.unusedVariables false
set_option linter.unusedSimpArgs false
set_option maxRecDepth 100000
attribute [local go_sem ↓] runOp headOp
/-! ### slices.insertionSortCmpFunc[percolate/api.Event] -/
def r_insS_0 : List XOp := [(.op [] ⟨(.mv (.t 1)), (some 10), none, [], []⟩), (.op [] ⟨(.bin .add (.t 10) (.c (.int .i64 1))), (some 11), none, [], []⟩), (.op [] ⟨(.mv (.t 11)), (some 8), none, [], []⟩)]
def r_insS_1 : List XOp := [(.op [] ⟨(.mv (.t 8)), (some 12), none, [], []⟩), (.op [] ⟨(.mv (.t 2)), (some 13), none, [], []⟩), (.op [] ⟨(.bin .lss (.t 12) (.t 13)), (some 14), none, [], []⟩)]
def r_insS_2 : List XOp := [(.op [] ⟨(.mv (.t 8)), (some 17), none, [], []⟩), (.op [] ⟨(.mv (.t 17)), (some 9), none, [], []⟩)]
def t_insS_3 : List ROp := [⟨(.callv (.t 22) [(.t 26), (.t 31)]), (some 32), (some (21, true)), [], []⟩, ⟨(.bin .lss (.t 32) (.c (.int .i64 0))), (some 33), (some (21, true)), [], []⟩, ⟨(.pick (.t 21) (.t 33) (.c (.bool false))), (some 34), none, [], []⟩]
def h_insS_3 : List ROp := [⟨(.mv (.t 9)), (some 18), none, [32], []⟩, ⟨(.mv (.t 1)), (some 19), none, [32], []⟩, ⟨(.bin .gtr (.t 18) (.t 19)), (some 20), none, [32], []⟩, ⟨(.mv (.t 20)), (some 21), none, [32], []⟩, ⟨(.mv (.t 3)), (some 22), (some (21, true)), [32], []⟩, ⟨(.mv (.t 0)), (some 23), (some (21, true)), [32], []⟩, ⟨(.mv (.t 9)), (some 24), (some (21, true)), [32], []⟩, ⟨(.iaddr 15 (.t 23) (.t 24)), (some 25), (some (21, true)), [32], []⟩, ⟨(.load 15 true (.t 25)), (some 26), (some (21, true)), [32], []⟩, ⟨(.mv (.t 0)), (some 27), (some (21, true)), [32], []⟩, ⟨(.mv (.t 9)), (some 28), (some (21, true)), [32], []⟩, ⟨(.bin .sub (.t 28) (.c (.int .i64 1))), (some 29), (some (21, true)), [32], []⟩, ⟨(.iaddr 15 (.t 27) (.t 29)), (some 30), (some (21, true)), [32], []⟩, ⟨(.load 15 true (.t 30)), (some 31), (some (21, true)), [32], []⟩]
def r_insS_3 : Reg := ⟨h_insS_3, t_insS_3, [32], [], true⟩
def r_insS_4 : Reg := ⟨[⟨(.mv (.t 0)), (some 37), none, [], []⟩, ⟨(.mv (.t 9)), (some 38), none, [], []⟩, ⟨(.mv (.t 0)), (some 39), none, [], []⟩, ⟨(.mv (.t 9)), (some 40), none, [], []⟩, ⟨(.bin .sub (.t 40) (.c (.int .i64 1))), (some 41), none, [], []⟩, ⟨(.mv (.t 0)), (some 42), none, [], []⟩, ⟨(.mv (.t 9)), (some 43), none, [], []⟩, ⟨(.bin .sub (.t 43) (.c (.int .i64 1))), (some 44), none, [], []⟩, ⟨(.iaddr 15 (.t 42) (.t 44)), (some 45), none, [], []⟩, ⟨(.load 15 true (.t 45)), (some 46), none, [], []⟩, ⟨(.mv (.t 0)), (some 47), none, [], []⟩, ⟨(.mv (.t 9)), (some 48), none, [], []⟩, ⟨(.iaddr 15 (.t 47) (.t 48)), (some 49), none, [], []⟩, ⟨(.load 15 true (.t 49)), (some 50), none, [], []⟩, ⟨(.iaddr 15 (.t 37) (.t 38)), (some 51), none, [], []⟩, ⟨(.store 15 (.t 51) (.t 46)), none, none, [], [0]⟩], [⟨(.iaddr 15 (.t 39) (.t 41)), (some 52), none, [], []⟩, ⟨(.store 15 (.t 52) (.t 50)), none, none, [], [0]⟩], [], [], true⟩
def r_insS_5 : List XOp := [(.op [] ⟨(.mv (.t 9)), (some 35), none, [], []⟩), (.op [] ⟨(.bin .sub (.t 35) (.c (.int .i64 1))), (some 36), none, [], []⟩), (.op [] ⟨(.mv (.t 36)), (some 9), none, [], []⟩)]
def r_insS_l6 (P : Program) : IR := (.seq (.seq (.reg r_insS_3)
  (.cond (.t 34) .skip
  (.exit 2)))
  (.seq (.block 3 (.regw r_insS_4 0))
  (.regx P r_insS_5)))
def r_insS_7 : List XOp := [(.op [] ⟨(.mv (.t 8)), (some 15), none, [], []⟩), (.op [] ⟨(.bin .add (.t 15) (.c (.int .i64 1))), (some 16), none, [], []⟩), (.op [] ⟨(.mv (.t 16)), (some 8), none, [], []⟩)]
def r_insS_l8 (P : Program) : IR := (.seq (.seq (.regx P r_insS_1)
  (.cond (.t 14) .skip
  (.exit 0)))
  (.seq (.block 1 (.seq (.regx P r_insS_2)
  (.block 2 (.loop (r_insS_l6 P)))))
  (.regx P r_insS_7)))
def ir_insS (P : Program) : IR := (.seq (.regx P r_insS_0)
  (.block 0 (.loop (r_insS_l8 P))))
def res_insS : List RDesc := []
theorem e_insS_3 (C : FuncId → List AV → AV → Prop) (σ : St) (K : St → Prop) : runReg C r_insS_3 σ K = runHead C [] t_insS_3 h_insS_3 (σ.kills [32]) K := rfl
theorem e_insS_4 (C : FuncId → List AV → AV → Prop) (σ : St) (K : St → Prop) (q : Nat) : runReg C (Reg.ren 0 q r_insS_4) σ K = runHead C [] [⟨(.iaddr 15 (.t 39) (.t 41)), (some 52), none, [], []⟩, ⟨(.store 15 (.t 52) (.t 50)), none, none, [], [q]⟩] [⟨(.mv (.t 0)), (some 37), none, [], []⟩, ⟨(.mv (.t 9)), (some 38), none, [], []⟩, ⟨(.mv (.t 0)), (some 39), none, [], []⟩, ⟨(.mv (.t 9)), (some 40), none, [], []⟩, ⟨(.bin .sub (.t 40) (.c (.int .i64 1))), (some 41), none, [], []⟩, ⟨(.mv (.t 0)), (some 42), none, [], []⟩, ⟨(.mv (.t 9)), (some 43), none, [], []⟩, ⟨(.bin .sub (.t 43) (.c (.int .i64 1))), (some 44), none, [], []⟩, ⟨(.iaddr 15 (.t 42) (.t 44)), (some 45), none, [], []⟩, ⟨(.load 15 true (.t 45)), (some 46), none, [], []⟩, ⟨(.mv (.t 0)), (some 47), none, [], []⟩, ⟨(.mv (.t 9)), (some 48), none, [], []⟩, ⟨(.iaddr 15 (.t 47) (.t 48)), (some 49), none, [], []⟩, ⟨(.load 15 true (.t 49)), (some 50), none, [], []⟩, ⟨(.iaddr 15 (.t 37) (.t 38)), (some 51), none, [], []⟩, ⟨(.store 15 (.t 51) (.t 46)), none, none, [], [q]⟩] (σ.kills []) K := rfl
theorem fnm_insS {args : List AV} {r : AV} {H H' : Nat → Option Arr} (ha : args.length.ble Try.f53.ntmps = true) (h : run (AFn Try.prog) (ir_insS Try.prog) (endM res_insS r H') (initM args H)) : MFn Try.prog 53 args H r H' :=
  MFn.of_code (pv := false) (hint := fun _ => [1]) (c := Try.f53.body.getD .skip) (by kernel_rfl) (by kernel_rfl) Try.func53 (by kernel_rfl) (by kernel_rfl) (by kernel_rfl) (of_decide_eq_true (by kernel_rfl)) (Nat.le_of_ble_eq_true ha) (Nat.le_of_ble_eq_true (by kernel_rfl)) (run_ok h)
attribute [local go_sem ↓] ir_insS
attribute [local go_sem] res_insS e_insS_3 t_insS_3 h_insS_3 e_insS_4 r_insS_0 r_insS_1 r_insS_2 r_insS_5 r_insS_7
/-- a comparison -/
def CmpOk {α : Type} (K : Kind15 α) (key : α → Int) (f : FuncId) (c : α → α → Int) : Prop := ∀ x y, AFn Try.prog f [.agg (K.c x), .agg (K.c y)] (.int .i64 (c x y)) ∧ (c x y < 0 ↔ key x < key y)
theorem atU {α : Type} (K : Kind15 α) {l : List α} {j : Nat} {x : α} (h : l[j]? = some x) : (List.map (fun x => AV.agg (K.c x)) l).getD j .und = .agg (K.c x) := atS (f := K.f) h
theorem midAt {α : Type} (A : List α) (x : α) (B : List α) : (A ++ [x] ++ B)[A.length]? = some x := by simp
theorem lst_snoc {α : Type} : ∀ (l : List α), l ≠ [] → ∃ s z, l = s ++ [z]
  | [], h => absurd rfl h
  | x :: l, _ => ⟨(x :: l).dropLast, (x :: l).getLast (by simp), (List.dropLast_concat_getLast (by simp)).symm⟩
section
variable {α : Type} (K : Kind15 α) (key : α → Int)
def insI (H : Nat → Option Arr) (r f : Nat) (P S R : List α) (x : α) (b i : Int) (N k : Nat) (σ : St) : Prop :=
  ∃ S1 S2 : List α, S1 ++ S2 = S ∧ (∀ y, y ∈ S2 → key x < key y) ∧ k = S1.length ∧ σ.T 0 = .rs (r + 1000) 0 N ∧ σ.T 1 = .int .i64 P.length ∧ σ.T 2 = .int .i64 b ∧ σ.T 3 = .clo f [] [] ∧ σ.T 8 = .int .i64 i ∧ σ.T 9 = .int .i64 ((P.length + S1.length : Nat) : Int) ∧
    only K H σ.H r (P ++ S1 ++ [x] ++ S2 ++ R)
def insE (H : Nat → Option Arr) (r f : Nat) (P S R : List α) (x : α) (b i : Int) (N : Nat) (σ : St) : Prop :=
  σ.T 0 = .rs (r + 1000) 0 N ∧ σ.T 1 = .int .i64 P.length ∧ σ.T 2 = .int .i64 b ∧ σ.T 3 = .clo f [] [] ∧ σ.T 8 = .int .i64 i ∧ only K H σ.H r (P ++ srt key (S ++ [x]) ++ R)
set_option maxHeartbeats 8000000 in
theorem ins_loop {f : FuncId} {c : α → α → Int} (hc : CmpOk K key f c) (H : Nat → Option Arr) (r : Nat) (P S R : List α) (x : α) (b i : Int) (N : Nat) (hS : Rise key S) (hN : P.length + S.length + 1 + R.length = N) (hb : N ≤ 1000000) (Q : XK → St → Prop)
    (hEnd : ∀ σ, insE K key H r f P S R x b i N σ → Q (.exit 2) σ) (k : Nat) (σ : St) (hI : insI K key H r f P S R x b i N k σ) :
    run (AFn Try.prog) (r_insS_l6 Try.prog) (thenQ (fun σ' => ∃ m, m < k ∧ insI K key H r f P S R x b i N m σ') Q) σ := by
  obtain ⟨S1, S2, hS12, h2, rfl, t0, t1, t2, t3, t8, t9, hH⟩ := hI
  simp only [r_insS_l6]
  have fin : ∀ σ' : St, S1 ++ [x] ++ S2 = srt key (S ++ [x]) → σ'.T 0 = .rs (r + 1000) 0 N → σ'.T 1 = .int .i64 P.length → σ'.T 2 = .int .i64 b → σ'.T 3 = .clo f [] [] → σ'.T 8 = .int .i64 i → (∀ q, q ≠ r → σ'.H (q + 1000) = σ.H (q + 1000)) → σ'.H (r + 1000) = σ.H (r + 1000) → insE K key H r f P S R x b i N σ' := fun σ' e a0 a1 a2 a3 a8 b1 b2 =>
    ⟨a0, a1, a2, a3, a8, fun q hq => by rw [b1 q hq]; exact hH.1 q hq, by rw [b2, hH.2, ← e]; simp⟩
  by_cases hnil : S1 = []
  case pos =>
    subst hnil
    have hgt : ¬ ((P.length : Int) < (P.length : Int)) := by omega
    have e : [] ++ [x] ++ S2 = srt key (S ++ [x]) := by
      rw [← hS12]
      exact merge_one_right key (A1 := []) (by rw [hS12]; exact hS) (by simp) h2
    simp (maxSteps := 4000000) only [go_sem, ↓reduceIte, reduceCtorEq, Nat.reduceEqDiff, Nat.reduceBEq, Nat.reduceAdd, Nat.reduceSub, Nat.reduceMul, Nat.reduceLT, Nat.reduceLeDiff, Nat.reduceBNe, Int.reduceBEq, Int.reduceBNe, Int.reduceLT, Int.reduceLE, evW, retM, t0, t1, t2, t3, t8, t9, hgt]
    (repeat refine And.intro (by omega) ?_)
    refine hEnd _ (fin _ e ?_ ?_ ?_ ?_ ?_ ?_ ?_)
    · simp (maxSteps := 4000000) only [go_sem, ↓reduceIte, reduceCtorEq, Nat.reduceEqDiff, Nat.reduceBEq, Nat.reduceAdd, Nat.reduceSub, Nat.reduceMul, Nat.reduceLT, Nat.reduceLeDiff, Nat.reduceBNe, Int.reduceBEq, Int.reduceBNe, Int.reduceLT, Int.reduceLE, evW, retM, t0]
    · simp (maxSteps := 4000000) only [go_sem, ↓reduceIte, reduceCtorEq, Nat.reduceEqDiff, Nat.reduceBEq, Nat.reduceAdd, Nat.reduceSub, Nat.reduceMul, Nat.reduceLT, Nat.reduceLeDiff, Nat.reduceBNe, Int.reduceBEq, Int.reduceBNe, Int.reduceLT, Int.reduceLE, evW, retM, t1]
    · simp (maxSteps := 4000000) only [go_sem, ↓reduceIte, reduceCtorEq, Nat.reduceEqDiff, Nat.reduceBEq, Nat.reduceAdd, Nat.reduceSub, Nat.reduceMul, Nat.reduceLT, Nat.reduceLeDiff, Nat.reduceBNe, Int.reduceBEq, Int.reduceBNe, Int.reduceLT, Int.reduceLE, evW, retM, t2]
    · simp (maxSteps := 4000000) only [go_sem, ↓reduceIte, reduceCtorEq, Nat.reduceEqDiff, Nat.reduceBEq, Nat.reduceAdd, Nat.reduceSub, Nat.reduceMul, Nat.reduceLT, Nat.reduceLeDiff, Nat.reduceBNe, Int.reduceBEq, Int.reduceBNe, Int.reduceLT, Int.reduceLE, evW, retM, t3]
    · simp (maxSteps := 4000000) only [go_sem, ↓reduceIte, reduceCtorEq, Nat.reduceEqDiff, Nat.reduceBEq, Nat.reduceAdd, Nat.reduceSub, Nat.reduceMul, Nat.reduceLT, Nat.reduceLeDiff, Nat.reduceBNe, Int.reduceBEq, Int.reduceBNe, Int.reduceLT, Int.reduceLE, evW, retM, t8]
    · intro q hq
      simp (maxSteps := 4000000) only [go_sem, ↓reduceIte, reduceCtorEq, Nat.reduceEqDiff, Nat.reduceBEq, Nat.reduceAdd, Nat.reduceSub, Nat.reduceMul, Nat.reduceLT, Nat.reduceLeDiff, Nat.reduceBNe, Int.reduceBEq, Int.reduceBNe, Int.reduceLT, Int.reduceLE, evW, retM]
    · simp (maxSteps := 4000000) only [go_sem, ↓reduceIte, reduceCtorEq, Nat.reduceEqDiff, Nat.reduceBEq, Nat.reduceAdd, Nat.reduceSub, Nat.reduceMul, Nat.reduceLT, Nat.reduceLeDiff, Nat.reduceBNe, Int.reduceBEq, Int.reduceBNe, Int.reduceLT, Int.reduceLE, evW, retM]
  obtain ⟨S0, z, rfl⟩ := lst_snoc S1 hnil
  have hl1 : (S0 ++ [z]).length = S0.length + 1 := by simp
  have hsl := congrArg List.length hS12
  rw [List.length_append, hl1] at hsl
  have hgt : ((P.length : Int) < ((P.length + (S0 ++ [z]).length : Nat) : Int)) := by omega
  have hX := hH.2
  generalize hY : P ++ (S0 ++ [z]) ++ [x] ++ S2 ++ R = Y at hX
  have hYl : Y.length = N := by rw [← hY]; simp only [List.length_append, List.length_cons, List.length_nil]; omega
  have ga : Y[P.length + (S0 ++ [z]).length]? = some x := by
    rw [← hY, List.append_assoc _ S2 R]
    have := midAt (P ++ (S0 ++ [z])) x (S2 ++ R)
    rw [List.length_append] at this
    exact this
  have gb : Y[P.length + S0.length]? = some z := by
    have := midAt (P ++ S0) z ([x] ++ S2 ++ R)
    rw [List.length_append] at this
    rw [← hY]
    simp
  have hX2' := hX
  unfold ObjE Kind15.f at hX2'
  have wd : IntKind.i64.wrap (((P.length + (S0 ++ [z]).length : Nat) : Int) - 1) = ((P.length + S0.length : Nat) : Int) := by rw [wrapN (by omega)]; omega
  have ha := atU K ga
  have hb' := atU K gb
  have z0 : ∀ x : Nat, (0 : Int) ≤ (x : Int) := fun x => Int.natCast_nonneg x
  generalize hja : P.length + (S0 ++ [z]).length = ja at *
  generalize hjb : P.length + S0.length = jb at *
  have la : (ja : Int) < (N : Int) := by omega
  have lb : (jb : Int) < (N : Int) := by omega
  have la' : ja < Y.length := by omega
  have lb' : jb < Y.length := by omega
  have hk1 := K.take
  have hk2 := K.drop
  have hk3 := K.len
  have hk4 := K.one
  obtain ⟨c1, c2⟩ := hc x z
  have hr32 : (r + 1000 == 32) = false := by simp
  have hr32' : ¬ r + 1000 = 32 := by omega
  simp (maxSteps := 4000000) only [go_sem, ↓reduceIte, reduceCtorEq, Nat.reduceEqDiff, Nat.reduceBEq, Nat.reduceAdd, Nat.reduceSub, Nat.reduceMul, Nat.reduceLT, Nat.reduceLeDiff, Nat.reduceBNe, Int.reduceBEq, Int.reduceBNe, Int.reduceLT, Int.reduceLE, evW, retM, t0, t1, t2, t3, t8, t9, hgt, hr32, hX2', wd, la, lb, ha, hb', la', lb', hk1, hk2, hk3, hk4, z0, Int.toNat_natCast, List.length_map]
  refine calling c1 ?_
  by_cases hlt : c x z < 0
  case neg =>
    have e : S0 ++ [z] ++ [x] ++ S2 = srt key (S ++ [x]) := by
      rw [← hS12]
      refine merge_one_right key (by rw [hS12]; exact hS) (fun a hm => ?_) h2
      have hzx : key z ≤ key x := by
        have := fun h => hlt (c2.2 h)
        omega
      rcases List.mem_append.1 hm with h | h
      · have := Rise.cross (X := S0) (Y := [z]) (Rise.left (X := S0 ++ [z]) (Y := S2) (by rw [hS12]; exact hS)) a h z (by simp)
        omega
      · rw [List.mem_singleton.1 h]; exact hzx
    simp (maxSteps := 4000000) only [go_sem, ↓reduceIte, reduceCtorEq, Nat.reduceEqDiff, Nat.reduceBEq, Nat.reduceAdd, Nat.reduceSub, Nat.reduceMul, Nat.reduceLT, Nat.reduceLeDiff, Nat.reduceBNe, Int.reduceBEq, Int.reduceBNe, Int.reduceLT, Int.reduceLE, evW, retM, hlt]
    refine hEnd _ (fin _ e ?_ ?_ ?_ ?_ ?_ ?_ ?_)
    · simp (maxSteps := 4000000) only [go_sem, ↓reduceIte, reduceCtorEq, Nat.reduceEqDiff, Nat.reduceBEq, Nat.reduceAdd, Nat.reduceSub, Nat.reduceMul, Nat.reduceLT, Nat.reduceLeDiff, Nat.reduceBNe, Int.reduceBEq, Int.reduceBNe, Int.reduceLT, Int.reduceLE, evW, retM, t0]
    · simp (maxSteps := 4000000) only [go_sem, ↓reduceIte, reduceCtorEq, Nat.reduceEqDiff, Nat.reduceBEq, Nat.reduceAdd, Nat.reduceSub, Nat.reduceMul, Nat.reduceLT, Nat.reduceLeDiff, Nat.reduceBNe, Int.reduceBEq, Int.reduceBNe, Int.reduceLT, Int.reduceLE, evW, retM, t1]
    · simp (maxSteps := 4000000) only [go_sem, ↓reduceIte, reduceCtorEq, Nat.reduceEqDiff, Nat.reduceBEq, Nat.reduceAdd, Nat.reduceSub, Nat.reduceMul, Nat.reduceLT, Nat.reduceLeDiff, Nat.reduceBNe, Int.reduceBEq, Int.reduceBNe, Int.reduceLT, Int.reduceLE, evW, retM, t2]
    · simp (maxSteps := 4000000) only [go_sem, ↓reduceIte, reduceCtorEq, Nat.reduceEqDiff, Nat.reduceBEq, Nat.reduceAdd, Nat.reduceSub, Nat.reduceMul, Nat.reduceLT, Nat.reduceLeDiff, Nat.reduceBNe, Int.reduceBEq, Int.reduceBNe, Int.reduceLT, Int.reduceLE, evW, retM, t3]
    · simp (maxSteps := 4000000) only [go_sem, ↓reduceIte, reduceCtorEq, Nat.reduceEqDiff, Nat.reduceBEq, Nat.reduceAdd, Nat.reduceSub, Nat.reduceMul, Nat.reduceLT, Nat.reduceLeDiff, Nat.reduceBNe, Int.reduceBEq, Int.reduceBNe, Int.reduceLT, Int.reduceLE, evW, retM, t8]
    · intro q hq
      have hq2 : ¬ q + 1000 = 32 := by omega
      simp (maxSteps := 4000000) only [go_sem, ↓reduceIte, reduceCtorEq, Nat.reduceEqDiff, Nat.reduceBEq, Nat.reduceAdd, Nat.reduceSub, Nat.reduceMul, Nat.reduceLT, Nat.reduceLeDiff, Nat.reduceBNe, Int.reduceBEq, Int.reduceBNe, Int.reduceLT, Int.reduceLE, evW, retM, hq2]
    · have hq2 : ¬ r + 1000 = 32 := by omega
      simp (maxSteps := 4000000) only [go_sem, ↓reduceIte, reduceCtorEq, Nat.reduceEqDiff, Nat.reduceBEq, Nat.reduceAdd, Nat.reduceSub, Nat.reduceMul, Nat.reduceLT, Nat.reduceLeDiff, Nat.reduceBNe, Int.reduceBEq, Int.reduceBNe, Int.reduceLT, Int.reduceLE, evW, retM, hq2]
  obtain ⟨_, _, s1, hc', s2, _, _, lc'⟩ := Swp.of K ga gb (by omega)
  have hY2 : (Y.set ja z).set jb x = P ++ S0 ++ [x] ++ (z :: S2) ++ R := by
    rw [← hY, ← hja, ← hjb]
    have q1 : P ++ (S0 ++ [z]) ++ [x] ++ S2 ++ R = (P ++ (S0 ++ [z])) ++ x :: (S2 ++ R) := by simp
    have q2 : P.length + (S0 ++ [z]).length = (P ++ (S0 ++ [z])).length := by simp
    rw [q1, q2, List.set_append_right _ _ (Nat.le_refl _), Nat.sub_self, List.set_cons_zero]
    have q3 : P ++ (S0 ++ [z]) ++ z :: (S2 ++ R) = (P ++ S0) ++ z :: (z :: (S2 ++ R)) := by simp
    have q4 : P.length + S0.length = (P ++ S0).length := by simp
    rw [q3, q4, List.set_append_right _ _ (Nat.le_refl _), Nat.sub_self, List.set_cons_zero]
    simp
  simp (maxSteps := 4000000) only [go_sem, ↓reduceIte, reduceCtorEq, Nat.reduceEqDiff, Nat.reduceBEq, Nat.reduceAdd, Nat.reduceSub, Nat.reduceMul, Nat.reduceLT, Nat.reduceLeDiff, Nat.reduceBNe, Int.reduceBEq, Int.reduceBNe, Int.reduceLT, Int.reduceLE, evW, retM, hlt, t0, t1, t2, t3, t8, t9, hr32, hr32', hX2', wd, la, lb, ha, hb', s1, hc', s2, la', lb', lc', hk1, hk2, hk3, hk4, z0, Int.toNat_natCast, List.length_map]
  refine ⟨S0.length, by rw [hl1]; omega, S0, z :: S2, by rw [← hS12]; simp, fun y hy => ?_, rfl, ?_, ?_, ?_, ?_, ?_, ?_, ?_⟩
  · rcases List.mem_cons.1 hy with h | h
    · rw [h]; exact c2.1 hlt
    · exact h2 y h
  · simp (maxSteps := 4000000) only [go_sem, ↓reduceIte, reduceCtorEq, Nat.reduceEqDiff, Nat.reduceBEq, Nat.reduceAdd, Nat.reduceSub, Nat.reduceMul, Nat.reduceLT, Nat.reduceLeDiff, Nat.reduceBNe, Int.reduceBEq, Int.reduceBNe, Int.reduceLT, Int.reduceLE, evW, retM, t0]
  · simp (maxSteps := 4000000) only [go_sem, ↓reduceIte, reduceCtorEq, Nat.reduceEqDiff, Nat.reduceBEq, Nat.reduceAdd, Nat.reduceSub, Nat.reduceMul, Nat.reduceLT, Nat.reduceLeDiff, Nat.reduceBNe, Int.reduceBEq, Int.reduceBNe, Int.reduceLT, Int.reduceLE, evW, retM, t1]
  · simp (maxSteps := 4000000) only [go_sem, ↓reduceIte, reduceCtorEq, Nat.reduceEqDiff, Nat.reduceBEq, Nat.reduceAdd, Nat.reduceSub, Nat.reduceMul, Nat.reduceLT, Nat.reduceLeDiff, Nat.reduceBNe, Int.reduceBEq, Int.reduceBNe, Int.reduceLT, Int.reduceLE, evW, retM, t2]
  · simp (maxSteps := 4000000) only [go_sem, ↓reduceIte, reduceCtorEq, Nat.reduceEqDiff, Nat.reduceBEq, Nat.reduceAdd, Nat.reduceSub, Nat.reduceMul, Nat.reduceLT, Nat.reduceLeDiff, Nat.reduceBNe, Int.reduceBEq, Int.reduceBNe, Int.reduceLT, Int.reduceLE, evW, retM, t3]
  · simp (maxSteps := 4000000) only [go_sem, ↓reduceIte, reduceCtorEq, Nat.reduceEqDiff, Nat.reduceBEq, Nat.reduceAdd, Nat.reduceSub, Nat.reduceMul, Nat.reduceLT, Nat.reduceLeDiff, Nat.reduceBNe, Int.reduceBEq, Int.reduceBNe, Int.reduceLT, Int.reduceLE, evW, retM, t8]
  · simp (maxSteps := 4000000) only [go_sem, ↓reduceIte, reduceCtorEq, Nat.reduceEqDiff, Nat.reduceBEq, Nat.reduceAdd, Nat.reduceSub, Nat.reduceMul, Nat.reduceLT, Nat.reduceLeDiff, Nat.reduceBNe, Int.reduceBEq, Int.reduceBNe, Int.reduceLT, Int.reduceLE, evW, retM, hjb]
  · refine ⟨fun q hq => ?_, ?_⟩
    · have hq' : q + 1000 ≠ r + 1000 := by omega
      have hq2 : ¬ q + 1000 = 32 := by omega
      have := hH.1 q hq
      simp (maxSteps := 4000000) only [go_sem, ↓reduceIte, reduceCtorEq, Nat.reduceEqDiff, Nat.reduceBEq, Nat.reduceAdd, Nat.reduceSub, Nat.reduceMul, Nat.reduceLT, Nat.reduceLeDiff, Nat.reduceBNe, Int.reduceBEq, Int.reduceBNe, Int.reduceLT, Int.reduceLE, evW, retM, hq', hq2, this]
    · rw [← hY2]
      unfold ObjE Kind15.f
      simp (maxSteps := 4000000) only [go_sem, ↓reduceIte, reduceCtorEq, Nat.reduceEqDiff, Nat.reduceBEq, Nat.reduceAdd, Nat.reduceSub, Nat.reduceMul, Nat.reduceLT, Nat.reduceLeDiff, Nat.reduceBNe, Int.reduceBEq, Int.reduceBNe, Int.reduceLT, Int.reduceLE, evW, retM]
theorem rise_one (x : α) : Rise key [x] := by simp [Rise]
theorem srt_add (X : List α) (x : α) : srt key (srt key X ++ [x]) = srt key (X ++ [x]) := by
  have := srt_both key X [x]
  rw [srt_self key (X := [x]) (rise_one key x)] at this
  exact this
def insO (H : Nat → Option Arr) (r f : Nat) (P B R : List α) (N k : Nat) (σ : St) : Prop :=
  ∃ n : Nat, 1 ≤ n ∧ (n ≤ B.length ∨ B = []) ∧ k = B.length - n ∧ σ.T 0 = .rs (r + 1000) 0 N ∧ σ.T 1 = .int .i64 P.length ∧ σ.T 2 = .int .i64 ((P.length + B.length : Nat) : Int) ∧ σ.T 3 = .clo f [] [] ∧ σ.T 8 = .int .i64 ((P.length + n : Nat) : Int) ∧
    only K H σ.H r (P ++ srt key (B.take n) ++ B.drop n ++ R)
set_option maxHeartbeats 8000000 in
theorem insS_ok {f : FuncId} {c : α → α → Int} (hc : CmpOk K key f c) (H : Nat → Option Arr) (r : Nat) (P B R : List α) (hb : (P ++ B ++ R).length ≤ 1000000) (hr : H r = ObjE K (P ++ B ++ R)) :
    MFn Try.prog 53 [.rs r 0 (P ++ B ++ R).length, .int .i64 P.length, .int .i64 ((P.length + B.length : Nat) : Int), .clo f [] []] H (.tup []) (upd H r (ObjE K (P ++ srt key B ++ R))) := by
  refine fnm_insS rfl ?_
  have hn : (P ++ B ++ R).length = P.length + B.length + R.length := by simp only [List.length_append]
  have w1 : IntKind.i64.wrap ((P.length : Int) + 1) = ((P.length + 1 : Nat) : Int) := by rw [wrapN (by omega)]; omega
  have e1 : P ++ srt key (B.take 1) ++ B.drop 1 ++ R = P ++ B ++ R := by
    cases B with
    | nil => simp [srt, sortK]
    | cons x B => rw [List.take_succ_cons, List.take_zero, srt_self key (X := [x]) (rise_one key x)]; simp
  simp (maxSteps := 4000000) only [go_sem, ↓reduceIte, reduceCtorEq, Nat.reduceEqDiff, Nat.reduceBEq, Nat.reduceAdd, Nat.reduceSub, Nat.reduceMul, Nat.reduceLT, Nat.reduceLeDiff, Nat.reduceBNe, Int.reduceBEq, Int.reduceBNe, Int.reduceLT, Int.reduceLE, evW, retM, sh, w1]
  refine run_loop (insO K key H r f P B R (P ++ B ++ R).length) (k := B.length - 1) ⟨1, Nat.le_refl _, ?_, rfl, ?_, ?_, ?_, ?_, ?_, ?_⟩ ?_
  · cases B with
    | nil => exact .inr rfl
    | cons x B => exact .inl (by simp)
  · (simp (maxSteps := 4000000) only [go_sem, ↓reduceIte, reduceCtorEq, Nat.reduceEqDiff, Nat.reduceBEq, Nat.reduceAdd, Nat.reduceSub, Nat.reduceMul, Nat.reduceLT, Nat.reduceLeDiff, Nat.reduceBNe, Int.reduceBEq, Int.reduceBNe, Int.reduceLT, Int.reduceLE, evW, retM, sh])
  · (simp (maxSteps := 4000000) only [go_sem, ↓reduceIte, reduceCtorEq, Nat.reduceEqDiff, Nat.reduceBEq, Nat.reduceAdd, Nat.reduceSub, Nat.reduceMul, Nat.reduceLT, Nat.reduceLeDiff, Nat.reduceBNe, Int.reduceBEq, Int.reduceBNe, Int.reduceLT, Int.reduceLE, evW, retM, sh])
  · (simp (maxSteps := 4000000) only [go_sem, ↓reduceIte, reduceCtorEq, Nat.reduceEqDiff, Nat.reduceBEq, Nat.reduceAdd, Nat.reduceSub, Nat.reduceMul, Nat.reduceLT, Nat.reduceLeDiff, Nat.reduceBNe, Int.reduceBEq, Int.reduceBNe, Int.reduceLT, Int.reduceLE, evW, retM, sh])
  · (simp (maxSteps := 4000000) only [go_sem, ↓reduceIte, reduceCtorEq, Nat.reduceEqDiff, Nat.reduceBEq, Nat.reduceAdd, Nat.reduceSub, Nat.reduceMul, Nat.reduceLT, Nat.reduceLeDiff, Nat.reduceBNe, Int.reduceBEq, Int.reduceBNe, Int.reduceLT, Int.reduceLE, evW, retM, sh])
  · (simp (maxSteps := 4000000) only [go_sem, ↓reduceIte, reduceCtorEq, Nat.reduceEqDiff, Nat.reduceBEq, Nat.reduceAdd, Nat.reduceSub, Nat.reduceMul, Nat.reduceLT, Nat.reduceLeDiff, Nat.reduceBNe, Int.reduceBEq, Int.reduceBNe, Int.reduceLT, Int.reduceLE, evW, retM, sh])
  · refine ⟨fun q hq => ?_, ?_⟩
    · simp (maxSteps := 4000000) only [go_sem, ↓reduceIte, reduceCtorEq, Nat.reduceEqDiff, Nat.reduceBEq, Nat.reduceAdd, Nat.reduceSub, Nat.reduceMul, Nat.reduceLT, Nat.reduceLeDiff, Nat.reduceBNe, Int.reduceBEq, Int.reduceBNe, Int.reduceLT, Int.reduceLE, evW, retM]
    · rw [e1]
      simp (maxSteps := 4000000) only [go_sem, ↓reduceIte, reduceCtorEq, Nat.reduceEqDiff, Nat.reduceBEq, Nat.reduceAdd, Nat.reduceSub, Nat.reduceMul, Nat.reduceLT, Nat.reduceLeDiff, Nat.reduceBNe, Int.reduceBEq, Int.reduceBNe, Int.reduceLT, Int.reduceLE, evW, retM, hr]
  generalize hN : (P ++ B ++ R).length = N at *
  rintro k σ ⟨n, hn1, hn2, rfl, t0, t1, t2, t3, t8, hH⟩
  simp only [r_insS_l8]
  by_cases hlt : n < B.length
  case neg =>
    have hlt' : ¬ ((P.length + n : Nat) : Int) < ((P.length + B.length : Nat) : Int) := by omega
    have e : P ++ srt key (B.take n) ++ B.drop n ++ R = P ++ srt key B ++ R := by
      rw [List.take_of_length_le (by omega), List.drop_eq_nil_of_le (by omega), List.append_nil]
    rw [e] at hH
    have hf := only_end K hH
    simp (maxSteps := 4000000) only [go_sem, ↓reduceIte, reduceCtorEq, Nat.reduceEqDiff, Nat.reduceBEq, Nat.reduceAdd, Nat.reduceSub, Nat.reduceMul, Nat.reduceLT, Nat.reduceLeDiff, Nat.reduceBNe, Int.reduceBEq, Int.reduceBNe, Int.reduceLT, Int.reduceLE, evW, retM, t2, t8, hlt']
    exact hf
  have hlt' : ((P.length + n : Nat) : Int) < ((P.length + B.length : Nat) : Int) := by omega
  have hx : B.drop n = B[n] :: B.drop (n + 1) := List.drop_eq_getElem_cons hlt
  have htk : B.take (n + 1) = B.take n ++ [B[n]] := by rw [List.take_add_one, List.getElem?_eq_getElem hlt]; rfl
  generalize B[n] = x at hx htk
  have hsl : (srt key (B.take n)).length = n := by rw [srt_length, List.length_take]; omega
  have hdl : (B.drop (n + 1)).length = B.length - (n + 1) := List.length_drop
  have w2 : IntKind.i64.wrap (((P.length + n : Nat) : Int) + 1) = ((P.length + (n + 1) : Nat) : Int) := by rw [wrapN (by omega)]; omega
  simp (maxSteps := 4000000) only [go_sem, ↓reduceIte, reduceCtorEq, Nat.reduceEqDiff, Nat.reduceBEq, Nat.reduceAdd, Nat.reduceSub, Nat.reduceMul, Nat.reduceLT, Nat.reduceLeDiff, Nat.reduceBNe, Int.reduceBEq, Int.reduceBNe, Int.reduceLT, Int.reduceLE, evW, retM, t0, t1, t2, t3, t8, hlt']
  refine run_loop (insI K key H r f P (srt key (B.take n)) (B.drop (n + 1) ++ R) x ((P.length + B.length : Nat) : Int) ((P.length + n : Nat) : Int) N) (k := (srt key (B.take n)).length) ⟨srt key (B.take n), [], by simp, fun y hy => by (cases hy), rfl, ?_, ?_, ?_, ?_, ?_, ?_, ?_⟩ (ins_loop K key hc H r P (srt key (B.take n)) (B.drop (n + 1) ++ R) x _ _ N (srt_rise key _) (by rw [List.length_append]; omega) (by omega) _ ?_)
  · simp (maxSteps := 4000000) only [go_sem, ↓reduceIte, reduceCtorEq, Nat.reduceEqDiff, Nat.reduceBEq, Nat.reduceAdd, Nat.reduceSub, Nat.reduceMul, Nat.reduceLT, Nat.reduceLeDiff, Nat.reduceBNe, Int.reduceBEq, Int.reduceBNe, Int.reduceLT, Int.reduceLE, evW, retM, t0]
  · simp (maxSteps := 4000000) only [go_sem, ↓reduceIte, reduceCtorEq, Nat.reduceEqDiff, Nat.reduceBEq, Nat.reduceAdd, Nat.reduceSub, Nat.reduceMul, Nat.reduceLT, Nat.reduceLeDiff, Nat.reduceBNe, Int.reduceBEq, Int.reduceBNe, Int.reduceLT, Int.reduceLE, evW, retM, t1]
  · simp (maxSteps := 4000000) only [go_sem, ↓reduceIte, reduceCtorEq, Nat.reduceEqDiff, Nat.reduceBEq, Nat.reduceAdd, Nat.reduceSub, Nat.reduceMul, Nat.reduceLT, Nat.reduceLeDiff, Nat.reduceBNe, Int.reduceBEq, Int.reduceBNe, Int.reduceLT, Int.reduceLE, evW, retM, t2]
  · simp (maxSteps := 4000000) only [go_sem, ↓reduceIte, reduceCtorEq, Nat.reduceEqDiff, Nat.reduceBEq, Nat.reduceAdd, Nat.reduceSub, Nat.reduceMul, Nat.reduceLT, Nat.reduceLeDiff, Nat.reduceBNe, Int.reduceBEq, Int.reduceBNe, Int.reduceLT, Int.reduceLE, evW, retM, t3]
  · simp (maxSteps := 4000000) only [go_sem, ↓reduceIte, reduceCtorEq, Nat.reduceEqDiff, Nat.reduceBEq, Nat.reduceAdd, Nat.reduceSub, Nat.reduceMul, Nat.reduceLT, Nat.reduceLeDiff, Nat.reduceBNe, Int.reduceBEq, Int.reduceBNe, Int.reduceLT, Int.reduceLE, evW, retM, t8]
  · simp (maxSteps := 4000000) only [go_sem, ↓reduceIte, reduceCtorEq, Nat.reduceEqDiff, Nat.reduceBEq, Nat.reduceAdd, Nat.reduceSub, Nat.reduceMul, Nat.reduceLT, Nat.reduceLeDiff, Nat.reduceBNe, Int.reduceBEq, Int.reduceBNe, Int.reduceLT, Int.reduceLE, evW, retM, t8, hsl]
  · have e : P ++ srt key (B.take n) ++ [x] ++ [] ++ (B.drop (n + 1) ++ R) = P ++ srt key (B.take n) ++ B.drop n ++ R := by rw [hx]; simp
    rw [e]
    exact hH
  rintro σ2 ⟨s0, s1, s2, s3, s8, sH⟩
  simp (maxSteps := 4000000) only [go_sem, ↓reduceIte, reduceCtorEq, Nat.reduceEqDiff, Nat.reduceBEq, Nat.reduceAdd, Nat.reduceSub, Nat.reduceMul, Nat.reduceLT, Nat.reduceLeDiff, Nat.reduceBNe, Int.reduceBEq, Int.reduceBNe, Int.reduceLT, Int.reduceLE, evW, retM, s0, s1, s2, s3, s8, w2]
  refine ⟨B.length - (n + 1), by omega, n + 1, by omega, .inl (by omega), rfl, ?_, ?_, ?_, ?_, ?_, ?_⟩
  · simp (maxSteps := 4000000) only [go_sem, ↓reduceIte, reduceCtorEq, Nat.reduceEqDiff, Nat.reduceBEq, Nat.reduceAdd, Nat.reduceSub, Nat.reduceMul, Nat.reduceLT, Nat.reduceLeDiff, Nat.reduceBNe, Int.reduceBEq, Int.reduceBNe, Int.reduceLT, Int.reduceLE, evW, retM, s0]
  · simp (maxSteps := 4000000) only [go_sem, ↓reduceIte, reduceCtorEq, Nat.reduceEqDiff, Nat.reduceBEq, Nat.reduceAdd, Nat.reduceSub, Nat.reduceMul, Nat.reduceLT, Nat.reduceLeDiff, Nat.reduceBNe, Int.reduceBEq, Int.reduceBNe, Int.reduceLT, Int.reduceLE, evW, retM, s1]
  · simp (maxSteps := 4000000) only [go_sem, ↓reduceIte, reduceCtorEq, Nat.reduceEqDiff, Nat.reduceBEq, Nat.reduceAdd, Nat.reduceSub, Nat.reduceMul, Nat.reduceLT, Nat.reduceLeDiff, Nat.reduceBNe, Int.reduceBEq, Int.reduceBNe, Int.reduceLT, Int.reduceLE, evW, retM, s2]
  · simp (maxSteps := 4000000) only [go_sem, ↓reduceIte, reduceCtorEq, Nat.reduceEqDiff, Nat.reduceBEq, Nat.reduceAdd, Nat.reduceSub, Nat.reduceMul, Nat.reduceLT, Nat.reduceLeDiff, Nat.reduceBNe, Int.reduceBEq, Int.reduceBNe, Int.reduceLT, Int.reduceLE, evW, retM, s3]
  · simp (maxSteps := 4000000) only [go_sem, ↓reduceIte, reduceCtorEq, Nat.reduceEqDiff, Nat.reduceBEq, Nat.reduceAdd, Nat.reduceSub, Nat.reduceMul, Nat.reduceLT, Nat.reduceLeDiff, Nat.reduceBNe, Int.reduceBEq, Int.reduceBNe, Int.reduceLT, Int.reduceLE, evW, retM]
  · rw [htk, ← srt_add, List.append_assoc _ (B.drop (n + 1)) R]
    exact sH
end
end
section
/-
  Merging two halves in place: what the searches find: plain.
-/
open Go.RowKit
set_option linter.unusedVariables false
set_option linter.unusedSimpArgs false
section
variable {α : Type} (key : α → Int)
/-- the number of the element that stands at a place -/
def kAt (X : List α) (h : Nat) : Int := ((X[h]?).map key).getD 0
theorem kAt_of {X : List α} {h : Nat} {x : α} (hx : X[h]? = some x) : kAt key X h = key x := by unfold kAt; rw [hx]; rfl
theorem rise_get {key : α → Int} : ∀ {B : List α}, Rise key B → ∀ {i j : Nat} {x y : α}, i ≤ j → B[i]? = some x → B[j]? = some y → key x ≤ key y
  | [], _, i, j, x, y, _, h, _ => by simp at h
  | b :: B, h, 0, 0, x, y, _, hx, hy => by rw [hx] at hy; cases hy; exact Int.le_refl _
  | b :: B, h, 0, j + 1, x, y, _, hx, hy => by
    simp at hx; subst hx
    exact h.1 y (List.mem_of_getElem? (by simpa using hy))
  | b :: B, h, i + 1, 0, x, y, hij, hx, hy => by omega
  | b :: B, h, i + 1, j + 1, x, y, hij, hx, hy => rise_get h.2 (Nat.le_of_succ_le_succ hij) (by simpa using hx) (by simpa using hy)
theorem at_mid {L B R : List α} {u : Nat} (h1 : L.length ≤ u) (h2 : u < L.length + B.length) : ∃ x, (L ++ B ++ R)[u]? = some x ∧ B[u - L.length]? = some x := by
  have hlt : u - L.length < B.length := by omega
  refine ⟨B[u - L.length], ?_, List.getElem?_eq_getElem hlt⟩
  rw [List.append_assoc, List.getElem?_append_right h1, List.getElem?_append_left hlt, List.getElem?_eq_getElem hlt]
theorem kAt_mono {L B R X : List α} (hX : X = L ++ B ++ R) (hB : Rise key B) {u v : Nat} (h1 : L.length ≤ u) (h2 : u ≤ v) (h3 : v < L.length + B.length) : kAt key X u ≤ kAt key X v := by
  subst hX
  obtain ⟨x, a1, a2⟩ := at_mid (R := R) h1 (by omega : u < L.length + B.length)
  obtain ⟨y, b1, b2⟩ := at_mid (R := R) (by omega : L.length ≤ v) h3
  rw [kAt_of key a1, kAt_of key b1]
  exact rise_get hB (by omega) a2 b2
/-- all of a block's numbers, by its places -/
theorem all_at {L B R X : List α} (hX : X = L ++ B ++ R) {x : α} (hx : x ∈ B) : ∃ u, L.length ≤ u ∧ u < L.length + B.length ∧ kAt key X u = key x := by
  obtain ⟨i, hi⟩ := List.mem_iff_getElem?.1 hx
  have hlt := (List.getElem?_eq_some_iff.1 hi).1
  refine ⟨L.length + i, by omega, by omega, ?_⟩
  subst hX
  refine kAt_of key ?_
  rw [List.append_assoc, List.getElem?_append_right (by omega), List.getElem?_append_left (by omega), show L.length + i - L.length = i by omega]
  exact hi
end
end
section
/-
  Merging two halves in place: the searches: the library's code, walked.
-/
open Go.RowKit
set_option linter.unusedVariables false
set_option linter.unusedSimpArgs false
set_option maxRecDepth 100000
attribute [local go_sem ↓] runOp headOp
/-! ### slices.symMergeCmpFunc[percolate/api.Event] -/
def r_symE_0 : List XOp := [(.op [] ⟨(.mv (.t 2)), (some 25), none, [], []⟩), (.op [] ⟨(.mv (.t 1)), (some 26), none, [], []⟩), (.op [] ⟨(.bin .sub (.t 25) (.t 26)), (some 27), none, [], []⟩), (.op [] ⟨(.bin .eql (.t 27) (.c (.int .i64 1))), (some 28), none, [], []⟩)]
def r_symE_1 : List XOp := [(.op [] ⟨(.mv (.t 2)), (some 29), none, [], []⟩), (.op [] ⟨(.mv (.t 29)), (some 10), none, [], []⟩)]
def r_symE_2 : List XOp := [(.op [] ⟨(.mv (.t 3)), (some 30), none, [], []⟩), (.op [] ⟨(.mv (.t 30)), (some 11), none, [], []⟩)]
def r_symE_3 : List XOp := [(.op [] ⟨(.mv (.t 10)), (some 31), none, [], []⟩), (.op [] ⟨(.mv (.t 11)), (some 32), none, [], []⟩), (.op [] ⟨(.bin .lss (.t 31) (.t 32)), (some 33), none, [], []⟩)]
def r_symE_4 : List XOp := [(.op [] ⟨(.mv (.t 10)), (some 34), none, [], []⟩), (.op [] ⟨(.mv (.t 11)), (some 35), none, [], []⟩), (.op [] ⟨(.bin .add (.t 34) (.t 35)), (some 36), none, [], []⟩), (.op [] ⟨(.conv .u64 (.t 36)), (some 37), none, [], []⟩), (.op [38] ⟨(.call 4 [(.t 37), (.c (.int .u64 1))]), (some 38), none, [], []⟩), (.op [] ⟨(.conv .i64 (.t 38)), (some 39), none, [], []⟩), (.op [] ⟨(.mv (.t 39)), (some 12), none, [], []⟩)]
def t_symE_5 : List ROp := [⟨(.callv (.t 40) [(.t 44), (.t 48)]), (some 49), none, [], []⟩, ⟨(.bin .lss (.t 49) (.c (.int .i64 0))), (some 50), none, [], []⟩]
def h_symE_5 : List ROp := [⟨(.mv (.t 4)), (some 40), none, [49], []⟩, ⟨(.mv (.t 0)), (some 41), none, [49], []⟩, ⟨(.mv (.t 12)), (some 42), none, [49], []⟩, ⟨(.iaddr 15 (.t 41) (.t 42)), (some 43), none, [49], []⟩, ⟨(.load 15 true (.t 43)), (some 44), none, [49], []⟩, ⟨(.mv (.t 0)), (some 45), none, [49], []⟩, ⟨(.mv (.t 1)), (some 46), none, [49], []⟩, ⟨(.iaddr 15 (.t 45) (.t 46)), (some 47), none, [49], []⟩, ⟨(.load 15 true (.t 47)), (some 48), none, [49], []⟩]
def r_symE_5 : Reg := ⟨h_symE_5, t_symE_5, [49], [], true⟩
def r_symE_6 : List XOp := [(.op [] ⟨(.mv (.t 12)), (some 51), none, [], []⟩), (.op [] ⟨(.bin .add (.t 51) (.c (.int .i64 1))), (some 52), none, [], []⟩), (.op [] ⟨(.mv (.t 52)), (some 10), none, [], []⟩)]
def r_symE_7 : List XOp := [(.op [] ⟨(.mv (.t 12)), (some 53), none, [], []⟩), (.op [] ⟨(.mv (.t 53)), (some 11), none, [], []⟩)]
def r_symE_l8 (P : Program) : IR := (.seq (.seq (.regx P r_symE_3)
  (.cond (.t 33) .skip
  (.exit 0)))
  (.block 1 (.seq (.regx P r_symE_4)
  (.seq (.reg r_symE_5)
  (.cond (.t 50) (.regx P r_symE_6)
  (.regx P r_symE_7))))))
def r_symE_9 : List XOp := [(.op [] ⟨(.mv (.t 1)), (some 54), none, [], []⟩), (.op [] ⟨(.mv (.t 54)), (some 13), none, [], []⟩)]
def r_symE_10 : List XOp := [(.op [] ⟨(.mv (.t 13)), (some 55), none, [], []⟩), (.op [] ⟨(.mv (.t 10)), (some 56), none, [], []⟩), (.op [] ⟨(.bin .sub (.t 56) (.c (.int .i64 1))), (some 57), none, [], []⟩), (.op [] ⟨(.bin .lss (.t 55) (.t 57)), (some 58), none, [], []⟩)]
def r_symE_11 : Reg := ⟨[⟨(.mv (.t 0)), (some 61), none, [], []⟩, ⟨(.mv (.t 13)), (some 62), none, [], []⟩, ⟨(.mv (.t 0)), (some 63), none, [], []⟩, ⟨(.mv (.t 13)), (some 64), none, [], []⟩, ⟨(.bin .add (.t 64) (.c (.int .i64 1))), (some 65), none, [], []⟩, ⟨(.mv (.t 0)), (some 66), none, [], []⟩, ⟨(.mv (.t 13)), (some 67), none, [], []⟩, ⟨(.bin .add (.t 67) (.c (.int .i64 1))), (some 68), none, [], []⟩, ⟨(.iaddr 15 (.t 66) (.t 68)), (some 69), none, [], []⟩, ⟨(.load 15 true (.t 69)), (some 70), none, [], []⟩, ⟨(.mv (.t 0)), (some 71), none, [], []⟩, ⟨(.mv (.t 13)), (some 72), none, [], []⟩, ⟨(.iaddr 15 (.t 71) (.t 72)), (some 73), none, [], []⟩, ⟨(.load 15 true (.t 73)), (some 74), none, [], []⟩, ⟨(.iaddr 15 (.t 61) (.t 62)), (some 75), none, [], []⟩, ⟨(.store 15 (.t 75) (.t 70)), none, none, [], [0]⟩], [⟨(.iaddr 15 (.t 63) (.t 65)), (some 76), none, [], []⟩, ⟨(.store 15 (.t 76) (.t 74)), none, none, [], [0]⟩], [], [], true⟩
def r_symE_12 : List XOp := [(.op [] ⟨(.mv (.t 13)), (some 59), none, [], []⟩), (.op [] ⟨(.bin .add (.t 59) (.c (.int .i64 1))), (some 60), none, [], []⟩), (.op [] ⟨(.mv (.t 60)), (some 13), none, [], []⟩)]
def r_symE_l13 (P : Program) : IR := (.seq (.seq (.regx P r_symE_10)
  (.cond (.t 58) .skip
  (.exit 2)))
  (.seq (.block 3 (.regw r_symE_11 0))
  (.regx P r_symE_12)))
def r_symE_14 : List XOp := [(.op [] ⟨(.mv (.t 3)), (some 77), none, [], []⟩), (.op [] ⟨(.mv (.t 2)), (some 78), none, [], []⟩), (.op [] ⟨(.bin .sub (.t 77) (.t 78)), (some 79), none, [], []⟩), (.op [] ⟨(.bin .eql (.t 79) (.c (.int .i64 1))), (some 80), none, [], []⟩)]
def r_symE_15 : List XOp := [(.op [] ⟨(.mv (.t 1)), (some 81), none, [], []⟩), (.op [] ⟨(.mv (.t 81)), (some 14), none, [], []⟩)]
def r_symE_16 : List XOp := [(.op [] ⟨(.mv (.t 2)), (some 82), none, [], []⟩), (.op [] ⟨(.mv (.t 82)), (some 15), none, [], []⟩)]
def r_symE_17 : List XOp := [(.op [] ⟨(.mv (.t 14)), (some 83), none, [], []⟩), (.op [] ⟨(.mv (.t 15)), (some 84), none, [], []⟩), (.op [] ⟨(.bin .lss (.t 83) (.t 84)), (some 85), none, [], []⟩)]
def r_symE_18 : List XOp := [(.op [] ⟨(.mv (.t 14)), (some 86), none, [], []⟩), (.op [] ⟨(.mv (.t 15)), (some 87), none, [], []⟩), (.op [] ⟨(.bin .add (.t 86) (.t 87)), (some 88), none, [], []⟩), (.op [] ⟨(.conv .u64 (.t 88)), (some 89), none, [], []⟩), (.op [90] ⟨(.call 4 [(.t 89), (.c (.int .u64 1))]), (some 90), none, [], []⟩), (.op [] ⟨(.conv .i64 (.t 90)), (some 91), none, [], []⟩), (.op [] ⟨(.mv (.t 91)), (some 16), none, [], []⟩)]
def t_symE_19 : List ROp := [⟨(.callv (.t 92) [(.t 96), (.t 100)]), (some 101), none, [], []⟩, ⟨(.bin .lss (.t 101) (.c (.int .i64 0))), (some 102), none, [], []⟩, ⟨(.un .not (.t 102)), (some 103), none, [], []⟩]
def h_symE_19 : List ROp := [⟨(.mv (.t 4)), (some 92), none, [101], []⟩, ⟨(.mv (.t 0)), (some 93), none, [101], []⟩, ⟨(.mv (.t 2)), (some 94), none, [101], []⟩, ⟨(.iaddr 15 (.t 93) (.t 94)), (some 95), none, [101], []⟩, ⟨(.load 15 true (.t 95)), (some 96), none, [101], []⟩, ⟨(.mv (.t 0)), (some 97), none, [101], []⟩, ⟨(.mv (.t 16)), (some 98), none, [101], []⟩, ⟨(.iaddr 15 (.t 97) (.t 98)), (some 99), none, [101], []⟩, ⟨(.load 15 true (.t 99)), (some 100), none, [101], []⟩]
def r_symE_19 : Reg := ⟨h_symE_19, t_symE_19, [101], [], true⟩
def r_symE_20 : List XOp := [(.op [] ⟨(.mv (.t 16)), (some 104), none, [], []⟩), (.op [] ⟨(.bin .add (.t 104) (.c (.int .i64 1))), (some 105), none, [], []⟩), (.op [] ⟨(.mv (.t 105)), (some 14), none, [], []⟩)]
def r_symE_21 : List XOp := [(.op [] ⟨(.mv (.t 16)), (some 106), none, [], []⟩), (.op [] ⟨(.mv (.t 106)), (some 15), none, [], []⟩)]
def r_symE_l22 (P : Program) : IR := (.seq (.seq (.regx P r_symE_17)
  (.cond (.t 85) .skip
  (.exit 4)))
  (.block 5 (.seq (.regx P r_symE_18)
  (.seq (.reg r_symE_19)
  (.cond (.t 103) (.regx P r_symE_20)
  (.regx P r_symE_21))))))
def r_symE_23 : List XOp := [(.op [] ⟨(.mv (.t 2)), (some 107), none, [], []⟩), (.op [] ⟨(.mv (.t 107)), (some 17), none, [], []⟩)]
def r_symE_24 : List XOp := [(.op [] ⟨(.mv (.t 17)), (some 108), none, [], []⟩), (.op [] ⟨(.mv (.t 14)), (some 109), none, [], []⟩), (.op [] ⟨(.bin .gtr (.t 108) (.t 109)), (some 110), none, [], []⟩)]
def r_symE_25 : Reg := ⟨[⟨(.mv (.t 0)), (some 113), none, [], []⟩, ⟨(.mv (.t 17)), (some 114), none, [], []⟩, ⟨(.mv (.t 0)), (some 115), none, [], []⟩, ⟨(.mv (.t 17)), (some 116), none, [], []⟩, ⟨(.bin .sub (.t 116) (.c (.int .i64 1))), (some 117), none, [], []⟩, ⟨(.mv (.t 0)), (some 118), none, [], []⟩, ⟨(.mv (.t 17)), (some 119), none, [], []⟩, ⟨(.bin .sub (.t 119) (.c (.int .i64 1))), (some 120), none, [], []⟩, ⟨(.iaddr 15 (.t 118) (.t 120)), (some 121), none, [], []⟩, ⟨(.load 15 true (.t 121)), (some 122), none, [], []⟩, ⟨(.mv (.t 0)), (some 123), none, [], []⟩, ⟨(.mv (.t 17)), (some 124), none, [], []⟩, ⟨(.iaddr 15 (.t 123) (.t 124)), (some 125), none, [], []⟩, ⟨(.load 15 true (.t 125)), (some 126), none, [], []⟩, ⟨(.iaddr 15 (.t 113) (.t 114)), (some 127), none, [], []⟩, ⟨(.store 15 (.t 127) (.t 122)), none, none, [], [0]⟩], [⟨(.iaddr 15 (.t 115) (.t 117)), (some 128), none, [], []⟩, ⟨(.store 15 (.t 128) (.t 126)), none, none, [], [0]⟩], [], [], true⟩
def r_symE_26 : List XOp := [(.op [] ⟨(.mv (.t 17)), (some 111), none, [], []⟩), (.op [] ⟨(.bin .sub (.t 111) (.c (.int .i64 1))), (some 112), none, [], []⟩), (.op [] ⟨(.mv (.t 112)), (some 17), none, [], []⟩)]
def r_symE_l27 (P : Program) : IR := (.seq (.seq (.regx P r_symE_24)
  (.cond (.t 110) .skip
  (.exit 6)))
  (.seq (.block 7 (.regw r_symE_25 0))
  (.regx P r_symE_26)))
def r_symE_28 : List XOp := [(.op [] ⟨(.mv (.t 1)), (some 129), none, [], []⟩), (.op [] ⟨(.mv (.t 3)), (some 130), none, [], []⟩), (.op [] ⟨(.bin .add (.t 129) (.t 130)), (some 131), none, [], []⟩), (.op [] ⟨(.conv .u64 (.t 131)), (some 132), none, [], []⟩), (.op [133] ⟨(.call 4 [(.t 132), (.c (.int .u64 1))]), (some 133), none, [], []⟩), (.op [] ⟨(.conv .i64 (.t 133)), (some 134), none, [], []⟩), (.op [] ⟨(.mv (.t 134)), (some 18), none, [], []⟩)]
def r_symE_29 : List XOp := [(.op [] ⟨(.mv (.t 18)), (some 135), none, [], []⟩), (.op [] ⟨(.mv (.t 2)), (some 136), none, [], []⟩), (.op [] ⟨(.bin .add (.t 135) (.t 136)), (some 137), none, [], []⟩), (.op [] ⟨(.mv (.t 137)), (some 19), none, [], []⟩)]
def r_symE_30 : List XOp := [(.op [] ⟨(.mv (.c (.int .i64 0))), (some 20), none, [], []⟩), (.op [] ⟨(.mv (.c (.int .i64 0))), (some 21), none, [], []⟩)]
def r_symE_31 : List XOp := [(.op [] ⟨(.mv (.t 2)), (some 138), none, [], []⟩), (.op [] ⟨(.mv (.t 18)), (some 139), none, [], []⟩), (.op [] ⟨(.bin .gtr (.t 138) (.t 139)), (some 140), none, [], []⟩)]
def r_symE_32 : List XOp := [(.op [] ⟨(.mv (.t 19)), (some 141), none, [], []⟩), (.op [] ⟨(.mv (.t 3)), (some 142), none, [], []⟩), (.op [] ⟨(.bin .sub (.t 141) (.t 142)), (some 143), none, [], []⟩), (.op [] ⟨(.mv (.t 143)), (some 20), none, [], []⟩)]
def r_symE_33 : List XOp := [(.op [] ⟨(.mv (.t 18)), (some 144), none, [], []⟩), (.op [] ⟨(.mv (.t 144)), (some 21), none, [], []⟩)]
def r_symE_34 : List XOp := [(.op [] ⟨(.mv (.t 1)), (some 145), none, [], []⟩), (.op [] ⟨(.mv (.t 145)), (some 20), none, [], []⟩)]
def r_symE_35 : List XOp := [(.op [] ⟨(.mv (.t 2)), (some 146), none, [], []⟩), (.op [] ⟨(.mv (.t 146)), (some 21), none, [], []⟩)]
def r_symE_36 : List XOp := [(.op [] ⟨(.mv (.t 19)), (some 147), none, [], []⟩), (.op [] ⟨(.bin .sub (.t 147) (.c (.int .i64 1))), (some 148), none, [], []⟩), (.op [] ⟨(.mv (.t 148)), (some 22), none, [], []⟩)]
def r_symE_37 : List XOp := [(.op [] ⟨(.mv (.t 20)), (some 149), none, [], []⟩), (.op [] ⟨(.mv (.t 21)), (some 150), none, [], []⟩), (.op [] ⟨(.bin .lss (.t 149) (.t 150)), (some 151), none, [], []⟩)]
def r_symE_38 : List XOp := [(.op [] ⟨(.mv (.t 20)), (some 152), none, [], []⟩), (.op [] ⟨(.mv (.t 21)), (some 153), none, [], []⟩), (.op [] ⟨(.bin .add (.t 152) (.t 153)), (some 154), none, [], []⟩), (.op [] ⟨(.conv .u64 (.t 154)), (some 155), none, [], []⟩), (.op [156] ⟨(.call 4 [(.t 155), (.c (.int .u64 1))]), (some 156), none, [], []⟩), (.op [] ⟨(.conv .i64 (.t 156)), (some 157), none, [], []⟩), (.op [] ⟨(.mv (.t 157)), (some 23), none, [], []⟩)]
def t_symE_39 : List ROp := [⟨(.callv (.t 158) [(.t 164), (.t 168)]), (some 169), none, [], []⟩, ⟨(.bin .lss (.t 169) (.c (.int .i64 0))), (some 170), none, [], []⟩, ⟨(.un .not (.t 170)), (some 171), none, [], []⟩]
def h_symE_39 : List ROp := [⟨(.mv (.t 4)), (some 158), none, [169], []⟩, ⟨(.mv (.t 0)), (some 159), none, [169], []⟩, ⟨(.mv (.t 22)), (some 160), none, [169], []⟩, ⟨(.mv (.t 23)), (some 161), none, [169], []⟩, ⟨(.bin .sub (.t 160) (.t 161)), (some 162), none, [169], []⟩, ⟨(.iaddr 15 (.t 159) (.t 162)), (some 163), none, [169], []⟩, ⟨(.load 15 true (.t 163)), (some 164), none, [169], []⟩, ⟨(.mv (.t 0)), (some 165), none, [169], []⟩, ⟨(.mv (.t 23)), (some 166), none, [169], []⟩, ⟨(.iaddr 15 (.t 165) (.t 166)), (some 167), none, [169], []⟩, ⟨(.load 15 true (.t 167)), (some 168), none, [169], []⟩]
def r_symE_39 : Reg := ⟨h_symE_39, t_symE_39, [169], [], true⟩
def r_symE_40 : List XOp := [(.op [] ⟨(.mv (.t 23)), (some 172), none, [], []⟩), (.op [] ⟨(.bin .add (.t 172) (.c (.int .i64 1))), (some 173), none, [], []⟩), (.op [] ⟨(.mv (.t 173)), (some 20), none, [], []⟩)]
def r_symE_41 : List XOp := [(.op [] ⟨(.mv (.t 23)), (some 174), none, [], []⟩), (.op [] ⟨(.mv (.t 174)), (some 21), none, [], []⟩)]
def r_symE_l42 (P : Program) : IR := (.seq (.seq (.regx P r_symE_37)
  (.cond (.t 151) .skip
  (.exit 8)))
  (.block 9 (.seq (.regx P r_symE_38)
  (.seq (.reg r_symE_39)
  (.cond (.t 171) (.regx P r_symE_40)
  (.regx P r_symE_41))))))
def r_symE_43 : List XOp := [(.op [] ⟨(.mv (.t 19)), (some 175), none, [], []⟩), (.op [] ⟨(.mv (.t 20)), (some 176), none, [], []⟩), (.op [] ⟨(.bin .sub (.t 175) (.t 176)), (some 177), none, [], []⟩), (.op [] ⟨(.mv (.t 177)), (some 24), none, [], []⟩)]
def r_symE_44 : List XOp := [(.op [] ⟨(.mv (.t 20)), (some 178), none, [], []⟩), (.op [] ⟨(.mv (.t 2)), (some 179), none, [], []⟩), (.op [] ⟨(.bin .lss (.t 178) (.t 179)), (some 180), none, [], []⟩), (.op [] ⟨(.mv (.t 180)), (some 181), none, [], []⟩), (.op [] ⟨(.mv (.t 2)), (some 182), (some (181, true)), [], []⟩), (.op [] ⟨(.mv (.t 24)), (some 183), (some (181, true)), [], []⟩), (.op [] ⟨(.bin .lss (.t 182) (.t 183)), (some 184), (some (181, true)), [], []⟩), (.op [] ⟨(.pick (.t 181) (.t 184) (.c (.bool false))), (some 185), none, [], []⟩)]
def r_symE_45 : List XOp := [(.op [] ⟨(.mv (.t 0)), (some 186), none, [], []⟩), (.op [] ⟨(.mv (.t 20)), (some 187), none, [], []⟩), (.op [] ⟨(.mv (.t 2)), (some 188), none, [], []⟩), (.op [] ⟨(.mv (.t 24)), (some 189), none, [], []⟩), (.op [] ⟨(.mv (.t 4)), (some 190), none, [], []⟩), (.wcall 191 (.c (.clo 72 [] [])) [(.t 186), (.t 187), (.t 188), (.t 189), (.t 190)])]
def r_symE_46 : List XOp := [(.op [] ⟨(.mv (.t 1)), (some 192), none, [], []⟩), (.op [] ⟨(.mv (.t 20)), (some 193), none, [], []⟩), (.op [] ⟨(.bin .lss (.t 192) (.t 193)), (some 194), none, [], []⟩), (.op [] ⟨(.mv (.t 194)), (some 195), none, [], []⟩), (.op [] ⟨(.mv (.t 20)), (some 196), (some (195, true)), [], []⟩), (.op [] ⟨(.mv (.t 18)), (some 197), (some (195, true)), [], []⟩), (.op [] ⟨(.bin .lss (.t 196) (.t 197)), (some 198), (some (195, true)), [], []⟩), (.op [] ⟨(.pick (.t 195) (.t 198) (.c (.bool false))), (some 199), none, [], []⟩)]
def r_symE_47 : List XOp := [(.op [] ⟨(.mv (.t 0)), (some 200), none, [], []⟩), (.op [] ⟨(.mv (.t 1)), (some 201), none, [], []⟩), (.op [] ⟨(.mv (.t 20)), (some 202), none, [], []⟩), (.op [] ⟨(.mv (.t 18)), (some 203), none, [], []⟩), (.op [] ⟨(.mv (.t 4)), (some 204), none, [], []⟩), (.wcall 205 (.c (.clo 54 [] [])) [(.t 200), (.t 201), (.t 202), (.t 203), (.t 204)])]
def r_symE_48 : List XOp := [(.op [] ⟨(.mv (.t 18)), (some 206), none, [], []⟩), (.op [] ⟨(.mv (.t 24)), (some 207), none, [], []⟩), (.op [] ⟨(.bin .lss (.t 206) (.t 207)), (some 208), none, [], []⟩), (.op [] ⟨(.mv (.t 208)), (some 209), none, [], []⟩), (.op [] ⟨(.mv (.t 24)), (some 210), (some (209, true)), [], []⟩), (.op [] ⟨(.mv (.t 3)), (some 211), (some (209, true)), [], []⟩), (.op [] ⟨(.bin .lss (.t 210) (.t 211)), (some 212), (some (209, true)), [], []⟩), (.op [] ⟨(.pick (.t 209) (.t 212) (.c (.bool false))), (some 213), none, [], []⟩)]
def r_symE_49 : List XOp := [(.op [] ⟨(.mv (.t 0)), (some 214), none, [], []⟩), (.op [] ⟨(.mv (.t 18)), (some 215), none, [], []⟩), (.op [] ⟨(.mv (.t 24)), (some 216), none, [], []⟩), (.op [] ⟨(.mv (.t 3)), (some 217), none, [], []⟩), (.op [] ⟨(.mv (.t 4)), (some 218), none, [], []⟩), (.wcall 219 (.c (.clo 54 [] [])) [(.t 214), (.t 215), (.t 216), (.t 217), (.t 218)])]
def ir_symE (P : Program) : IR := (.seq (.seq (.regx P r_symE_0)
  (.cond (.t 28) (.seq (.regx P r_symE_1)
  (.seq (.regx P r_symE_2)
  (.seq (.block 0 (.loop (r_symE_l8 P)))
  (.seq (.seq (.regx P r_symE_9)
  (.block 2 (.loop (r_symE_l13 P))))
  .ret))))
  .skip))
  (.seq (.seq (.regx P r_symE_14)
  (.cond (.t 80) (.seq (.regx P r_symE_15)
  (.seq (.regx P r_symE_16)
  (.seq (.block 4 (.loop (r_symE_l22 P)))
  (.seq (.seq (.regx P r_symE_23)
  (.block 6 (.loop (r_symE_l27 P))))
  .ret))))
  .skip))
  (.seq (.regx P r_symE_28)
  (.seq (.regx P r_symE_29)
  (.seq (.regx P r_symE_30)
  (.seq (.seq (.regx P r_symE_31)
  (.cond (.t 140) (.seq (.regx P r_symE_32)
  (.regx P r_symE_33))
  (.seq (.regx P r_symE_34)
  (.regx P r_symE_35))))
  (.seq (.regx P r_symE_36)
  (.seq (.block 8 (.loop (r_symE_l42 P)))
  (.seq (.regx P r_symE_43)
  (.seq (.seq (.regx P r_symE_44)
  (.cond (.t 185) (.regx P r_symE_45)
  .skip))
  (.seq (.seq (.regx P r_symE_46)
  (.cond (.t 199) (.regx P r_symE_47)
  .skip))
  (.seq (.regx P r_symE_48)
  (.cond (.t 213) (.regx P r_symE_49)
  .skip)))))))))))))
def res_symE : List RDesc := []
theorem e_symE_5 (C : FuncId → List AV → AV → Prop) (σ : St) (K : St → Prop) : runReg C r_symE_5 σ K = runHead C [] t_symE_5 h_symE_5 (σ.kills [49]) K := rfl
theorem e_symE_11 (C : FuncId → List AV → AV → Prop) (σ : St) (K : St → Prop) (q : Nat) : runReg C (Reg.ren 0 q r_symE_11) σ K = runHead C [] [⟨(.iaddr 15 (.t 63) (.t 65)), (some 76), none, [], []⟩, ⟨(.store 15 (.t 76) (.t 74)), none, none, [], [q]⟩] [⟨(.mv (.t 0)), (some 61), none, [], []⟩, ⟨(.mv (.t 13)), (some 62), none, [], []⟩, ⟨(.mv (.t 0)), (some 63), none, [], []⟩, ⟨(.mv (.t 13)), (some 64), none, [], []⟩, ⟨(.bin .add (.t 64) (.c (.int .i64 1))), (some 65), none, [], []⟩, ⟨(.mv (.t 0)), (some 66), none, [], []⟩, ⟨(.mv (.t 13)), (some 67), none, [], []⟩, ⟨(.bin .add (.t 67) (.c (.int .i64 1))), (some 68), none, [], []⟩, ⟨(.iaddr 15 (.t 66) (.t 68)), (some 69), none, [], []⟩, ⟨(.load 15 true (.t 69)), (some 70), none, [], []⟩, ⟨(.mv (.t 0)), (some 71), none, [], []⟩, ⟨(.mv (.t 13)), (some 72), none, [], []⟩, ⟨(.iaddr 15 (.t 71) (.t 72)), (some 73), none, [], []⟩, ⟨(.load 15 true (.t 73)), (some 74), none, [], []⟩, ⟨(.iaddr 15 (.t 61) (.t 62)), (some 75), none, [], []⟩, ⟨(.store 15 (.t 75) (.t 70)), none, none, [], [q]⟩] (σ.kills []) K := rfl
theorem e_symE_19 (C : FuncId → List AV → AV → Prop) (σ : St) (K : St → Prop) : runReg C r_symE_19 σ K = runHead C [] t_symE_19 h_symE_19 (σ.kills [101]) K := rfl
theorem e_symE_25 (C : FuncId → List AV → AV → Prop) (σ : St) (K : St → Prop) (q : Nat) : runReg C (Reg.ren 0 q r_symE_25) σ K = runHead C [] [⟨(.iaddr 15 (.t 115) (.t 117)), (some 128), none, [], []⟩, ⟨(.store 15 (.t 128) (.t 126)), none, none, [], [q]⟩] [⟨(.mv (.t 0)), (some 113), none, [], []⟩, ⟨(.mv (.t 17)), (some 114), none, [], []⟩, ⟨(.mv (.t 0)), (some 115), none, [], []⟩, ⟨(.mv (.t 17)), (some 116), none, [], []⟩, ⟨(.bin .sub (.t 116) (.c (.int .i64 1))), (some 117), none, [], []⟩, ⟨(.mv (.t 0)), (some 118), none, [], []⟩, ⟨(.mv (.t 17)), (some 119), none, [], []⟩, ⟨(.bin .sub (.t 119) (.c (.int .i64 1))), (some 120), none, [], []⟩, ⟨(.iaddr 15 (.t 118) (.t 120)), (some 121), none, [], []⟩, ⟨(.load 15 true (.t 121)), (some 122), none, [], []⟩, ⟨(.mv (.t 0)), (some 123), none, [], []⟩, ⟨(.mv (.t 17)), (some 124), none, [], []⟩, ⟨(.iaddr 15 (.t 123) (.t 124)), (some 125), none, [], []⟩, ⟨(.load 15 true (.t 125)), (some 126), none, [], []⟩, ⟨(.iaddr 15 (.t 113) (.t 114)), (some 127), none, [], []⟩, ⟨(.store 15 (.t 127) (.t 122)), none, none, [], [q]⟩] (σ.kills []) K := rfl
theorem e_symE_39 (C : FuncId → List AV → AV → Prop) (σ : St) (K : St → Prop) : runReg C r_symE_39 σ K = runHead C [] t_symE_39 h_symE_39 (σ.kills [169]) K := rfl
theorem fnm_symE {args : List AV} {r : AV} {H H' : Nat → Option Arr} (ha : args.length.ble Try.f54.ntmps = true) (h : run (AFn Try.prog) (ir_symE Try.prog) (endM res_symE r H') (initM args H)) : MFn Try.prog 54 args H r H' :=
  MFn.of_code (pv := false) (hint := fun _ => [1]) (c := Try.f54.body.getD .skip) (by kernel_rfl) (by kernel_rfl) Try.func54 (by kernel_rfl) (by kernel_rfl) (by kernel_rfl) (of_decide_eq_true (by kernel_rfl)) (Nat.le_of_ble_eq_true ha) (Nat.le_of_ble_eq_true (by kernel_rfl)) (run_ok h)
attribute [local go_sem ↓] ir_symE
attribute [local go_sem] res_symE e_symE_5 t_symE_5 h_symE_5 e_symE_11 e_symE_19 t_symE_19 h_symE_19 e_symE_25 e_symE_39 t_symE_39 h_symE_39 r_symE_0 r_symE_1 r_symE_2 r_symE_3 r_symE_4 r_symE_6 r_symE_7 r_symE_9 r_symE_10 r_symE_12 r_symE_14 r_symE_15 r_symE_16 r_symE_17 r_symE_18 r_symE_20 r_symE_21 r_symE_23 r_symE_24 r_symE_26 r_symE_28 r_symE_29 r_symE_30 r_symE_31 r_symE_32 r_symE_33 r_symE_34 r_symE_35 r_symE_36 r_symE_37 r_symE_38 r_symE_40 r_symE_41 r_symE_43 r_symE_44 r_symE_45 r_symE_46 r_symE_47 r_symE_48 r_symE_49
section
variable {α : Type} (K : Kind15 α) (key : α → Int)
/-- what the searches leave as it is -/
structure SymF (H : Nat → Option Arr) (r f : Nat) (a m b : Int) (X : List α) (σ : St) : Prop where
  t0 : σ.T 0 = .rs (r + 1000) 0 X.length
  t1 : σ.T 1 = .int .i64 a
  t2 : σ.T 2 = .int .i64 m
  t3 : σ.T 3 = .int .i64 b
  t4 : σ.T 4 = .clo f [] []
  h : only K H σ.H r X
def s1I (H : Nat → Option Arr) (r f a m b : Nat) (X : List α) (x : α) (k : Nat) (σ : St) : Prop :=
  ∃ s e : Nat, Cut (fun h => ¬ kAt key X h < key x) m b s e ∧ k = e - s ∧ σ.T 10 = .int .i64 s ∧ σ.T 11 = .int .i64 e ∧ SymF K H r f a m b X σ
theorem wrapU {j : Int} (h : 0 ≤ j ∧ j ≤ 1000000000000000) : IntKind.u64.wrap j = j := IntWalk.u64_in _ (by omega)
theorem halfI (s e : Nat) : ((s : Int) + (e : Int)).fdiv (2 ^ min (Int.toNat 1) 64) = (((s + e) / 2 : Nat) : Int) := by
  show ((s : Int) + (e : Int)).fdiv 2 = _
  rw [Int.fdiv_eq_ediv_of_nonneg _ (by omega)]; omega
set_option maxHeartbeats 8000000 in
theorem s1_loop {f : FuncId} {c : α → α → Int} (hc : CmpOk K key f c) (H : Nat → Option Arr) (r a m b : Nat) (X : List α) (x : α) (hX : X.length ≤ 1000000) (hb : b ≤ X.length) (hm : m ≤ b) (ha : X[a]? = some x)
    (mono : ∀ u v, m ≤ u → u ≤ v → v < b → ¬ kAt key X u < key x → ¬ kAt key X v < key x) (Q : XK → St → Prop)
    (hEnd : ∀ σ (s : Nat), Cut (fun h => ¬ kAt key X h < key x) m b s s → σ.T 10 = .int .i64 s → SymF K H r f a m b X σ → Q (.exit 0) σ) (k : Nat) (σ : St) (hI : s1I K key H r f a m b X x k σ) :
    run (AFn Try.prog) (r_symE_l8 Try.prog) (thenQ (fun σ' => ∃ m', m' < k ∧ s1I K key H r f a m b X x m' σ') Q) σ := by
  obtain ⟨s, e, hC, rfl, t10, t11, ⟨t0, t1, t2, t3, t4, hH⟩⟩ := hI
  simp only [r_symE_l8]
  have c1 := hC.l0
  have c2 := hC.m0
  have c3 := hC.r0
  by_cases hlt : s < e
  case neg =>
    have hlt' : ¬ (s : Int) < (e : Int) := by omega
    have he : e = s := by omega
    subst he
    simp (maxSteps := 4000000) only [go_sem, ↓reduceIte, reduceCtorEq, Nat.reduceEqDiff, Nat.reduceBEq, Nat.reduceAdd, Nat.reduceSub, Nat.reduceMul, Nat.reduceLT, Nat.reduceLeDiff, Nat.reduceBNe, Int.reduceBEq, Int.reduceBNe, Int.reduceLT, Int.reduceLE, evW, retM, t10, t11, hlt']
    refine hEnd _ e hC ?_ ⟨?_, ?_, ?_, ?_, ?_, ?_⟩
    · simp (maxSteps := 4000000) only [go_sem, ↓reduceIte, reduceCtorEq, Nat.reduceEqDiff, Nat.reduceBEq, Nat.reduceAdd, Nat.reduceSub, Nat.reduceMul, Nat.reduceLT, Nat.reduceLeDiff, Nat.reduceBNe, Int.reduceBEq, Int.reduceBNe, Int.reduceLT, Int.reduceLE, evW, retM, t10]
    · simp (maxSteps := 4000000) only [go_sem, ↓reduceIte, reduceCtorEq, Nat.reduceEqDiff, Nat.reduceBEq, Nat.reduceAdd, Nat.reduceSub, Nat.reduceMul, Nat.reduceLT, Nat.reduceLeDiff, Nat.reduceBNe, Int.reduceBEq, Int.reduceBNe, Int.reduceLT, Int.reduceLE, evW, retM, t0]
    · simp (maxSteps := 4000000) only [go_sem, ↓reduceIte, reduceCtorEq, Nat.reduceEqDiff, Nat.reduceBEq, Nat.reduceAdd, Nat.reduceSub, Nat.reduceMul, Nat.reduceLT, Nat.reduceLeDiff, Nat.reduceBNe, Int.reduceBEq, Int.reduceBNe, Int.reduceLT, Int.reduceLE, evW, retM, t1]
    · simp (maxSteps := 4000000) only [go_sem, ↓reduceIte, reduceCtorEq, Nat.reduceEqDiff, Nat.reduceBEq, Nat.reduceAdd, Nat.reduceSub, Nat.reduceMul, Nat.reduceLT, Nat.reduceLeDiff, Nat.reduceBNe, Int.reduceBEq, Int.reduceBNe, Int.reduceLT, Int.reduceLE, evW, retM, t2]
    · simp (maxSteps := 4000000) only [go_sem, ↓reduceIte, reduceCtorEq, Nat.reduceEqDiff, Nat.reduceBEq, Nat.reduceAdd, Nat.reduceSub, Nat.reduceMul, Nat.reduceLT, Nat.reduceLeDiff, Nat.reduceBNe, Int.reduceBEq, Int.reduceBNe, Int.reduceLT, Int.reduceLE, evW, retM, t3]
    · simp (maxSteps := 4000000) only [go_sem, ↓reduceIte, reduceCtorEq, Nat.reduceEqDiff, Nat.reduceBEq, Nat.reduceAdd, Nat.reduceSub, Nat.reduceMul, Nat.reduceLT, Nat.reduceLeDiff, Nat.reduceBNe, Int.reduceBEq, Int.reduceBNe, Int.reduceLT, Int.reduceLE, evW, retM, t4]
    · exact hH
  have hlt' : (s : Int) < (e : Int) := by omega
  have w1 : IntKind.i64.wrap ((s : Int) + (e : Int)) = (s : Int) + (e : Int) := wrapN (by omega)
  have w2 : IntKind.u64.wrap ((s : Int) + (e : Int)) = (s : Int) + (e : Int) := wrapU (by omega)
  have fh := halfI s e
  obtain ⟨h, hh⟩ : ∃ h, (s + e) / 2 = h := ⟨_, rfl⟩
  rw [hh] at fh
  have h1 : s ≤ h := by omega
  have h2 : h < e := by omega
  have wh : IntKind.i64.wrap (h : Int) = (h : Int) := wrapN (by omega)
  have wi : IntKind.i64.wrap ((h : Int) + 1) = ((h + 1 : Nat) : Int) := by rw [wrapN (by omega)]; rfl
  have lh' : h < X.length := by omega
  have lh : (h : Int) < (X.length : Int) := by omega
  have la' : a < X.length := (List.getElem?_eq_some_iff.1 ha).1
  have la : (a : Int) < (X.length : Int) := by omega
  obtain ⟨y, hy⟩ : ∃ y, X[h]? = some y := ⟨_, List.getElem?_eq_getElem lh'⟩
  have ga := atU K ha
  have gy := atU K hy
  have ky := kAt_of key hy
  have hX2 := hH.2
  unfold ObjE Kind15.f at hX2
  have z0 : ∀ x : Nat, (0 : Int) ≤ (x : Int) := fun x => Int.natCast_nonneg x
  have hk1 := K.take
  have hk3 := K.len
  have r49 : (r + 1000 == 49) = false := by simp
  have r38 : ¬ r + 1000 = 38 := by omega
  have r49' : ¬ r + 1000 = 49 := by omega
  obtain ⟨d1, d2⟩ := hc y x
  simp (maxSteps := 4000000) only [go_sem, ↓reduceIte, reduceCtorEq, Nat.reduceEqDiff, Nat.reduceBEq, Nat.reduceAdd, Nat.reduceSub, Nat.reduceMul, Nat.reduceLT, Nat.reduceLeDiff, Nat.reduceBNe, Int.reduceBEq, Int.reduceBNe, Int.reduceLT, Int.reduceLE, evW, retM, t10, t11, hlt', w1, w2, fh, wh, lh, lh', la, la', ga, gy, hX2, z0, hk1, hk3, r49, r38, r49', t0, t1, t2, t3, t4, Int.toNat_natCast, List.length_map]
  refine calling d1 ?_
  have only' : ∀ σ' : St, (∀ q, 1000 ≤ q → σ'.H q = σ.H q) → only K H σ'.H r X := fun σ' g => ⟨fun q hq => by rw [g _ (by omega)]; exact hH.1 q hq, by rw [g _ (by omega)]; exact hH.2⟩
  by_cases hl : c y x < 0
  case pos =>
    have hk : key y < key x := d2.1 hl
    simp (maxSteps := 4000000) only [go_sem, ↓reduceIte, reduceCtorEq, Nat.reduceEqDiff, Nat.reduceBEq, Nat.reduceAdd, Nat.reduceSub, Nat.reduceMul, Nat.reduceLT, Nat.reduceLeDiff, Nat.reduceBNe, Int.reduceBEq, Int.reduceBNe, Int.reduceLT, Int.reduceLE, evW, retM, hl, wi]
    refine ⟨e - (h + 1), by omega, h + 1, e, Cut.up hC h1 h2 mono (by rw [ky]; exact not_not_intro hk), rfl, ?_, ?_, ?_, ?_, ?_, ?_, ?_, ?_⟩
    · simp (maxSteps := 4000000) only [go_sem, ↓reduceIte, reduceCtorEq, Nat.reduceEqDiff, Nat.reduceBEq, Nat.reduceAdd, Nat.reduceSub, Nat.reduceMul, Nat.reduceLT, Nat.reduceLeDiff, Nat.reduceBNe, Int.reduceBEq, Int.reduceBNe, Int.reduceLT, Int.reduceLE, evW, retM]
    · simp (maxSteps := 4000000) only [go_sem, ↓reduceIte, reduceCtorEq, Nat.reduceEqDiff, Nat.reduceBEq, Nat.reduceAdd, Nat.reduceSub, Nat.reduceMul, Nat.reduceLT, Nat.reduceLeDiff, Nat.reduceBNe, Int.reduceBEq, Int.reduceBNe, Int.reduceLT, Int.reduceLE, evW, retM, t11]
    · simp (maxSteps := 4000000) only [go_sem, ↓reduceIte, reduceCtorEq, Nat.reduceEqDiff, Nat.reduceBEq, Nat.reduceAdd, Nat.reduceSub, Nat.reduceMul, Nat.reduceLT, Nat.reduceLeDiff, Nat.reduceBNe, Int.reduceBEq, Int.reduceBNe, Int.reduceLT, Int.reduceLE, evW, retM, t0]
    · simp (maxSteps := 4000000) only [go_sem, ↓reduceIte, reduceCtorEq, Nat.reduceEqDiff, Nat.reduceBEq, Nat.reduceAdd, Nat.reduceSub, Nat.reduceMul, Nat.reduceLT, Nat.reduceLeDiff, Nat.reduceBNe, Int.reduceBEq, Int.reduceBNe, Int.reduceLT, Int.reduceLE, evW, retM, t1]
    · simp (maxSteps := 4000000) only [go_sem, ↓reduceIte, reduceCtorEq, Nat.reduceEqDiff, Nat.reduceBEq, Nat.reduceAdd, Nat.reduceSub, Nat.reduceMul, Nat.reduceLT, Nat.reduceLeDiff, Nat.reduceBNe, Int.reduceBEq, Int.reduceBNe, Int.reduceLT, Int.reduceLE, evW, retM, t2]
    · simp (maxSteps := 4000000) only [go_sem, ↓reduceIte, reduceCtorEq, Nat.reduceEqDiff, Nat.reduceBEq, Nat.reduceAdd, Nat.reduceSub, Nat.reduceMul, Nat.reduceLT, Nat.reduceLeDiff, Nat.reduceBNe, Int.reduceBEq, Int.reduceBNe, Int.reduceLT, Int.reduceLE, evW, retM, t3]
    · simp (maxSteps := 4000000) only [go_sem, ↓reduceIte, reduceCtorEq, Nat.reduceEqDiff, Nat.reduceBEq, Nat.reduceAdd, Nat.reduceSub, Nat.reduceMul, Nat.reduceLT, Nat.reduceLeDiff, Nat.reduceBNe, Int.reduceBEq, Int.reduceBNe, Int.reduceLT, Int.reduceLE, evW, retM, t4]
    · refine only' _ fun q hq => ?_
      have q1 : ¬ q = 38 := by omega
      have q2 : ¬ q = 49 := by omega
      simp (maxSteps := 4000000) only [go_sem, ↓reduceIte, reduceCtorEq, Nat.reduceEqDiff, Nat.reduceBEq, Nat.reduceAdd, Nat.reduceSub, Nat.reduceMul, Nat.reduceLT, Nat.reduceLeDiff, Nat.reduceBNe, Int.reduceBEq, Int.reduceBNe, Int.reduceLT, Int.reduceLE, evW, retM, q1, q2]
  have hk : ¬ key y < key x := fun h => hl (d2.2 h)
  simp (maxSteps := 4000000) only [go_sem, ↓reduceIte, reduceCtorEq, Nat.reduceEqDiff, Nat.reduceBEq, Nat.reduceAdd, Nat.reduceSub, Nat.reduceMul, Nat.reduceLT, Nat.reduceLeDiff, Nat.reduceBNe, Int.reduceBEq, Int.reduceBNe, Int.reduceLT, Int.reduceLE, evW, retM, hl]
  refine ⟨h - s, by omega, s, h, Cut.down hC h1 h2 mono (by rw [ky]; exact hk), rfl, ?_, ?_, ?_, ?_, ?_, ?_, ?_, ?_⟩
  · simp (maxSteps := 4000000) only [go_sem, ↓reduceIte, reduceCtorEq, Nat.reduceEqDiff, Nat.reduceBEq, Nat.reduceAdd, Nat.reduceSub, Nat.reduceMul, Nat.reduceLT, Nat.reduceLeDiff, Nat.reduceBNe, Int.reduceBEq, Int.reduceBNe, Int.reduceLT, Int.reduceLE, evW, retM, t10]
  · simp (maxSteps := 4000000) only [go_sem, ↓reduceIte, reduceCtorEq, Nat.reduceEqDiff, Nat.reduceBEq, Nat.reduceAdd, Nat.reduceSub, Nat.reduceMul, Nat.reduceLT, Nat.reduceLeDiff, Nat.reduceBNe, Int.reduceBEq, Int.reduceBNe, Int.reduceLT, Int.reduceLE, evW, retM]
  · simp (maxSteps := 4000000) only [go_sem, ↓reduceIte, reduceCtorEq, Nat.reduceEqDiff, Nat.reduceBEq, Nat.reduceAdd, Nat.reduceSub, Nat.reduceMul, Nat.reduceLT, Nat.reduceLeDiff, Nat.reduceBNe, Int.reduceBEq, Int.reduceBNe, Int.reduceLT, Int.reduceLE, evW, retM, t0]
  · simp (maxSteps := 4000000) only [go_sem, ↓reduceIte, reduceCtorEq, Nat.reduceEqDiff, Nat.reduceBEq, Nat.reduceAdd, Nat.reduceSub, Nat.reduceMul, Nat.reduceLT, Nat.reduceLeDiff, Nat.reduceBNe, Int.reduceBEq, Int.reduceBNe, Int.reduceLT, Int.reduceLE, evW, retM, t1]
  · simp (maxSteps := 4000000) only [go_sem, ↓reduceIte, reduceCtorEq, Nat.reduceEqDiff, Nat.reduceBEq, Nat.reduceAdd, Nat.reduceSub, Nat.reduceMul, Nat.reduceLT, Nat.reduceLeDiff, Nat.reduceBNe, Int.reduceBEq, Int.reduceBNe, Int.reduceLT, Int.reduceLE, evW, retM, t2]
  · simp (maxSteps := 4000000) only [go_sem, ↓reduceIte, reduceCtorEq, Nat.reduceEqDiff, Nat.reduceBEq, Nat.reduceAdd, Nat.reduceSub, Nat.reduceMul, Nat.reduceLT, Nat.reduceLeDiff, Nat.reduceBNe, Int.reduceBEq, Int.reduceBNe, Int.reduceLT, Int.reduceLE, evW, retM, t3]
  · simp (maxSteps := 4000000) only [go_sem, ↓reduceIte, reduceCtorEq, Nat.reduceEqDiff, Nat.reduceBEq, Nat.reduceAdd, Nat.reduceSub, Nat.reduceMul, Nat.reduceLT, Nat.reduceLeDiff, Nat.reduceBNe, Int.reduceBEq, Int.reduceBNe, Int.reduceLT, Int.reduceLE, evW, retM, t4]
  · refine only' _ fun q hq => ?_
    have q1 : ¬ q = 38 := by omega
    have q2 : ¬ q = 49 := by omega
    simp (maxSteps := 4000000) only [go_sem, ↓reduceIte, reduceCtorEq, Nat.reduceEqDiff, Nat.reduceBEq, Nat.reduceAdd, Nat.reduceSub, Nat.reduceMul, Nat.reduceLT, Nat.reduceLeDiff, Nat.reduceBNe, Int.reduceBEq, Int.reduceBNe, Int.reduceLT, Int.reduceLE, evW, retM, q1, q2]
def s2I (H : Nat → Option Arr) (r f a m b : Nat) (X : List α) (x : α) (k : Nat) (σ : St) : Prop :=
  ∃ s e : Nat, Cut (fun h => key x < kAt key X h) a m s e ∧ k = e - s ∧ σ.T 14 = .int .i64 s ∧ σ.T 15 = .int .i64 e ∧ SymF K H r f a m b X σ
set_option maxHeartbeats 8000000 in
theorem s2_loop {f : FuncId} {c : α → α → Int} (hc : CmpOk K key f c) (H : Nat → Option Arr) (r a m b : Nat) (X : List α) (x : α) (hX : X.length ≤ 1000000) (hm : m ≤ X.length) (ha : X[m]? = some x)
    (mono : ∀ u v, a ≤ u → u ≤ v → v < m → key x < kAt key X u → key x < kAt key X v) (Q : XK → St → Prop)
    (hEnd : ∀ σ (s : Nat), Cut (fun h => key x < kAt key X h) a m s s → σ.T 14 = .int .i64 s → SymF K H r f a m b X σ → Q (.exit 4) σ) (k : Nat) (σ : St) (hI : s2I K key H r f a m b X x k σ) :
    run (AFn Try.prog) (r_symE_l22 Try.prog) (thenQ (fun σ' => ∃ m', m' < k ∧ s2I K key H r f a m b X x m' σ') Q) σ := by
  obtain ⟨s, e, hC, rfl, t14, t15, ⟨t0, t1, t2, t3, t4, hH⟩⟩ := hI
  simp only [r_symE_l22]
  have c1 := hC.l0
  have c2 := hC.m0
  have c3 := hC.r0
  by_cases hlt : s < e
  case neg =>
    have hlt' : ¬ (s : Int) < (e : Int) := by omega
    have he : e = s := by omega
    subst he
    simp (maxSteps := 4000000) only [go_sem, ↓reduceIte, reduceCtorEq, Nat.reduceEqDiff, Nat.reduceBEq, Nat.reduceAdd, Nat.reduceSub, Nat.reduceMul, Nat.reduceLT, Nat.reduceLeDiff, Nat.reduceBNe, Int.reduceBEq, Int.reduceBNe, Int.reduceLT, Int.reduceLE, evW, retM, t14, t15, hlt']
    refine hEnd _ e hC ?_ ⟨?_, ?_, ?_, ?_, ?_, ?_⟩
    · simp (maxSteps := 4000000) only [go_sem, ↓reduceIte, reduceCtorEq, Nat.reduceEqDiff, Nat.reduceBEq, Nat.reduceAdd, Nat.reduceSub, Nat.reduceMul, Nat.reduceLT, Nat.reduceLeDiff, Nat.reduceBNe, Int.reduceBEq, Int.reduceBNe, Int.reduceLT, Int.reduceLE, evW, retM, t14]
    · simp (maxSteps := 4000000) only [go_sem, ↓reduceIte, reduceCtorEq, Nat.reduceEqDiff, Nat.reduceBEq, Nat.reduceAdd, Nat.reduceSub, Nat.reduceMul, Nat.reduceLT, Nat.reduceLeDiff, Nat.reduceBNe, Int.reduceBEq, Int.reduceBNe, Int.reduceLT, Int.reduceLE, evW, retM, t0]
    · simp (maxSteps := 4000000) only [go_sem, ↓reduceIte, reduceCtorEq, Nat.reduceEqDiff, Nat.reduceBEq, Nat.reduceAdd, Nat.reduceSub, Nat.reduceMul, Nat.reduceLT, Nat.reduceLeDiff, Nat.reduceBNe, Int.reduceBEq, Int.reduceBNe, Int.reduceLT, Int.reduceLE, evW, retM, t1]
    · simp (maxSteps := 4000000) only [go_sem, ↓reduceIte, reduceCtorEq, Nat.reduceEqDiff, Nat.reduceBEq, Nat.reduceAdd, Nat.reduceSub, Nat.reduceMul, Nat.reduceLT, Nat.reduceLeDiff, Nat.reduceBNe, Int.reduceBEq, Int.reduceBNe, Int.reduceLT, Int.reduceLE, evW, retM, t2]
    · simp (maxSteps := 4000000) only [go_sem, ↓reduceIte, reduceCtorEq, Nat.reduceEqDiff, Nat.reduceBEq, Nat.reduceAdd, Nat.reduceSub, Nat.reduceMul, Nat.reduceLT, Nat.reduceLeDiff, Nat.reduceBNe, Int.reduceBEq, Int.reduceBNe, Int.reduceLT, Int.reduceLE, evW, retM, t3]
    · simp (maxSteps := 4000000) only [go_sem, ↓reduceIte, reduceCtorEq, Nat.reduceEqDiff, Nat.reduceBEq, Nat.reduceAdd, Nat.reduceSub, Nat.reduceMul, Nat.reduceLT, Nat.reduceLeDiff, Nat.reduceBNe, Int.reduceBEq, Int.reduceBNe, Int.reduceLT, Int.reduceLE, evW, retM, t4]
    · exact hH
  have hlt' : (s : Int) < (e : Int) := by omega
  have w1 : IntKind.i64.wrap ((s : Int) + (e : Int)) = (s : Int) + (e : Int) := wrapN (by omega)
  have w2 : IntKind.u64.wrap ((s : Int) + (e : Int)) = (s : Int) + (e : Int) := wrapU (by omega)
  have fh := halfI s e
  obtain ⟨h, hh⟩ : ∃ h, (s + e) / 2 = h := ⟨_, rfl⟩
  rw [hh] at fh
  have h1 : s ≤ h := by omega
  have h2 : h < e := by omega
  have wh : IntKind.i64.wrap (h : Int) = (h : Int) := wrapN (by omega)
  have wi : IntKind.i64.wrap ((h : Int) + 1) = ((h + 1 : Nat) : Int) := by rw [wrapN (by omega)]; rfl
  have lh' : h < X.length := by omega
  have lh : (h : Int) < (X.length : Int) := by omega
  have la' : m < X.length := (List.getElem?_eq_some_iff.1 ha).1
  have la : (m : Int) < (X.length : Int) := by omega
  obtain ⟨y, hy⟩ : ∃ y, X[h]? = some y := ⟨_, List.getElem?_eq_getElem lh'⟩
  have ga := atU K ha
  have gy := atU K hy
  have ky := kAt_of key hy
  have hX2 := hH.2
  unfold ObjE Kind15.f at hX2
  have z0 : ∀ x : Nat, (0 : Int) ≤ (x : Int) := fun x => Int.natCast_nonneg x
  have hk1 := K.take
  have hk3 := K.len
  have r49 : (r + 1000 == 101) = false := by simp
  have r38 : ¬ r + 1000 = 90 := by omega
  have r49' : ¬ r + 1000 = 101 := by omega
  obtain ⟨d1, d2⟩ := hc x y
  simp (maxSteps := 4000000) only [go_sem, ↓reduceIte, reduceCtorEq, Nat.reduceEqDiff, Nat.reduceBEq, Nat.reduceAdd, Nat.reduceSub, Nat.reduceMul, Nat.reduceLT, Nat.reduceLeDiff, Nat.reduceBNe, Int.reduceBEq, Int.reduceBNe, Int.reduceLT, Int.reduceLE, evW, retM, t14, t15, hlt', w1, w2, fh, wh, lh, lh', la, la', ga, gy, hX2, z0, hk1, hk3, r49, r38, r49', t0, t1, t2, t3, t4, Int.toNat_natCast, List.length_map]
  refine calling d1 ?_
  have only' : ∀ σ' : St, (∀ q, 1000 ≤ q → σ'.H q = σ.H q) → only K H σ'.H r X := fun σ' g => ⟨fun q hq => by rw [g _ (by omega)]; exact hH.1 q hq, by rw [g _ (by omega)]; exact hH.2⟩
  by_cases hl : c x y < 0
  case neg =>
    have hk : ¬ key x < key y := fun h => hl (d2.2 h)
    simp (maxSteps := 4000000) only [go_sem, ↓reduceIte, reduceCtorEq, Nat.reduceEqDiff, Nat.reduceBEq, Nat.reduceAdd, Nat.reduceSub, Nat.reduceMul, Nat.reduceLT, Nat.reduceLeDiff, Nat.reduceBNe, Int.reduceBEq, Int.reduceBNe, Int.reduceLT, Int.reduceLE, evW, retM, hl, wi]
    refine ⟨e - (h + 1), by omega, h + 1, e, Cut.up hC h1 h2 mono (by rw [ky]; exact hk), rfl, ?_, ?_, ?_, ?_, ?_, ?_, ?_, ?_⟩
    · simp (maxSteps := 4000000) only [go_sem, ↓reduceIte, reduceCtorEq, Nat.reduceEqDiff, Nat.reduceBEq, Nat.reduceAdd, Nat.reduceSub, Nat.reduceMul, Nat.reduceLT, Nat.reduceLeDiff, Nat.reduceBNe, Int.reduceBEq, Int.reduceBNe, Int.reduceLT, Int.reduceLE, evW, retM]
    · simp (maxSteps := 4000000) only [go_sem, ↓reduceIte, reduceCtorEq, Nat.reduceEqDiff, Nat.reduceBEq, Nat.reduceAdd, Nat.reduceSub, Nat.reduceMul, Nat.reduceLT, Nat.reduceLeDiff, Nat.reduceBNe, Int.reduceBEq, Int.reduceBNe, Int.reduceLT, Int.reduceLE, evW, retM, t15]
    · simp (maxSteps := 4000000) only [go_sem, ↓reduceIte, reduceCtorEq, Nat.reduceEqDiff, Nat.reduceBEq, Nat.reduceAdd, Nat.reduceSub, Nat.reduceMul, Nat.reduceLT, Nat.reduceLeDiff, Nat.reduceBNe, Int.reduceBEq, Int.reduceBNe, Int.reduceLT, Int.reduceLE, evW, retM, t0]
    · simp (maxSteps := 4000000) only [go_sem, ↓reduceIte, reduceCtorEq, Nat.reduceEqDiff, Nat.reduceBEq, Nat.reduceAdd, Nat.reduceSub, Nat.reduceMul, Nat.reduceLT, Nat.reduceLeDiff, Nat.reduceBNe, Int.reduceBEq, Int.reduceBNe, Int.reduceLT, Int.reduceLE, evW, retM, t1]
    · simp (maxSteps := 4000000) only [go_sem, ↓reduceIte, reduceCtorEq, Nat.reduceEqDiff, Nat.reduceBEq, Nat.reduceAdd, Nat.reduceSub, Nat.reduceMul, Nat.reduceLT, Nat.reduceLeDiff, Nat.reduceBNe, Int.reduceBEq, Int.reduceBNe, Int.reduceLT, Int.reduceLE, evW, retM, t2]
    · simp (maxSteps := 4000000) only [go_sem, ↓reduceIte, reduceCtorEq, Nat.reduceEqDiff, Nat.reduceBEq, Nat.reduceAdd, Nat.reduceSub, Nat.reduceMul, Nat.reduceLT, Nat.reduceLeDiff, Nat.reduceBNe, Int.reduceBEq, Int.reduceBNe, Int.reduceLT, Int.reduceLE, evW, retM, t3]
    · simp (maxSteps := 4000000) only [go_sem, ↓reduceIte, reduceCtorEq, Nat.reduceEqDiff, Nat.reduceBEq, Nat.reduceAdd, Nat.reduceSub, Nat.reduceMul, Nat.reduceLT, Nat.reduceLeDiff, Nat.reduceBNe, Int.reduceBEq, Int.reduceBNe, Int.reduceLT, Int.reduceLE, evW, retM, t4]
    · refine only' _ fun q hq => ?_
      have q1 : ¬ q = 90 := by omega
      have q2 : ¬ q = 101 := by omega
      simp (maxSteps := 4000000) only [go_sem, ↓reduceIte, reduceCtorEq, Nat.reduceEqDiff, Nat.reduceBEq, Nat.reduceAdd, Nat.reduceSub, Nat.reduceMul, Nat.reduceLT, Nat.reduceLeDiff, Nat.reduceBNe, Int.reduceBEq, Int.reduceBNe, Int.reduceLT, Int.reduceLE, evW, retM, q1, q2]
  have hk : key x < key y := d2.1 hl
  simp (maxSteps := 4000000) only [go_sem, ↓reduceIte, reduceCtorEq, Nat.reduceEqDiff, Nat.reduceBEq, Nat.reduceAdd, Nat.reduceSub, Nat.reduceMul, Nat.reduceLT, Nat.reduceLeDiff, Nat.reduceBNe, Int.reduceBEq, Int.reduceBNe, Int.reduceLT, Int.reduceLE, evW, retM, hl]
  refine ⟨h - s, by omega, s, h, Cut.down hC h1 h2 mono (by rw [ky]; exact hk), rfl, ?_, ?_, ?_, ?_, ?_, ?_, ?_, ?_⟩
  · simp (maxSteps := 4000000) only [go_sem, ↓reduceIte, reduceCtorEq, Nat.reduceEqDiff, Nat.reduceBEq, Nat.reduceAdd, Nat.reduceSub, Nat.reduceMul, Nat.reduceLT, Nat.reduceLeDiff, Nat.reduceBNe, Int.reduceBEq, Int.reduceBNe, Int.reduceLT, Int.reduceLE, evW, retM, t14]
  · simp (maxSteps := 4000000) only [go_sem, ↓reduceIte, reduceCtorEq, Nat.reduceEqDiff, Nat.reduceBEq, Nat.reduceAdd, Nat.reduceSub, Nat.reduceMul, Nat.reduceLT, Nat.reduceLeDiff, Nat.reduceBNe, Int.reduceBEq, Int.reduceBNe, Int.reduceLT, Int.reduceLE, evW, retM]
  · simp (maxSteps := 4000000) only [go_sem, ↓reduceIte, reduceCtorEq, Nat.reduceEqDiff, Nat.reduceBEq, Nat.reduceAdd, Nat.reduceSub, Nat.reduceMul, Nat.reduceLT, Nat.reduceLeDiff, Nat.reduceBNe, Int.reduceBEq, Int.reduceBNe, Int.reduceLT, Int.reduceLE, evW, retM, t0]
  · simp (maxSteps := 4000000) only [go_sem, ↓reduceIte, reduceCtorEq, Nat.reduceEqDiff, Nat.reduceBEq, Nat.reduceAdd, Nat.reduceSub, Nat.reduceMul, Nat.reduceLT, Nat.reduceLeDiff, Nat.reduceBNe, Int.reduceBEq, Int.reduceBNe, Int.reduceLT, Int.reduceLE, evW, retM, t1]
  · simp (maxSteps := 4000000) only [go_sem, ↓reduceIte, reduceCtorEq, Nat.reduceEqDiff, Nat.reduceBEq, Nat.reduceAdd, Nat.reduceSub, Nat.reduceMul, Nat.reduceLT, Nat.reduceLeDiff, Nat.reduceBNe, Int.reduceBEq, Int.reduceBNe, Int.reduceLT, Int.reduceLE, evW, retM, t2]
  · simp (maxSteps := 4000000) only [go_sem, ↓reduceIte, reduceCtorEq, Nat.reduceEqDiff, Nat.reduceBEq, Nat.reduceAdd, Nat.reduceSub, Nat.reduceMul, Nat.reduceLT, Nat.reduceLeDiff, Nat.reduceBNe, Int.reduceBEq, Int.reduceBNe, Int.reduceLT, Int.reduceLE, evW, retM, t3]
  · simp (maxSteps := 4000000) only [go_sem, ↓reduceIte, reduceCtorEq, Nat.reduceEqDiff, Nat.reduceBEq, Nat.reduceAdd, Nat.reduceSub, Nat.reduceMul, Nat.reduceLT, Nat.reduceLeDiff, Nat.reduceBNe, Int.reduceBEq, Int.reduceBNe, Int.reduceLT, Int.reduceLE, evW, retM, t4]
  · refine only' _ fun q hq => ?_
    have q1 : ¬ q = 90 := by omega
    have q2 : ¬ q = 101 := by omega
    simp (maxSteps := 4000000) only [go_sem, ↓reduceIte, reduceCtorEq, Nat.reduceEqDiff, Nat.reduceBEq, Nat.reduceAdd, Nat.reduceSub, Nat.reduceMul, Nat.reduceLT, Nat.reduceLeDiff, Nat.reduceBNe, Int.reduceBEq, Int.reduceBNe, Int.reduceLT, Int.reduceLE, evW, retM, q1, q2]
def s3I (H : Nat → Option Arr) (r f a m b lo hi mid n : Nat) (X : List α) (k : Nat) (σ : St) : Prop :=
  ∃ s e : Nat, Cut (fun c => kAt key X (n - 1 - c) < kAt key X c) lo hi s e ∧ k = e - s ∧ σ.T 20 = .int .i64 s ∧ σ.T 21 = .int .i64 e ∧ σ.T 18 = .int .i64 mid ∧ σ.T 19 = .int .i64 n ∧ σ.T 22 = .int .i64 ((n - 1 : Nat) : Int) ∧ SymF K H r f a m b X σ
set_option maxHeartbeats 8000000 in
theorem s3_loop {f : FuncId} {c : α → α → Int} (hc : CmpOk K key f c) (H : Nat → Option Arr) (r a m b lo hi mid n : Nat) (X : List α) (hX : X.length ≤ 1000000) (hn : n ≤ 2000000) (hin : ∀ u, lo ≤ u → u < hi → u < X.length ∧ u ≤ n - 1 ∧ n - 1 - u < X.length) (hhi : hi ≤ 1000000)
    (mono : ∀ u v, lo ≤ u → u ≤ v → v < hi → kAt key X (n - 1 - u) < kAt key X u → kAt key X (n - 1 - v) < kAt key X v) (Q : XK → St → Prop)
    (hEnd : ∀ σ (s : Nat), Cut (fun c => kAt key X (n - 1 - c) < kAt key X c) lo hi s s → σ.T 20 = .int .i64 s → σ.T 18 = .int .i64 mid → σ.T 19 = .int .i64 n → SymF K H r f a m b X σ → Q (.exit 8) σ) (k : Nat) (σ : St) (hI : s3I K key H r f a m b lo hi mid n X k σ) :
    run (AFn Try.prog) (r_symE_l42 Try.prog) (thenQ (fun σ' => ∃ m', m' < k ∧ s3I K key H r f a m b lo hi mid n X m' σ') Q) σ := by
  obtain ⟨s, e, hC, rfl, t20, t21, t18, t19, t22, ⟨t0, t1, t2, t3, t4, hH⟩⟩ := hI
  simp only [r_symE_l42]
  have c1 := hC.l0
  have c2 := hC.m0
  have c3 := hC.r0
  by_cases hlt : s < e
  case neg =>
    have hlt' : ¬ (s : Int) < (e : Int) := by omega
    have he : e = s := by omega
    subst he
    simp (maxSteps := 4000000) only [go_sem, ↓reduceIte, reduceCtorEq, Nat.reduceEqDiff, Nat.reduceBEq, Nat.reduceAdd, Nat.reduceSub, Nat.reduceMul, Nat.reduceLT, Nat.reduceLeDiff, Nat.reduceBNe, Int.reduceBEq, Int.reduceBNe, Int.reduceLT, Int.reduceLE, evW, retM, t20, t21, hlt']
    refine hEnd _ e hC ?_ ?_ ?_ ⟨?_, ?_, ?_, ?_, ?_, ?_⟩
    · simp (maxSteps := 4000000) only [go_sem, ↓reduceIte, reduceCtorEq, Nat.reduceEqDiff, Nat.reduceBEq, Nat.reduceAdd, Nat.reduceSub, Nat.reduceMul, Nat.reduceLT, Nat.reduceLeDiff, Nat.reduceBNe, Int.reduceBEq, Int.reduceBNe, Int.reduceLT, Int.reduceLE, evW, retM, t20]
    · simp (maxSteps := 4000000) only [go_sem, ↓reduceIte, reduceCtorEq, Nat.reduceEqDiff, Nat.reduceBEq, Nat.reduceAdd, Nat.reduceSub, Nat.reduceMul, Nat.reduceLT, Nat.reduceLeDiff, Nat.reduceBNe, Int.reduceBEq, Int.reduceBNe, Int.reduceLT, Int.reduceLE, evW, retM, t18]
    · simp (maxSteps := 4000000) only [go_sem, ↓reduceIte, reduceCtorEq, Nat.reduceEqDiff, Nat.reduceBEq, Nat.reduceAdd, Nat.reduceSub, Nat.reduceMul, Nat.reduceLT, Nat.reduceLeDiff, Nat.reduceBNe, Int.reduceBEq, Int.reduceBNe, Int.reduceLT, Int.reduceLE, evW, retM, t19]
    · simp (maxSteps := 4000000) only [go_sem, ↓reduceIte, reduceCtorEq, Nat.reduceEqDiff, Nat.reduceBEq, Nat.reduceAdd, Nat.reduceSub, Nat.reduceMul, Nat.reduceLT, Nat.reduceLeDiff, Nat.reduceBNe, Int.reduceBEq, Int.reduceBNe, Int.reduceLT, Int.reduceLE, evW, retM, t0]
    · simp (maxSteps := 4000000) only [go_sem, ↓reduceIte, reduceCtorEq, Nat.reduceEqDiff, Nat.reduceBEq, Nat.reduceAdd, Nat.reduceSub, Nat.reduceMul, Nat.reduceLT, Nat.reduceLeDiff, Nat.reduceBNe, Int.reduceBEq, Int.reduceBNe, Int.reduceLT, Int.reduceLE, evW, retM, t1]
    · simp (maxSteps := 4000000) only [go_sem, ↓reduceIte, reduceCtorEq, Nat.reduceEqDiff, Nat.reduceBEq, Nat.reduceAdd, Nat.reduceSub, Nat.reduceMul, Nat.reduceLT, Nat.reduceLeDiff, Nat.reduceBNe, Int.reduceBEq, Int.reduceBNe, Int.reduceLT, Int.reduceLE, evW, retM, t2]
    · simp (maxSteps := 4000000) only [go_sem, ↓reduceIte, reduceCtorEq, Nat.reduceEqDiff, Nat.reduceBEq, Nat.reduceAdd, Nat.reduceSub, Nat.reduceMul, Nat.reduceLT, Nat.reduceLeDiff, Nat.reduceBNe, Int.reduceBEq, Int.reduceBNe, Int.reduceLT, Int.reduceLE, evW, retM, t3]
    · simp (maxSteps := 4000000) only [go_sem, ↓reduceIte, reduceCtorEq, Nat.reduceEqDiff, Nat.reduceBEq, Nat.reduceAdd, Nat.reduceSub, Nat.reduceMul, Nat.reduceLT, Nat.reduceLeDiff, Nat.reduceBNe, Int.reduceBEq, Int.reduceBNe, Int.reduceLT, Int.reduceLE, evW, retM, t4]
    · exact hH
  have hlt' : (s : Int) < (e : Int) := by omega
  have w1 : IntKind.i64.wrap ((s : Int) + (e : Int)) = (s : Int) + (e : Int) := wrapN (by omega)
  have w2 : IntKind.u64.wrap ((s : Int) + (e : Int)) = (s : Int) + (e : Int) := wrapU (by omega)
  have fh := halfI s e
  obtain ⟨h, hh⟩ : ∃ h, (s + e) / 2 = h := ⟨_, rfl⟩
  rw [hh] at fh
  have h1 : s ≤ h := by omega
  have h2 : h < e := by omega
  obtain ⟨i1, i2, i3⟩ := hin h (by omega) (by omega)
  have wh : IntKind.i64.wrap (h : Int) = (h : Int) := wrapN (by omega)
  have wi : IntKind.i64.wrap ((h : Int) + 1) = ((h + 1 : Nat) : Int) := by rw [wrapN (by omega)]; rfl
  have wp : IntKind.i64.wrap (((n - 1 : Nat) : Int) - (h : Int)) = ((n - 1 - h : Nat) : Int) := by rw [wrapN (by omega)]; omega
  have lh : (h : Int) < (X.length : Int) := by omega
  obtain ⟨y, hy⟩ : ∃ y, X[h]? = some y := ⟨_, List.getElem?_eq_getElem i1⟩
  obtain ⟨x, hx⟩ : ∃ x, X[n - 1 - h]? = some x := ⟨_, List.getElem?_eq_getElem i3⟩
  have gy := atU K hy
  have gx := atU K hx
  have ky := kAt_of key hy
  have kx := kAt_of key hx
  generalize hg : n - 1 - h = g at *
  have lg : (g : Int) < (X.length : Int) := by omega
  have hX2 := hH.2
  unfold ObjE Kind15.f at hX2
  have z0 : ∀ x : Nat, (0 : Int) ≤ (x : Int) := fun x => Int.natCast_nonneg x
  have hk1 := K.take
  have hk3 := K.len
  have r49 : (r + 1000 == 169) = false := by simp
  have r38 : ¬ r + 1000 = 156 := by omega
  have r49' : ¬ r + 1000 = 169 := by omega
  obtain ⟨d1, d2⟩ := hc x y
  simp (maxSteps := 4000000) only [go_sem, ↓reduceIte, reduceCtorEq, Nat.reduceEqDiff, Nat.reduceBEq, Nat.reduceAdd, Nat.reduceSub, Nat.reduceMul, Nat.reduceLT, Nat.reduceLeDiff, Nat.reduceBNe, Int.reduceBEq, Int.reduceBNe, Int.reduceLT, Int.reduceLE, evW, retM, t20, t21, t22, hlt', w1, w2, fh, wh, wp, lh, i1, lg, i3, gx, gy, hX2, z0, hk1, hk3, r49, r38, r49', t0, t1, t2, t3, t4, Int.toNat_natCast, List.length_map]
  refine calling d1 ?_
  have only' : ∀ σ' : St, (∀ q, 1000 ≤ q → σ'.H q = σ.H q) → only K H σ'.H r X := fun σ' g => ⟨fun q hq => by rw [g _ (by omega)]; exact hH.1 q hq, by rw [g _ (by omega)]; exact hH.2⟩
  by_cases hl : c x y < 0
  case neg =>
    have hk : ¬ key x < key y := fun h => hl (d2.2 h)
    simp (maxSteps := 4000000) only [go_sem, ↓reduceIte, reduceCtorEq, Nat.reduceEqDiff, Nat.reduceBEq, Nat.reduceAdd, Nat.reduceSub, Nat.reduceMul, Nat.reduceLT, Nat.reduceLeDiff, Nat.reduceBNe, Int.reduceBEq, Int.reduceBNe, Int.reduceLT, Int.reduceLE, evW, retM, hl, wi]
    refine ⟨e - (h + 1), by omega, h + 1, e, Cut.up hC h1 h2 mono (by simp only [hg, ky, kx]; exact hk), rfl, ?_, ?_, ?_, ?_, ?_, ?_, ?_, ?_, ?_, ?_, ?_⟩
    · simp (maxSteps := 4000000) only [go_sem, ↓reduceIte, reduceCtorEq, Nat.reduceEqDiff, Nat.reduceBEq, Nat.reduceAdd, Nat.reduceSub, Nat.reduceMul, Nat.reduceLT, Nat.reduceLeDiff, Nat.reduceBNe, Int.reduceBEq, Int.reduceBNe, Int.reduceLT, Int.reduceLE, evW, retM]
    · simp (maxSteps := 4000000) only [go_sem, ↓reduceIte, reduceCtorEq, Nat.reduceEqDiff, Nat.reduceBEq, Nat.reduceAdd, Nat.reduceSub, Nat.reduceMul, Nat.reduceLT, Nat.reduceLeDiff, Nat.reduceBNe, Int.reduceBEq, Int.reduceBNe, Int.reduceLT, Int.reduceLE, evW, retM, t21]
    · simp (maxSteps := 4000000) only [go_sem, ↓reduceIte, reduceCtorEq, Nat.reduceEqDiff, Nat.reduceBEq, Nat.reduceAdd, Nat.reduceSub, Nat.reduceMul, Nat.reduceLT, Nat.reduceLeDiff, Nat.reduceBNe, Int.reduceBEq, Int.reduceBNe, Int.reduceLT, Int.reduceLE, evW, retM, t18]
    · simp (maxSteps := 4000000) only [go_sem, ↓reduceIte, reduceCtorEq, Nat.reduceEqDiff, Nat.reduceBEq, Nat.reduceAdd, Nat.reduceSub, Nat.reduceMul, Nat.reduceLT, Nat.reduceLeDiff, Nat.reduceBNe, Int.reduceBEq, Int.reduceBNe, Int.reduceLT, Int.reduceLE, evW, retM, t19]
    · simp (maxSteps := 4000000) only [go_sem, ↓reduceIte, reduceCtorEq, Nat.reduceEqDiff, Nat.reduceBEq, Nat.reduceAdd, Nat.reduceSub, Nat.reduceMul, Nat.reduceLT, Nat.reduceLeDiff, Nat.reduceBNe, Int.reduceBEq, Int.reduceBNe, Int.reduceLT, Int.reduceLE, evW, retM, t22]
    · simp (maxSteps := 4000000) only [go_sem, ↓reduceIte, reduceCtorEq, Nat.reduceEqDiff, Nat.reduceBEq, Nat.reduceAdd, Nat.reduceSub, Nat.reduceMul, Nat.reduceLT, Nat.reduceLeDiff, Nat.reduceBNe, Int.reduceBEq, Int.reduceBNe, Int.reduceLT, Int.reduceLE, evW, retM, t0]
    · simp (maxSteps := 4000000) only [go_sem, ↓reduceIte, reduceCtorEq, Nat.reduceEqDiff, Nat.reduceBEq, Nat.reduceAdd, Nat.reduceSub, Nat.reduceMul, Nat.reduceLT, Nat.reduceLeDiff, Nat.reduceBNe, Int.reduceBEq, Int.reduceBNe, Int.reduceLT, Int.reduceLE, evW, retM, t1]
    · simp (maxSteps := 4000000) only [go_sem, ↓reduceIte, reduceCtorEq, Nat.reduceEqDiff, Nat.reduceBEq, Nat.reduceAdd, Nat.reduceSub, Nat.reduceMul, Nat.reduceLT, Nat.reduceLeDiff, Nat.reduceBNe, Int.reduceBEq, Int.reduceBNe, Int.reduceLT, Int.reduceLE, evW, retM, t2]
    · simp (maxSteps := 4000000) only [go_sem, ↓reduceIte, reduceCtorEq, Nat.reduceEqDiff, Nat.reduceBEq, Nat.reduceAdd, Nat.reduceSub, Nat.reduceMul, Nat.reduceLT, Nat.reduceLeDiff, Nat.reduceBNe, Int.reduceBEq, Int.reduceBNe, Int.reduceLT, Int.reduceLE, evW, retM, t3]
    · simp (maxSteps := 4000000) only [go_sem, ↓reduceIte, reduceCtorEq, Nat.reduceEqDiff, Nat.reduceBEq, Nat.reduceAdd, Nat.reduceSub, Nat.reduceMul, Nat.reduceLT, Nat.reduceLeDiff, Nat.reduceBNe, Int.reduceBEq, Int.reduceBNe, Int.reduceLT, Int.reduceLE, evW, retM, t4]
    · refine only' _ fun q hq => ?_
      have q1 : ¬ q = 156 := by omega
      have q2 : ¬ q = 169 := by omega
      simp (maxSteps := 4000000) only [go_sem, ↓reduceIte, reduceCtorEq, Nat.reduceEqDiff, Nat.reduceBEq, Nat.reduceAdd, Nat.reduceSub, Nat.reduceMul, Nat.reduceLT, Nat.reduceLeDiff, Nat.reduceBNe, Int.reduceBEq, Int.reduceBNe, Int.reduceLT, Int.reduceLE, evW, retM, q1, q2]
  have hk : key x < key y := d2.1 hl
  simp (maxSteps := 4000000) only [go_sem, ↓reduceIte, reduceCtorEq, Nat.reduceEqDiff, Nat.reduceBEq, Nat.reduceAdd, Nat.reduceSub, Nat.reduceMul, Nat.reduceLT, Nat.reduceLeDiff, Nat.reduceBNe, Int.reduceBEq, Int.reduceBNe, Int.reduceLT, Int.reduceLE, evW, retM, hl]
  refine ⟨h - s, by omega, s, h, Cut.down hC h1 h2 mono (by simp only [hg, ky, kx]; exact hk), rfl, ?_, ?_, ?_, ?_, ?_, ?_, ?_, ?_, ?_, ?_, ?_⟩
  · simp (maxSteps := 4000000) only [go_sem, ↓reduceIte, reduceCtorEq, Nat.reduceEqDiff, Nat.reduceBEq, Nat.reduceAdd, Nat.reduceSub, Nat.reduceMul, Nat.reduceLT, Nat.reduceLeDiff, Nat.reduceBNe, Int.reduceBEq, Int.reduceBNe, Int.reduceLT, Int.reduceLE, evW, retM, t20]
  · simp (maxSteps := 4000000) only [go_sem, ↓reduceIte, reduceCtorEq, Nat.reduceEqDiff, Nat.reduceBEq, Nat.reduceAdd, Nat.reduceSub, Nat.reduceMul, Nat.reduceLT, Nat.reduceLeDiff, Nat.reduceBNe, Int.reduceBEq, Int.reduceBNe, Int.reduceLT, Int.reduceLE, evW, retM]
  · simp (maxSteps := 4000000) only [go_sem, ↓reduceIte, reduceCtorEq, Nat.reduceEqDiff, Nat.reduceBEq, Nat.reduceAdd, Nat.reduceSub, Nat.reduceMul, Nat.reduceLT, Nat.reduceLeDiff, Nat.reduceBNe, Int.reduceBEq, Int.reduceBNe, Int.reduceLT, Int.reduceLE, evW, retM, t18]
  · simp (maxSteps := 4000000) only [go_sem, ↓reduceIte, reduceCtorEq, Nat.reduceEqDiff, Nat.reduceBEq, Nat.reduceAdd, Nat.reduceSub, Nat.reduceMul, Nat.reduceLT, Nat.reduceLeDiff, Nat.reduceBNe, Int.reduceBEq, Int.reduceBNe, Int.reduceLT, Int.reduceLE, evW, retM, t19]
  · simp (maxSteps := 4000000) only [go_sem, ↓reduceIte, reduceCtorEq, Nat.reduceEqDiff, Nat.reduceBEq, Nat.reduceAdd, Nat.reduceSub, Nat.reduceMul, Nat.reduceLT, Nat.reduceLeDiff, Nat.reduceBNe, Int.reduceBEq, Int.reduceBNe, Int.reduceLT, Int.reduceLE, evW, retM, t22]
  · simp (maxSteps := 4000000) only [go_sem, ↓reduceIte, reduceCtorEq, Nat.reduceEqDiff, Nat.reduceBEq, Nat.reduceAdd, Nat.reduceSub, Nat.reduceMul, Nat.reduceLT, Nat.reduceLeDiff, Nat.reduceBNe, Int.reduceBEq, Int.reduceBNe, Int.reduceLT, Int.reduceLE, evW, retM, t0]
  · simp (maxSteps := 4000000) only [go_sem, ↓reduceIte, reduceCtorEq, Nat.reduceEqDiff, Nat.reduceBEq, Nat.reduceAdd, Nat.reduceSub, Nat.reduceMul, Nat.reduceLT, Nat.reduceLeDiff, Nat.reduceBNe, Int.reduceBEq, Int.reduceBNe, Int.reduceLT, Int.reduceLE, evW, retM, t1]
  · simp (maxSteps := 4000000) only [go_sem, ↓reduceIte, reduceCtorEq, Nat.reduceEqDiff, Nat.reduceBEq, Nat.reduceAdd, Nat.reduceSub, Nat.reduceMul, Nat.reduceLT, Nat.reduceLeDiff, Nat.reduceBNe, Int.reduceBEq, Int.reduceBNe, Int.reduceLT, Int.reduceLE, evW, retM, t2]
  · simp (maxSteps := 4000000) only [go_sem, ↓reduceIte, reduceCtorEq, Nat.reduceEqDiff, Nat.reduceBEq, Nat.reduceAdd, Nat.reduceSub, Nat.reduceMul, Nat.reduceLT, Nat.reduceLeDiff, Nat.reduceBNe, Int.reduceBEq, Int.reduceBNe, Int.reduceLT, Int.reduceLE, evW, retM, t3]
  · simp (maxSteps := 4000000) only [go_sem, ↓reduceIte, reduceCtorEq, Nat.reduceEqDiff, Nat.reduceBEq, Nat.reduceAdd, Nat.reduceSub, Nat.reduceMul, Nat.reduceLT, Nat.reduceLeDiff, Nat.reduceBNe, Int.reduceBEq, Int.reduceBNe, Int.reduceLT, Int.reduceLE, evW, retM, t4]
  · refine only' _ fun q hq => ?_
    have q1 : ¬ q = 156 := by omega
    have q2 : ¬ q = 169 := by omega
    simp (maxSteps := 4000000) only [go_sem, ↓reduceIte, reduceCtorEq, Nat.reduceEqDiff, Nat.reduceBEq, Nat.reduceAdd, Nat.reduceSub, Nat.reduceMul, Nat.reduceLT, Nat.reduceLeDiff, Nat.reduceBNe, Int.reduceBEq, Int.reduceBNe, Int.reduceLT, Int.reduceLE, evW, retM, q1, q2]
end
end
end Go.Proofs.Ytjkicoiiadgebaa
