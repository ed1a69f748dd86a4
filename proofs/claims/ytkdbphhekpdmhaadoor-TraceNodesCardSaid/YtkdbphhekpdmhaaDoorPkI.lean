/-
  Layer 6: what stands between blanks, and the law PackWords.
-/
import Derived.Test.YtkdbphhekpdmhaaDoorPkH
namespace Go.Proofs.YtkdbphhekpdmhaaDoor
open Go.RowKit
set_option linter.unusedVariables false
set_option linter.unusedSimpArgs false
set_option maxRecDepth 100000
attribute [local go_sem ↓] runOp headOp
attribute [local go_sem] ev0 ev1 ev2 ev3 ev4 evA stHOk.eq_1 stHOk.eq_2 stHSt.eq_1 stHSt.eq_2 okV valV fzV okF valF okBld valBld mxOk.eq_1 mxOk.eq_2 mxVal.eq_1 mxVal.eq_2 cellFit.eq_1 cellFit.eq_2 cellFit.eq_3 cellEq.eq_1 cellEq.eq_2 cellEq.eq_3 upd_at AV.flatB AV.flatBs binIok binIV binSok binSV cellsOk.eq_1 cellsOk.eq_2 cellsVal.eq_1 cellsVal.eq_2 objCells.eq_1 objCells.eq_2 objZ.eq_1 objZ.eq_2 objProt.eq_1 objProt.eq_2 oneObj ptrOk.eq_1 ptrOk.eq_2 ptrOk.eq_3 ptrCells.eq_1 ptrCells.eq_2 ptrCells.eq_3 lenOk.eq_1 lenOk.eq_2 lenOk.eq_3 lenOk.eq_4 lenVal.eq_1 lenVal.eq_2 lenVal.eq_3 lenVal.eq_4 faOk.eq_1 faOk.eq_2 faOk.eq_3 faVal.eq_1 faVal.eq_2 faVal.eq_3 iaOk.eq_1 iaOk.eq_2 iaOk.eq_3 iaVal.eq_1 iaVal.eq_2 iaVal.eq_3 slcLen.eq_1 slcLen.eq_2 slcLen.eq_3 slcLen.eq_4 bdOk.eq_1 bdOk.eq_2 bdVal.eq_1 bdVal.eq_2 slcOk.eq_1 slcOk.eq_2 slcOk.eq_3 slcOk.eq_4 slcVal.eq_1 slcVal.eq_2 slcVal.eq_3 slcVal.eq_4 slcFz.eq_1 slcFz.eq_2 byOk.eq_1 byOk.eq_2 byOk.eq_3 byOk.eq_4 byOk.eq_5 byOk.eq_6 byOk.eq_7 byVal.eq_1 byVal.eq_2 byVal.eq_3 byFz.eq_1 byFz.eq_2 byFz.eq_3 byOks byVals byFzs allOne resSt.eq_1 resSt.eq_2 resName.eq_1 resName.eq_2 stOk.eq_1 stOk.eq_2 stArr.eq_1 stArr.eq_2 stSt.eq_1 stSt.eq_2 AV.patch nameOk_none gB.eq_1 gB.eq_2 gB.eq_3 gIs.eq_1 gIs.eq_2 gIs.eq_3 retV resV resVs evalV cellsV St.byval List.getD_cons_zero List.getD_cons_succ List.getD_nil List.map_cons List.map_nil List.length_cons List.length_nil List.take_succ_cons List.take_zero List.drop_succ_cons List.drop_zero List.headD_cons List.set_cons_zero List.append_nil List.nil_append List.cons_append List.contains_cons List.contains_nil List.elem_cons List.elem_nil List.all_cons List.all_nil List.getElem?_cons_zero List.getElem?_cons_succ List.filterMap_cons List.filterMap_nil Option.isSome_some Option.isSome_none Option.map_some Option.map_none Option.some.injEq AV.int.injEq AV.bool.injEq AV.str.injEq AV.tup.injEq AV.agg.injEq AV.sl.injEq List.cons.injEq Bool.false_eq_true Bool.true_eq_false Bool.not_true Bool.not_false Bool.and_true Bool.true_and Bool.or_false Bool.or_true Bool.false_or Bool.true_or Bool.or_self Bool.and_self Bool.not_eq_true' Bool.not_eq_false' Bool.not_not beq_self_eq_true true_and and_true false_and and_false and_self not_true_eq_false not_false_eq_true forall_const true_implies false_implies implies_true imp_self Nat.lt_add_one Nat.le_refl Nat.zero_le Nat.add_zero Nat.zero_add decide_true decide_false decide_eq_true_eq decide_eq_false_iff_not exists_eq_left exists_eq_left' ge_iff_le gt_iff_lt ite_branch ite_branch' nilOk.eq_1 nilOk.eq_2 nilMay.eq_1 nilMay.eq_2 AV.isSl.eq_1 objTy'.eq_1 objTy'.eq_2 apSt.eq_1 apArr.eq_1 apArr.eq_2 slOf.eq_1 fitsV List.mem_cons List.not_mem_nil Bool.false_and Bool.and_false primOk.eq_1 primOk.eq_2 primOk.eq_3 primOk.eq_4 primOk.eq_5 primVal.eq_1 primVal.eq_2 primVal.eq_3 primVal.eq_4 primVal.eq_5 mOk.eq_1 mOk.eq_2 mVal.eq_1 mVal.eq_2 mFz.eq_1 mFz.eq_2 mOks mVals mFzs mCalOk.eq_1 mCalOk.eq_2 mFn.eq_1 mFn.eq_2 mArgs.eq_1 mArgs.eq_2 ckOk.eq_1 ckOk.eq_2 cloOk.eq_1 ptrAt.eq_1 sh.eq_1 sh.eq_2 sh.eq_3 sh.eq_4 sh.eq_5 retM shH_small
/-! ### percolate/percolateref01.Same -/
def r_rSame_0 : Reg := ⟨[], [⟨(.mv (.c (.bool false))), (some 4), none, [], []⟩], [], [], false⟩
def r_rSame_1 : Reg := ⟨[], [⟨(.mv (.t 0)), (some 6), none, [], []⟩, ⟨(.len false (.t 6)), (some 7), none, [], []⟩, ⟨(.mv (.t 1)), (some 8), none, [], []⟩, ⟨(.len false (.t 8)), (some 9), none, [], []⟩, ⟨(.bin .neq (.t 7) (.t 9)), (some 10), none, [], []⟩], [], [], false⟩
def r_rSame_2 : Reg := ⟨[], [⟨(.mv (.c (.bool false))), (some 4), none, [], []⟩], [], [], false⟩
def r_rSame_3 : Reg := ⟨[], [⟨(.mv (.c (.int .i64 0))), (some 5), none, [], []⟩], [], [], false⟩
def r_rSame_4 : Reg := ⟨[], [⟨(.mv (.t 5)), (some 11), none, [], []⟩, ⟨(.mv (.t 0)), (some 12), none, [], []⟩, ⟨(.len false (.t 12)), (some 13), none, [], []⟩, ⟨(.bin .lss (.t 11) (.t 13)), (some 14), none, [], []⟩], [], [], false⟩
def r_rSame_5 : Reg := ⟨[⟨(.mv (.t 0)), (some 17), none, [], []⟩, ⟨(.mv (.t 5)), (some 18), none, [], []⟩, ⟨(.iaddr 1 (.t 17) (.t 18)), (some 19), none, [], []⟩, ⟨(.load 1 false (.t 19)), (some 20), none, [], []⟩, ⟨(.mv (.t 1)), (some 21), none, [], []⟩, ⟨(.mv (.t 5)), (some 22), none, [], []⟩, ⟨(.iaddr 1 (.t 21) (.t 22)), (some 23), none, [], []⟩, ⟨(.load 1 false (.t 23)), (some 24), none, [], []⟩], [⟨(.bin .neq (.t 20) (.t 24)), (some 25), none, [], []⟩], [], [], true⟩
def r_rSame_6 : Reg := ⟨[], [⟨(.mv (.c (.bool false))), (some 4), none, [], []⟩], [], [], false⟩
def r_rSame_7 : Reg := ⟨[], [⟨(.mv (.t 5)), (some 15), none, [], []⟩, ⟨(.bin .add (.t 15) (.c (.int .i64 1))), (some 16), none, [], []⟩, ⟨(.mv (.t 16)), (some 5), none, [], []⟩], [], [], false⟩
def r_rSame_l8 : IR := (.seq (.seq (.reg r_rSame_4)
  (.cond (.t 14) .skip
  (.exit 0)))
  (.seq (.block 1 (.seq (.reg r_rSame_5)
  (.cond (.t 25) (.seq (.reg r_rSame_6)
  .ret)
  .skip)))
  (.reg r_rSame_7)))
def r_rSame_9 : Reg := ⟨[], [⟨(.mv (.c (.bool true))), (some 4), none, [], []⟩], [], [], false⟩
def ir_rSame : IR := (.seq (.reg r_rSame_0)
  (.seq (.seq (.reg r_rSame_1)
  (.cond (.t 10) (.seq (.reg r_rSame_2)
  .ret)
  .skip))
  (.seq (.seq (.reg r_rSame_3)
  (.block 0 (.loop r_rSame_l8)))
  (.seq (.reg r_rSame_9)
  .ret))))
def res_rSame : List RDesc := [(.tmp 4)]
theorem e_rSame_0 (C : FuncId → List AV → AV → Prop) (σ : St) (K : St → Prop) : runReg C r_rSame_0 σ K = runOps C [⟨(.mv (.c (.bool false))), (some 4), none, [], []⟩] (σ.kills []) K := rfl
theorem e_rSame_1 (C : FuncId → List AV → AV → Prop) (σ : St) (K : St → Prop) : runReg C r_rSame_1 σ K = runOps C [⟨(.mv (.t 0)), (some 6), none, [], []⟩, ⟨(.len false (.t 6)), (some 7), none, [], []⟩, ⟨(.mv (.t 1)), (some 8), none, [], []⟩, ⟨(.len false (.t 8)), (some 9), none, [], []⟩, ⟨(.bin .neq (.t 7) (.t 9)), (some 10), none, [], []⟩] (σ.kills []) K := rfl
theorem e_rSame_2 (C : FuncId → List AV → AV → Prop) (σ : St) (K : St → Prop) : runReg C r_rSame_2 σ K = runOps C [⟨(.mv (.c (.bool false))), (some 4), none, [], []⟩] (σ.kills []) K := rfl
theorem e_rSame_3 (C : FuncId → List AV → AV → Prop) (σ : St) (K : St → Prop) : runReg C r_rSame_3 σ K = runOps C [⟨(.mv (.c (.int .i64 0))), (some 5), none, [], []⟩] (σ.kills []) K := rfl
theorem e_rSame_4 (C : FuncId → List AV → AV → Prop) (σ : St) (K : St → Prop) : runReg C r_rSame_4 σ K = runOps C [⟨(.mv (.t 5)), (some 11), none, [], []⟩, ⟨(.mv (.t 0)), (some 12), none, [], []⟩, ⟨(.len false (.t 12)), (some 13), none, [], []⟩, ⟨(.bin .lss (.t 11) (.t 13)), (some 14), none, [], []⟩] (σ.kills []) K := rfl
theorem e_rSame_5 (C : FuncId → List AV → AV → Prop) (σ : St) (K : St → Prop) : runReg C r_rSame_5 σ K = runHead C [] [⟨(.bin .neq (.t 20) (.t 24)), (some 25), none, [], []⟩] [⟨(.mv (.t 0)), (some 17), none, [], []⟩, ⟨(.mv (.t 5)), (some 18), none, [], []⟩, ⟨(.iaddr 1 (.t 17) (.t 18)), (some 19), none, [], []⟩, ⟨(.load 1 false (.t 19)), (some 20), none, [], []⟩, ⟨(.mv (.t 1)), (some 21), none, [], []⟩, ⟨(.mv (.t 5)), (some 22), none, [], []⟩, ⟨(.iaddr 1 (.t 21) (.t 22)), (some 23), none, [], []⟩, ⟨(.load 1 false (.t 23)), (some 24), none, [], []⟩] (σ.kills []) K := rfl
theorem e_rSame_6 (C : FuncId → List AV → AV → Prop) (σ : St) (K : St → Prop) : runReg C r_rSame_6 σ K = runOps C [⟨(.mv (.c (.bool false))), (some 4), none, [], []⟩] (σ.kills []) K := rfl
theorem e_rSame_7 (C : FuncId → List AV → AV → Prop) (σ : St) (K : St → Prop) : runReg C r_rSame_7 σ K = runOps C [⟨(.mv (.t 5)), (some 15), none, [], []⟩, ⟨(.bin .add (.t 15) (.c (.int .i64 1))), (some 16), none, [], []⟩, ⟨(.mv (.t 16)), (some 5), none, [], []⟩] (σ.kills []) K := rfl
theorem e_rSame_9 (C : FuncId → List AV → AV → Prop) (σ : St) (K : St → Prop) : runReg C r_rSame_9 σ K = runOps C [⟨(.mv (.c (.bool true))), (some 4), none, [], []⟩] (σ.kills []) K := rfl
attribute [local go_sem ↓] ir_rSame
attribute [local go_sem] res_rSame e_rSame_0 e_rSame_1 e_rSame_2 e_rSame_3 e_rSame_4 e_rSame_5 e_rSame_6 e_rSame_7 e_rSame_9

/-- what stands between blanks -/
def wl : List UInt8 → List (List UInt8)
  | [] => [[]]
  | c :: l => if c = 32 then [] :: wl l else match wl l with
    | [] => [[c]]
    | w :: ws => (c :: w) :: ws
theorem wl_ne : ∀ l, wl l ≠ []
  | [] => by simp [wl]
  | c :: l => by
    rw [wl]
    split
    · simp
    · split <;> simp
theorem wl_miss : ∀ {l : List UInt8}, Lib.index l [32] = -1 → wl l = [l]
  | [], _ => rfl
  | c :: l, h => by
    unfold Lib.index at h
    by_cases hc : c = 32
    · subst hc; simp [List.isPrefixOf] at h
    · have hp : List.isPrefixOf [32] (c :: l) = false := by simp [List.isPrefixOf, Ne.symm hc]
      rw [hp] at h
      have hge := Lib.index_ge l [32]
      have : Lib.index l [32] = -1 := by
        by_cases e : Lib.index l [32] = -1
        · exact e
        · simp [e] at h; omega
      rw [wl, if_neg hc, wl_miss this]
theorem wl_hit : ∀ {l : List UInt8} {i : Nat}, Lib.index l [32] = i → wl l = l.take i :: wl (l.drop (i + 1))
  | [], i, h => by simp [Lib.index] at h
  | c :: l, i, h => by
    unfold Lib.index at h
    by_cases hc : c = 32
    · subst hc
      simp [List.isPrefixOf] at h
      have : i = 0 := by omega
      subst this
      rw [wl, if_pos rfl]; rfl
    · have hp : List.isPrefixOf [32] (c :: l) = false := by simp [List.isPrefixOf, Ne.symm hc]
      rw [hp] at h
      have hge := Lib.index_ge l [32]
      by_cases e : Lib.index l [32] = -1
      · simp [e] at h
      · simp [e] at h
        obtain ⟨k, rfl⟩ : ∃ k, i = k + 1 := ⟨i - 1, by omega⟩
        have := wl_hit (l := l) (i := k) (by omega)
        rw [wl, if_neg hc, this]
        rfl
theorem split_wl : ∀ (n : Nat) (s : ByteArray), Lib.countB s ⟨#[32]⟩ = n → (Lib.splitB ⟨#[32]⟩ 0 n s).map (·.data.toList) = wl s.data.toList := by
  intro n
  induction n with
  | zero =>
    intro s hc
    rcases Lib.indexB_cases s ⟨#[32]⟩ with h | ⟨i, h, _⟩
    · rw [Lib.splitB_zero, wl_miss h]; rfl
    · rw [Lib.countB_hit s ⟨#[32]⟩ i (Nat.le_refl _) h] at hc; omega
  | succ n ih =>
    intro s hc
    rcases Lib.indexB_cases s ⟨#[32]⟩ with h | ⟨i, h, _⟩
    · rw [Lib.countB_miss s ⟨#[32]⟩ h] at hc; omega
    · rw [Lib.countB_hit s ⟨#[32]⟩ i (Nat.le_refl _) h] at hc
      rw [Lib.splitB_hit ⟨#[32]⟩ 0 n s i h, List.map_cons, ih _ (by omega), wl_hit h]
      have hL : s.data.toList.length = s.size := by rw [Array.length_toList]; rfl
      rw [ext_list, ext_list, List.drop_zero, Nat.add_zero]
      rw [List.take_of_length_le (show s.data.toList.length ≤ s.size by omega)]
      rfl
def wb (l : List UInt8) : ByteArray := ⟨l.toArray⟩
def ws (l : List (List UInt8)) : List AV := l.map fun x => .str (wb x)
theorem splitL_wl (s : ByteArray) : (splitL s ⟨#[32]⟩).map AV.str = ws (wl s.data.toList) := by
  unfold ws splitL
  rw [← split_wl _ s rfl, List.map_map]
  refine List.map_congr_left fun x _ => ?_
  show AV.str x = AV.str (wb x.data.toList)
  congr 1
theorem wl_len : ∀ l : List UInt8, (wl l).length ≤ l.length + 1
  | [] => by simp [wl]
  | c :: l => by
    have := wl_len l
    rw [wl]
    split
    · simp; omega
    · cases hw : wl l with
      | nil => simp
      | cons w wss => rw [hw] at this; simp at this ⊢; omega
theorem wl_small : ∀ (l : List UInt8), ∀ x, x ∈ wl l → x.length ≤ l.length
  | [], x, h => by simp [wl] at h; subst h; simp
  | c :: l, x, h => by
    have ih := wl_small l
    rw [wl] at h
    split at h
    · rcases List.mem_cons.1 h with rfl | h
      · simp
      · have := ih x h; simp; omega
    · cases hw : wl l with
      | nil => exact absurd hw (wl_ne l)
      | cons w wss =>
        rw [hw] at h ih
        rcases List.mem_cons.1 h with rfl | h
        · have := ih w (by simp); simp; omega
        · have := ih x (by simp [h]); simp; omega
end Go.Proofs.YtkdbphhekpdmhaaDoor
