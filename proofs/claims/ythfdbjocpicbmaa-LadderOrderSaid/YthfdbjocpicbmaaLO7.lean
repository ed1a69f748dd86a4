/-
  Part 7 of a proof: SqA, SqB, SqC, SqD, SqE, SqF, NdA, NdB.
-/
import Derived.IntWalk
import Derived.Test.YthfdbjocpicbmaaLO6
namespace Go.Proofs.Ythfdbjocpicbmaa
attribute [local go_sem] ev0 ev1 ev2 ev3 ev4 evA stHOk.eq_1 stHOk.eq_2 stHSt.eq_1 stHSt.eq_2 okV valV fzV okF valF okBld valBld mxOk.eq_1 mxOk.eq_2 mxVal.eq_1 mxVal.eq_2 cellFit.eq_1 cellFit.eq_2 cellFit.eq_3 cellEq.eq_1 cellEq.eq_2 cellEq.eq_3 upd_at AV.flatB AV.flatBs binIok binIV binSok binSV cellsOk.eq_1 cellsOk.eq_2 cellsVal.eq_1 cellsVal.eq_2 objCells.eq_1 objCells.eq_2 objZ.eq_1 objZ.eq_2 objProt.eq_1 objProt.eq_2 oneObj ptrOk.eq_1 ptrOk.eq_2 ptrOk.eq_3 ptrCells.eq_1 ptrCells.eq_2 ptrCells.eq_3 lenOk.eq_1 lenOk.eq_2 lenOk.eq_3 lenOk.eq_4 lenVal.eq_1 lenVal.eq_2 lenVal.eq_3 lenVal.eq_4 faOk.eq_1 faOk.eq_2 faOk.eq_3 faVal.eq_1 faVal.eq_2 faVal.eq_3 iaOk.eq_1 iaOk.eq_2 iaOk.eq_3 iaVal.eq_1 iaVal.eq_2 iaVal.eq_3 slcLen.eq_1 slcLen.eq_2 slcLen.eq_3 slcLen.eq_4 bdOk.eq_1 bdOk.eq_2 bdVal.eq_1 bdVal.eq_2 slcOk.eq_1 slcOk.eq_2 slcOk.eq_3 slcOk.eq_4 slcVal.eq_1 slcVal.eq_2 slcVal.eq_3 slcVal.eq_4 slcFz.eq_1 slcFz.eq_2 loK.eq_1 loK.eq_2 loK.eq_3 rsVal.eq_1 rsVal.eq_2 rsVal.eq_3 byOk.eq_1 byOk.eq_2 byOk.eq_3 byOk.eq_4 byOk.eq_5 byOk.eq_6 byOk.eq_7 byOk.eq_8 byVal.eq_1 byVal.eq_2 byVal.eq_3 byFz.eq_1 byFz.eq_2 byFz.eq_3 byOks byVals byFzs allOne resSt.eq_1 resSt.eq_2 resName.eq_1 resName.eq_2 stOk.eq_1 stOk.eq_2 stArr.eq_1 stArr.eq_2 stSt.eq_1 stSt.eq_2 AV.patch nameOk_none gB.eq_1 gB.eq_2 gB.eq_3 gIs.eq_1 gIs.eq_2 gIs.eq_3 retV resV resVs evalV cellsV St.byval List.getD_cons_zero List.getD_cons_succ List.getD_nil List.map_cons List.map_nil List.length_cons List.length_nil List.take_succ_cons List.take_zero List.drop_succ_cons List.drop_zero List.headD_cons List.set_cons_zero List.append_nil List.nil_append List.cons_append List.contains_cons List.contains_nil List.elem_cons List.elem_nil List.all_cons List.all_nil List.getElem?_cons_zero List.getElem?_cons_succ List.filterMap_cons List.filterMap_nil Option.isSome_some Option.isSome_none Option.map_some Option.map_none Option.some.injEq AV.int.injEq AV.bool.injEq AV.str.injEq AV.tup.injEq AV.agg.injEq AV.sl.injEq List.cons.injEq Bool.false_eq_true Bool.true_eq_false Bool.not_true Bool.not_false Bool.and_true Bool.true_and Bool.or_false Bool.or_true Bool.false_or Bool.true_or Bool.or_self Bool.and_self Bool.not_eq_true' Bool.not_eq_false' Bool.not_not beq_self_eq_true true_and and_true false_and and_false and_self not_true_eq_false not_false_eq_true forall_const true_implies false_implies implies_true imp_self Nat.lt_add_one Nat.le_refl Nat.zero_le Nat.add_zero Nat.zero_add decide_true decide_false decide_eq_true_eq decide_eq_false_iff_not exists_eq_left exists_eq_left' ge_iff_le gt_iff_lt ite_branch ite_branch' nilOk.eq_1 nilOk.eq_2 nilMay.eq_1 nilMay.eq_2 AV.isSl.eq_1 objTy'.eq_1 objTy'.eq_2 apSt.eq_1 apArr.eq_1 apArr.eq_2 apTwo.eq_1 apTwo.eq_2 apSt2.eq_1 apArr2.eq_1 apArr2.eq_2 slOf.eq_1 fitsV List.mem_cons List.not_mem_nil Bool.false_and Bool.and_false primOk.eq_1 primOk.eq_2 primOk.eq_3 primOk.eq_4 primOk.eq_5 primVal.eq_1 primVal.eq_2 primVal.eq_3 primVal.eq_4 primVal.eq_5 mOk.eq_1 mOk.eq_2 mVal.eq_1 mVal.eq_2 mFz.eq_1 mFz.eq_2 mOks mVals mFzs mCalOk.eq_1 mCalOk.eq_2 mFn.eq_1 mFn.eq_2 mArgs.eq_1 mArgs.eq_2 ckOk.eq_1 ckOk.eq_2 cloOk.eq_1 ptrAt.eq_1 sh.eq_1 sh.eq_2 sh.eq_3 sh.eq_4 sh.eq_5 sh.eq_6 retM shH_small evM entOk.eq_1 entOk.eq_2 ents.eq_1 ents.eq_2 kI.eq_1 mpOk.eq_1 mpR.eq_1 lkV.eq_1 lkV.eq_2 remp.eq_2 evP pvOk.eq_1 pvOk.eq_2 pvVal.eq_1 pvVal.eq_2 plOk.eq_1 plOk.eq_2 plOk.eq_3 plV.eq_1 plV.eq_2 plF.eq_1 plF.eq_2 plVal.eq_1 plVal.eq_2 plFz.eq_1 plFz.eq_2 lpOk.eq_1 lpOk.eq_2 lpVal.eq_1 lpVal.eq_2 lpFz.eq_1 lpFz.eq_2 stpOk.eq_1 stpOk.eq_2 stpSt.eq_1 stpSt.eq_2 stpArr.eq_1
section
/-
  Spans on the plain machine: the code's.
-/
open Go.RowKit
set_option linter.unusedVariables false
set_option linter.unusedSimpArgs false
set_option maxRecDepth 100000
attribute [local go_sem ↓] runOp headOp
structure Spn where
  lo : ByteArray
  hi : ByteArray
  op : Bool
deriving DecidableEq
def Spn.a (s : Spn) : AV := .agg [.str s.lo, .str s.hi, .bool s.op]
def lt (a b : ByteArray) : Bool := Op.bytesLess a.toList b.toList
def Spn.has (s : Spn) (k : ByteArray) : Bool := !lt k s.lo && (s.op || lt k s.hi)
def Spn.empty (s : Spn) : Bool := !s.op && !lt s.lo s.hi
def Spn.none : Spn := ⟨⟨#[]⟩, ⟨#[]⟩, false⟩
def Spn.norm (s : Spn) : Spn := if s.empty then Spn.none else if s.op then ⟨s.lo, ⟨#[]⟩, true⟩ else s
def maxS (a b : ByteArray) : ByteArray := if lt a b then b else a
def minS (a b : ByteArray) : ByteArray := if lt b a then b else a
def Spn.cut (a b : Spn) : Spn := ⟨maxS a.lo b.lo, if a.op then b.hi else if b.op then a.hi else minS a.hi b.hi, a.op && b.op⟩
def Spn.meet (a b : Spn) : Spn := (a.cut b).norm
def Spn.within (a b : Spn) : Bool := decide ((a.meet b).norm = a.norm)
def Spn.touch (a b : Spn) : Bool := !(a.meet b).empty
/-! ### percolate/span.Empty -/
attribute [local irreducible] mxS mnS
/-! ### percolate/span.Has -/
/-! ### percolate/span.Point -/
/-! ### percolate/key.Next -/
theorem Spn.ext' {a b : Spn} (h1 : a.lo = b.lo) (h2 : a.hi = b.hi) (h3 : a.op = b.op) : a = b := by cases a; cases b; simp_all
def pointS (k : ByteArray) : Spn := ⟨k, k ++ ⟨#[0]⟩, false⟩
end
section
/-
  Effects and messages on the plain machine: the code's.
-/
open Go.RowKit
set_option linter.unusedVariables false
set_option linter.unusedSimpArgs false
set_option maxRecDepth 100000
attribute [local go_sem ↓] runOp headOp
structure Eff where
  kind : Int
  val : ByteArray
deriving DecidableEq
structure Msg where
  stamp : Int
  kind : Int
  key : ByteArray
  hi : ByteArray
  op : Bool
  val : ByteArray
deriving DecidableEq
def Eff.a (e : Eff) : AV := .agg [.int .i64 e.kind, .str e.val]
def Msg.a (m : Msg) : AV := .agg [.int .i64 m.stamp, .int .i64 m.kind, .str m.key, .str m.hi, .bool m.op, .str m.val]
def Eff.none : Eff := ⟨0, ⟨#[]⟩⟩
def tail16 (s : ByteArray) : ByteArray := s.extract (s.size - 16) s.size
def Eff.thenC (a b : Eff) : Eff := if b.kind = 0 then a else if b.kind ≠ 2 ∨ a.kind = 0 then b else ⟨if a.kind = 2 then 2 else 1, tail16 ((if a.kind = 3 then ⟨#[]⟩ else a.val) ++ b.val)⟩
def Eff.thenR (a b : Eff) : Eff := if b.kind = 0 then a else if b.kind ≠ 2 ∨ a.kind = 0 then b else ⟨if a.kind = 2 then 2 else 1, tail16 (a.val ++ b.val)⟩
theorem then_same {a : Eff} (b : Eff) (h : a.kind = 3 → a.val = ⟨#[]⟩) : a.thenC b = a.thenR b := by
  unfold Eff.thenC Eff.thenR
  split
  · rfl
  · split
    · rfl
    · by_cases h3 : a.kind = 3
      · rw [if_pos h3, h h3]
      · rw [if_neg h3]
def Msg.span (m : Msg) : Spn := if m.kind = 4 then ⟨m.key, m.hi, m.op⟩ else pointS m.key
def Msg.on (m : Msg) (k : ByteArray) : Eff := if m.span.has k = true then (if m.kind = 1 ∨ m.kind = 2 then ⟨m.kind, m.val⟩ else if m.kind = 3 ∨ m.kind = 4 then ⟨3, ⟨#[]⟩⟩ else Eff.none) else Eff.none
/-! ### percolate/value.Tail -/
/-! ### percolate/value.Add -/
/-! ### percolate/effect.Apply -/
/-! ### percolate/message.Span -/
/-! ### percolate/message.On -/
def joinF (a b : Msg) : Msg × Bool :=
  if b.kind = 4 ∧ a.span.within b.span = true then (b, true)
  else if a.kind = 4 ∨ b.kind = 4 ∨ a.key ≠ b.key then (⟨0, 0, ⟨#[]⟩, ⟨#[]⟩, false, ⟨#[]⟩⟩, false)
  else ({ b with kind := ((a.on a.key).thenC (b.on b.key)).kind, val := ((a.on a.key).thenC (b.on b.key)).val }, true)
end
section
/-
  Lists of messages on the plain machine: the library's functions, Next, Dead.
-/
open Go.RowKit
set_option linter.unusedVariables false
set_option linter.unusedSimpArgs false
set_option maxRecDepth 100000
def MOk (l : List Msg) : Prop := l.length ≤ 1000000 ∧ ∀ m, m ∈ l → m.key.size ≤ 9223372036854775806
def firstFrom (p : Nat → Bool) : Nat → Nat → Option Nat
  | 0, _ => none
  | f + 1, j => if p j then some j else firstFrom p f (j + 1)
def nextOf (l : List Msg) (i : Nat) : Option Nat := match l[i]? with
  | some m => firstFrom (fun j => (l[j]?).any fun x => x.span.touch m.span) (l.length - (i + 1)) (i + 1)
  | none => none
def cov (l : List Msg) (i : Nat) : Bool := match l[i]? with
  | some m => (l.drop (i + 1)).any fun x => x.kind == 4 && m.span.within x.span
  | none => false
def dead (l : List Msg) (i : Nat) : Bool := match l[i]? with
  | some m => if m.kind = 4 then cov l i else match nextOf l i with
    | some j => (l[j]?).any fun x => x.kind != 2
    | none => false
  | none => false
theorem firstFrom_some {p : Nat → Bool} : ∀ {f j k : Nat}, firstFrom p f j = some k → j ≤ k ∧ k < j + f ∧ p k = true
  | 0, j, k, h => by simp [firstFrom] at h
  | f + 1, j, k, h => by
    simp only [firstFrom] at h
    by_cases hp : p j = true
    · rw [if_pos hp] at h; cases h
      exact ⟨Nat.le_refl _, by omega, hp⟩
    · rw [if_neg hp] at h
      obtain ⟨h1, h2, h3⟩ := firstFrom_some h
      exact ⟨by omega, by omega, h3⟩
theorem nextOf_lt {l : List Msg} {i j : Nat} (h : nextOf l i = some j) : i < j ∧ ∃ x, l[j]? = some x := by
  unfold nextOf at h
  split at h
  · obtain ⟨h1, h2, h3⟩ := firstFrom_some h
    refine ⟨by omega, ?_⟩
    cases hx : l[j]? with
    | none => simp only [hx] at h3; cases h3
    | some x => exact ⟨x, rfl⟩
  · cases h
end
section
/-
  Squeeze on the plain machine.
-/
open Go.RowKit
set_option linter.unusedVariables false
set_option linter.unusedSimpArgs false
set_option maxRecDepth 100000
def sqGo : Nat → Nat → List Msg → List Msg → List Msg
  | 0, _, _, out => out
  | f + 1, i, rest, out => match rest[i]? with
    | none => out
    | some m => if dead rest i then sqGo f (i + 1) rest out else match nextOf rest i with
      | none => sqGo f (i + 1) rest (out ++ [m])
      | some j => if m.kind = 4 then sqGo f (i + 1) rest (out ++ [m]) else match rest[j]? with
        | none => out
        | some x => if (joinF m x).2 then sqGo f (i + 1) (rest.set j (joinF m x).1) out else sqGo f (i + 1) rest (out ++ [m])
def squeezeF (l : List Msg) : List Msg := sqGo l.length 0 l []
def ROk (l : List Msg) : Prop := l.length ≤ 1000000 ∧ ∀ m, m ∈ l → m.key.size ≤ 9223372036854775806 ∧ m.val.size ≤ 4611686018427387903
theorem ROk.ok {l : List Msg} (h : ROk l) : MOk l := ⟨h.1, fun m hm => (h.2 m hm).1⟩
theorem on_size (m : Msg) (k : ByteArray) : (m.on k).val.size ≤ m.val.size := by
  unfold Msg.on Eff.none
  split
  · split
    · exact Nat.le_refl _
    · split <;> exact Nat.zero_le _
  · exact Nat.zero_le _
theorem tail16_size (s : ByteArray) : (tail16 s).size ≤ 16 := by
  unfold tail16
  rw [ByteArray.size_extract]
  omega
end
section
/-
  The document's spans and messages on the plain machine.
-/
open Go.RowKit
set_option linter.unusedVariables false
set_option linter.unusedSimpArgs false
set_option maxRecDepth 100000
attribute [local go_sem ↓] runOp headOp
theorem drop_less (x y : List UInt8) (j : Nat) (hx : j < x.length) (hy : j < y.length) : Op.bytesLess (x.drop j) (y.drop j) = if (x.getD j 0) = (y.getD j 0) then Op.bytesLess (x.drop (j + 1)) (y.drop (j + 1)) else decide (x.getD j 0 < y.getD j 0) := by
  rw [List.drop_eq_getElem_cons hx, List.drop_eq_getElem_cons hy, kp.less_cons, List.getD_eq_getElem?_getD, List.getD_eq_getElem?_getD, List.getElem?_eq_getElem hx, List.getElem?_eq_getElem hy]
  simp only [Option.getD_some]
  by_cases h : x[j] = y[j]
  · rw [if_pos h, h]; simp
  · rw [if_neg h]; simp [h]
def lessInv (a b : ByteArray) (r : Bool) (k : Nat) (σ : St) : Prop :=
  ∃ j : Nat, j ≤ a.size ∧ j ≤ b.size ∧ k = a.size - j ∧ σ.T 0 = .str a ∧ σ.T 1 = .str b ∧ σ.T 5 = .int .i64 j ∧ Op.bytesLess (a.data.toList.drop j) (b.data.toList.drop j) = r
/-! ### percolate/percolateref01.Less -/
def r_rLess_0 : Reg := ⟨[], [⟨(.mv (.c (.bool false))), (some 4), none, [], []⟩], [], [], false⟩
def r_rLess_1 : Reg := ⟨[], [⟨(.mv (.c (.int .i64 0))), (some 5), none, [], []⟩], [], [], false⟩
def t_rLess_2 : List ROp := [⟨(.mv (.t 5)), (some 6), none, [], []⟩, ⟨(.mv (.t 0)), (some 7), none, [], []⟩, ⟨(.len true (.t 7)), (some 8), none, [], []⟩, ⟨(.bin .lss (.t 6) (.t 8)), (some 9), none, [], []⟩, ⟨(.mv (.t 9)), (some 10), none, [], []⟩, ⟨(.mv (.t 5)), (some 11), (some (10, true)), [], []⟩, ⟨(.mv (.t 1)), (some 12), (some (10, true)), [], []⟩, ⟨(.len true (.t 12)), (some 13), (some (10, true)), [], []⟩, ⟨(.bin .lss (.t 11) (.t 13)), (some 14), (some (10, true)), [], []⟩, ⟨(.pick (.t 10) (.t 14) (.c (.bool false))), (some 15), none, [], []⟩]
def r_rLess_2 : Reg := ⟨[], t_rLess_2, [], [], false⟩
def h_rLess_3 : List ROp := [⟨(.mv (.t 0)), (some 18), none, [], []⟩, ⟨(.mv (.t 5)), (some 19), none, [], []⟩, ⟨(.idx (.t 18) (.t 19)), (some 20), none, [], []⟩, ⟨(.mv (.t 1)), (some 21), none, [], []⟩, ⟨(.mv (.t 5)), (some 22), none, [], []⟩, ⟨(.idx (.t 21) (.t 22)), (some 23), none, [], []⟩]
def r_rLess_3 : Reg := ⟨h_rLess_3, [⟨(.bin .neq (.t 20) (.t 23)), (some 24), none, [], []⟩], [], [], true⟩
def h_rLess_4 : List ROp := [⟨(.mv (.t 0)), (some 25), none, [], []⟩, ⟨(.mv (.t 5)), (some 26), none, [], []⟩, ⟨(.idx (.t 25) (.t 26)), (some 27), none, [], []⟩, ⟨(.mv (.t 1)), (some 28), none, [], []⟩, ⟨(.mv (.t 5)), (some 29), none, [], []⟩, ⟨(.idx (.t 28) (.t 29)), (some 30), none, [], []⟩]
def r_rLess_4 : Reg := ⟨h_rLess_4, [⟨(.bin .lss (.t 27) (.t 30)), (some 31), none, [], []⟩, ⟨(.mv (.t 31)), (some 4), none, [], []⟩], [], [], true⟩
def t_rLess_5 : List ROp := [⟨(.mv (.t 5)), (some 16), none, [], []⟩, ⟨(.bin .add (.t 16) (.c (.int .i64 1))), (some 17), none, [], []⟩, ⟨(.mv (.t 17)), (some 5), none, [], []⟩]
def r_rLess_5 : Reg := ⟨[], t_rLess_5, [], [], false⟩
def r_rLess_l6 : IR := (.seq (.seq (.reg r_rLess_2)
  (.cond (.t 15) .skip
  (.exit 0)))
  (.seq (.block 1 (.seq (.reg r_rLess_3)
  (.cond (.t 24) (.seq (.reg r_rLess_4)
  .ret)
  .skip)))
  (.reg r_rLess_5)))
def t_rLess_7 : List ROp := [⟨(.mv (.t 0)), (some 32), none, [], []⟩, ⟨(.len true (.t 32)), (some 33), none, [], []⟩, ⟨(.mv (.t 1)), (some 34), none, [], []⟩, ⟨(.len true (.t 34)), (some 35), none, [], []⟩, ⟨(.bin .lss (.t 33) (.t 35)), (some 36), none, [], []⟩, ⟨(.mv (.t 36)), (some 4), none, [], []⟩]
def r_rLess_7 : Reg := ⟨[], t_rLess_7, [], [], false⟩
def ir_rLess : IR := (.seq (.reg r_rLess_0)
  (.seq (.seq (.reg r_rLess_1)
  (.block 0 (.loop r_rLess_l6)))
  (.seq (.reg r_rLess_7)
  .ret)))
def res_rLess : List RDesc := [(.tmp 4)]
theorem e_rLess_0 (C : FuncId → List AV → AV → Prop) (σ : St) (K : St → Prop) : runReg C r_rLess_0 σ K = runOps C [⟨(.mv (.c (.bool false))), (some 4), none, [], []⟩] (σ.kills []) K := rfl
theorem e_rLess_1 (C : FuncId → List AV → AV → Prop) (σ : St) (K : St → Prop) : runReg C r_rLess_1 σ K = runOps C [⟨(.mv (.c (.int .i64 0))), (some 5), none, [], []⟩] (σ.kills []) K := rfl
theorem e_rLess_2 (C : FuncId → List AV → AV → Prop) (σ : St) (K : St → Prop) : runReg C r_rLess_2 σ K = runOps C t_rLess_2 (σ.kills []) K := rfl
theorem e_rLess_3 (C : FuncId → List AV → AV → Prop) (σ : St) (K : St → Prop) : runReg C r_rLess_3 σ K = runHead C [] [⟨(.bin .neq (.t 20) (.t 23)), (some 24), none, [], []⟩] h_rLess_3 (σ.kills []) K := rfl
theorem e_rLess_4 (C : FuncId → List AV → AV → Prop) (σ : St) (K : St → Prop) : runReg C r_rLess_4 σ K = runHead C [] [⟨(.bin .lss (.t 27) (.t 30)), (some 31), none, [], []⟩, ⟨(.mv (.t 31)), (some 4), none, [], []⟩] h_rLess_4 (σ.kills []) K := rfl
theorem e_rLess_5 (C : FuncId → List AV → AV → Prop) (σ : St) (K : St → Prop) : runReg C r_rLess_5 σ K = runOps C t_rLess_5 (σ.kills []) K := rfl
theorem e_rLess_7 (C : FuncId → List AV → AV → Prop) (σ : St) (K : St → Prop) : runReg C r_rLess_7 σ K = runOps C t_rLess_7 (σ.kills []) K := rfl
theorem fn_rLess {args : List AV} {r : AV} (ha : args.length.ble Try.f91.ntmps = true) (h : run (AFn Try.prog) ir_rLess (endQ res_rLess r) (initSt args)) : AFn Try.prog 91 args r :=
  AFn.of_code (pv := false) (hint := fun _ => []) (c := Try.f91.body.getD .skip) (by kernel_rfl) (by kernel_rfl) Try.func91 (by kernel_rfl) (by kernel_rfl) (by kernel_rfl) (of_decide_eq_true (by kernel_rfl)) (Nat.le_of_ble_eq_true ha) (Nat.le_of_ble_eq_true (by kernel_rfl)) (run_ok h)
attribute [local go_sem ↓] ir_rLess
attribute [local go_sem] res_rLess e_rLess_0 e_rLess_1 e_rLess_2 t_rLess_2 e_rLess_3 h_rLess_3 e_rLess_4 h_rLess_4 e_rLess_5 t_rLess_5 e_rLess_7 t_rLess_7
theorem refLess (a b : ByteArray) (ha : a.size ≤ 9223372036854775807) (hb : b.size ≤ 9223372036854775807) : AFn Try.prog 91 [.str a, .str b] (.bool (lt a b)) := by
  have hla : a.data.toList.length = a.size := by rw [Array.length_toList]; rfl
  have hlb : b.data.toList.length = b.size := by rw [Array.length_toList]; rfl
  refine fn_rLess rfl ?_
  simp (maxSteps := 4000000) only [go_sem, ↓reduceIte, reduceCtorEq, Nat.reduceEqDiff, Nat.reduceBEq, Nat.reduceAdd, Nat.reduceSub, Nat.reduceMul, Nat.reduceLT, Nat.reduceLeDiff, Nat.reduceBNe, Int.reduceBEq, Int.reduceBNe, Int.reduceLT, Int.reduceLE, Spn.a, Msg.a, Eff.a]
  refine run_loop (lessInv a b (lt a b)) (k := a.size) ⟨0, by omega, by omega, rfl, ?_, ?_, ?_, ?_⟩ ?_
  · simp (maxSteps := 4000000) only [go_sem, ↓reduceIte, reduceCtorEq, Nat.reduceEqDiff, Nat.reduceBEq, Nat.reduceAdd, Nat.reduceSub, Nat.reduceMul, Nat.reduceLT, Nat.reduceLeDiff, Nat.reduceBNe, Int.reduceBEq, Int.reduceBNe, Int.reduceLT, Int.reduceLE, Spn.a, Msg.a, Eff.a]
  · simp (maxSteps := 4000000) only [go_sem, ↓reduceIte, reduceCtorEq, Nat.reduceEqDiff, Nat.reduceBEq, Nat.reduceAdd, Nat.reduceSub, Nat.reduceMul, Nat.reduceLT, Nat.reduceLeDiff, Nat.reduceBNe, Int.reduceBEq, Int.reduceBNe, Int.reduceLT, Int.reduceLE, Spn.a, Msg.a, Eff.a]
  · simp (maxSteps := 4000000) only [go_sem, ↓reduceIte, reduceCtorEq, Nat.reduceEqDiff, Nat.reduceBEq, Nat.reduceAdd, Nat.reduceSub, Nat.reduceMul, Nat.reduceLT, Nat.reduceLeDiff, Nat.reduceBNe, Int.reduceBEq, Int.reduceBNe, Int.reduceLT, Int.reduceLE, Spn.a, Msg.a, Eff.a]
    rfl
  · simp only [List.drop_zero, lt, ByteArray.toList_eq]
  rintro k σ ⟨j, hja, hjb, rfl, t0, t1, t5, hr⟩
  simp only [r_rLess_l6]
  by_cases h1 : j < a.size
  · have h1' : (j : Int) < (a.size : Int) := by omega
    by_cases h2 : j < b.size
    · have h2' : (j : Int) < (b.size : Int) := by omega
      have hw : IntKind.i64.wrap ((j : Int) + 1) = ((j + 1 : Nat) : Int) := by rw [IntWalk.i64_in _ (by omega)]; rfl
      rw [drop_less _ _ _ (by omega) (by omega)] at hr
      by_cases h3 : a.data.toList.getD j 0 = b.data.toList.getD j 0
      · rw [if_pos h3] at hr
        simp (maxSteps := 4000000) only [go_sem, ↓reduceIte, reduceCtorEq, Nat.reduceEqDiff, Nat.reduceBEq, Nat.reduceAdd, Nat.reduceSub, Nat.reduceMul, Nat.reduceLT, Nat.reduceLeDiff, Nat.reduceBNe, Int.reduceBEq, Int.reduceBNe, Int.reduceLT, Int.reduceLE, Spn.a, Msg.a, Eff.a, t0, t1, t5, h1', h2', h3, decide_true, Int.toNat_natCast, bne_self_eq_false]
        refine ⟨by omega, by omega, ?_⟩
        refine ⟨a.size - (j + 1), by omega, j + 1, by omega, by omega, rfl, ?_, ?_, ?_, hr⟩ <;>
          (simp (maxSteps := 4000000) only [go_sem, ↓reduceIte, reduceCtorEq, Nat.reduceEqDiff, Nat.reduceBEq, Nat.reduceAdd, Nat.reduceSub, Nat.reduceMul, Nat.reduceLT, Nat.reduceLeDiff, Nat.reduceBNe, Int.reduceBEq, Int.reduceBNe, Int.reduceLT, Int.reduceLE, Spn.a, Msg.a, Eff.a, t0, t1, t5, hw])
      · rw [if_neg h3] at hr
        have h3' : (((a.data.toList.getD j 0).toNat : Int) != ((b.data.toList.getD j 0).toNat : Int)) = true := by
          simp only [bne_iff_ne, ne_eq]
          intro e
          exact h3 (UInt8.toNat.inj (by omega))
        simp (maxSteps := 4000000) only [go_sem, ↓reduceIte, reduceCtorEq, Nat.reduceEqDiff, Nat.reduceBEq, Nat.reduceAdd, Nat.reduceSub, Nat.reduceMul, Nat.reduceLT, Nat.reduceLeDiff, Nat.reduceBNe, Int.reduceBEq, Int.reduceBNe, Int.reduceLT, Int.reduceLE, Spn.a, Msg.a, Eff.a, t0, t1, t5, h1', h2', decide_true, Int.toNat_natCast, h3']
        refine ⟨by omega, by omega, ?_⟩
        rw [← hr]
        simp [UInt8.lt_iff_toNat_lt]
    · have h2' : ¬ (j : Int) < (b.size : Int) := by omega
      simp (maxSteps := 4000000) only [go_sem, ↓reduceIte, reduceCtorEq, Nat.reduceEqDiff, Nat.reduceBEq, Nat.reduceAdd, Nat.reduceSub, Nat.reduceMul, Nat.reduceLT, Nat.reduceLeDiff, Nat.reduceBNe, Int.reduceBEq, Int.reduceBNe, Int.reduceLT, Int.reduceLE, Spn.a, Msg.a, Eff.a, t0, t1, t5, h1', h2', decide_true, decide_false]
      rw [← hr, show j = b.size by omega]
      rw [show b.data.toList.drop b.size = [] by rw [List.drop_eq_nil_of_le (by omega)], kp.less_nil]
      have : ¬ (a.size : Int) < b.size := by omega
      simp [this]
  · have h1' : ¬ (j : Int) < (a.size : Int) := by omega
    simp (maxSteps := 4000000) only [go_sem, ↓reduceIte, reduceCtorEq, Nat.reduceEqDiff, Nat.reduceBEq, Nat.reduceAdd, Nat.reduceSub, Nat.reduceMul, Nat.reduceLT, Nat.reduceLeDiff, Nat.reduceBNe, Int.reduceBEq, Int.reduceBNe, Int.reduceLT, Int.reduceLE, Spn.a, Msg.a, Eff.a, t0, t1, t5, h1', decide_false]
    have e : j = a.size := by omega
    subst e
    rw [← hr, show a.data.toList.drop a.size = [] by rw [List.drop_eq_nil_of_le (by omega)]]
    by_cases h2 : a.size < b.size
    · rw [List.drop_eq_getElem_cons (by omega), kp.nil_less]
      simp; omega
    · rw [List.drop_eq_nil_of_le (by omega), kp.less_nil]
      simp; omega
/-! ### percolate/percolateref02.Has -/
def r_rHas_0 : Reg := ⟨[], [⟨(.box 3 38 (.t 0)), (some 2), none, [], []⟩, ⟨(.mv (.c (.bool false))), (some 4), none, [], []⟩], [2], [], false⟩
def t_rHas_1 : List ROp := [⟨(.mv (.t 1)), (some 5), none, [8, 17], []⟩, ⟨(.faddr 0 (.t 2)), (some 6), none, [8, 17], []⟩, ⟨(.load 1 false (.t 6)), (some 7), none, [8, 17], []⟩, ⟨(.callv (.c (.clo 91 [] [])) [(.t 5), (.t 7)]), (some 8), none, [17], []⟩, ⟨(.un .not (.t 8)), (some 9), none, [17], []⟩, ⟨(.mv (.t 9)), (some 10), none, [17], []⟩, ⟨(.faddr 2 (.t 2)), (some 11), (some (10, true)), [17], []⟩, ⟨(.load 1 false (.t 11)), (some 12), (some (10, true)), [17], []⟩, ⟨(.mv (.t 12)), (some 13), (some (10, true)), [17], []⟩, ⟨(.mv (.t 1)), (some 14), (some (13, false)), [17], []⟩, ⟨(.faddr 1 (.t 2)), (some 15), (some (13, false)), [17], []⟩, ⟨(.load 1 false (.t 15)), (some 16), (some (13, false)), [17], []⟩, ⟨(.callv (.c (.clo 91 [] [])) [(.t 14), (.t 16)]), (some 17), (some (13, false)), [], []⟩, ⟨(.pick (.t 13) (.c (.bool true)) (.t 17)), (some 18), (some (10, true)), [], []⟩, ⟨(.pick (.t 10) (.t 18) (.c (.bool false))), (some 19), none, [], []⟩, ⟨(.mv (.t 19)), (some 4), none, [], []⟩]
def r_rHas_1 : Reg := ⟨[], t_rHas_1, [8, 17], [], false⟩
def ir_rHas : IR := (.seq (.reg r_rHas_0)
  (.seq (.reg r_rHas_1)
  .ret))
def res_rHas : List RDesc := [(.tmp 4)]
theorem e_rHas_0 (C : FuncId → List AV → AV → Prop) (σ : St) (K : St → Prop) : runReg C r_rHas_0 σ K = runOps C [⟨(.box 3 38 (.t 0)), (some 2), none, [], []⟩, ⟨(.mv (.c (.bool false))), (some 4), none, [], []⟩] (σ.kills [2]) K := rfl
theorem e_rHas_1 (C : FuncId → List AV → AV → Prop) (σ : St) (K : St → Prop) : runReg C r_rHas_1 σ K = runOps C t_rHas_1 (σ.kills [8, 17]) K := rfl
theorem fn_rHas {args : List AV} {r : AV} (ha : args.length.ble Try.f119.ntmps = true) (h : run (AFn Try.prog) ir_rHas (endQ res_rHas r) (initSt args)) : AFn Try.prog 119 args r :=
  AFn.of_code (pv := false) (hint := fun _ => []) (c := Try.f119.body.getD .skip) (by kernel_rfl) (by kernel_rfl) Try.func119 (by kernel_rfl) (by kernel_rfl) (by kernel_rfl) (of_decide_eq_true (by kernel_rfl)) (Nat.le_of_ble_eq_true ha) (Nat.le_of_ble_eq_true (by kernel_rfl)) (run_ok h)
/-! ### percolate/percolateref02.Empty -/
def r_rEmpty_0 : Reg := ⟨[], [⟨(.box 3 38 (.t 0)), (some 1), none, [], []⟩, ⟨(.mv (.c (.bool false))), (some 2), none, [], []⟩], [1], [], false⟩
def t_rEmpty_1 : List ROp := [⟨(.load 3 true (.t 1)), (some 3), none, [6], []⟩, ⟨(.faddr 0 (.t 1)), (some 4), none, [6], []⟩, ⟨(.load 1 false (.t 4)), (some 5), none, [6], []⟩, ⟨(.callv (.c (.clo 119 [] [])) [(.t 3), (.t 5)]), (some 6), none, [], []⟩, ⟨(.un .not (.t 6)), (some 7), none, [], []⟩, ⟨(.mv (.t 7)), (some 2), none, [], []⟩]
def r_rEmpty_1 : Reg := ⟨[], t_rEmpty_1, [6], [], false⟩
def ir_rEmpty : IR := (.seq (.reg r_rEmpty_0)
  (.seq (.reg r_rEmpty_1)
  .ret))
def res_rEmpty : List RDesc := [(.tmp 2)]
theorem e_rEmpty_0 (C : FuncId → List AV → AV → Prop) (σ : St) (K : St → Prop) : runReg C r_rEmpty_0 σ K = runOps C [⟨(.box 3 38 (.t 0)), (some 1), none, [], []⟩, ⟨(.mv (.c (.bool false))), (some 2), none, [], []⟩] (σ.kills [1]) K := rfl
theorem e_rEmpty_1 (C : FuncId → List AV → AV → Prop) (σ : St) (K : St → Prop) : runReg C r_rEmpty_1 σ K = runOps C t_rEmpty_1 (σ.kills [6]) K := rfl
theorem fn_rEmpty {args : List AV} {r : AV} (ha : args.length.ble Try.f121.ntmps = true) (h : run (AFn Try.prog) ir_rEmpty (endQ res_rEmpty r) (initSt args)) : AFn Try.prog 121 args r :=
  AFn.of_code (pv := false) (hint := fun _ => []) (c := Try.f121.body.getD .skip) (by kernel_rfl) (by kernel_rfl) Try.func121 (by kernel_rfl) (by kernel_rfl) (by kernel_rfl) (of_decide_eq_true (by kernel_rfl)) (Nat.le_of_ble_eq_true ha) (Nat.le_of_ble_eq_true (by kernel_rfl)) (run_ok h)
/-! ### percolate/percolateref02.Norm -/
def t_rNorm_0 : List ROp := [⟨(.box 3 38 (.t 0)), (some 1), none, [2], []⟩, ⟨(.alloc 3 38 (.agg [(.str ⟨#[]⟩), (.str ⟨#[]⟩), (.bool false)])), (some 2), none, [], []⟩]
def r_rNorm_0 : Reg := ⟨[], t_rNorm_0, [1, 2], [], false⟩
def r_rNorm_1 : Reg := ⟨[], [⟨(.load 3 true (.t 1)), (some 3), none, [4], []⟩, ⟨(.callv (.c (.clo 121 [] [])) [(.t 3)]), (some 4), none, [], []⟩], [4], [], false⟩
def t_rNorm_2 : List ROp := [⟨(.bld [(.str ⟨#[]⟩), (.str ⟨#[]⟩), (.bool false)] []), (some 5), none, [], []⟩, ⟨(.store 3 (.t 2) (.t 5)), none, none, [], []⟩]
def r_rNorm_2 : Reg := ⟨[], t_rNorm_2, [], [], false⟩
def r_rNorm_3 : Reg := ⟨[], [⟨(.faddr 2 (.t 1)), (some 6), none, [], []⟩, ⟨(.load 1 false (.t 6)), (some 7), none, [], []⟩], [], [], false⟩
def r_rNorm_4 : Reg := ⟨[], [⟨(.faddr 1 (.t 1)), (some 8), none, [], []⟩, ⟨(.store 1 (.t 8) (.c (.str ⟨#[]⟩))), none, none, [], []⟩], [], [], false⟩
def r_rNorm_5 : Reg := ⟨[], [⟨(.load 3 true (.t 1)), (some 9), none, [], []⟩, ⟨(.store 3 (.t 2) (.t 9)), none, none, [], []⟩], [], [], false⟩
def ir_rNorm : IR := (.seq (.reg r_rNorm_0)
  (.seq (.seq (.reg r_rNorm_1)
  (.cond (.t 4) (.seq (.reg r_rNorm_2)
  .ret)
  .skip))
  (.seq (.seq (.reg r_rNorm_3)
  (.cond (.t 7) (.reg r_rNorm_4)
  .skip))
  (.seq (.reg r_rNorm_5)
  .ret))))
def res_rNorm : List RDesc := [(.cell 2 3 true)]
theorem e_rNorm_0 (C : FuncId → List AV → AV → Prop) (σ : St) (K : St → Prop) : runReg C r_rNorm_0 σ K = runOps C t_rNorm_0 (σ.kills [1, 2]) K := rfl
theorem e_rNorm_1 (C : FuncId → List AV → AV → Prop) (σ : St) (K : St → Prop) : runReg C r_rNorm_1 σ K = runOps C [⟨(.load 3 true (.t 1)), (some 3), none, [4], []⟩, ⟨(.callv (.c (.clo 121 [] [])) [(.t 3)]), (some 4), none, [], []⟩] (σ.kills [4]) K := rfl
theorem e_rNorm_2 (C : FuncId → List AV → AV → Prop) (σ : St) (K : St → Prop) : runReg C r_rNorm_2 σ K = runOps C t_rNorm_2 (σ.kills []) K := rfl
theorem e_rNorm_3 (C : FuncId → List AV → AV → Prop) (σ : St) (K : St → Prop) : runReg C r_rNorm_3 σ K = runOps C [⟨(.faddr 2 (.t 1)), (some 6), none, [], []⟩, ⟨(.load 1 false (.t 6)), (some 7), none, [], []⟩] (σ.kills []) K := rfl
theorem e_rNorm_4 (C : FuncId → List AV → AV → Prop) (σ : St) (K : St → Prop) : runReg C r_rNorm_4 σ K = runOps C [⟨(.faddr 1 (.t 1)), (some 8), none, [], []⟩, ⟨(.store 1 (.t 8) (.c (.str ⟨#[]⟩))), none, none, [], []⟩] (σ.kills []) K := rfl
theorem e_rNorm_5 (C : FuncId → List AV → AV → Prop) (σ : St) (K : St → Prop) : runReg C r_rNorm_5 σ K = runOps C [⟨(.load 3 true (.t 1)), (some 9), none, [], []⟩, ⟨(.store 3 (.t 2) (.t 9)), none, none, [], []⟩] (σ.kills []) K := rfl
theorem fn_rNorm {args : List AV} {r : AV} (ha : args.length.ble Try.f92.ntmps = true) (h : run (AFn Try.prog) ir_rNorm (endQ res_rNorm r) (initSt args)) : AFn Try.prog 92 args r :=
  AFn.of_code (pv := false) (hint := fun _ => []) (c := Try.f92.body.getD .skip) (by kernel_rfl) (by kernel_rfl) Try.func92 (by kernel_rfl) (by kernel_rfl) (by kernel_rfl) (of_decide_eq_true (by kernel_rfl)) (Nat.le_of_ble_eq_true ha) (Nat.le_of_ble_eq_true (by kernel_rfl)) (run_ok h)
/-! ### percolate/percolateref02.Meet -/
def t_rMeet_0 : List ROp := [⟨(.box 3 38 (.t 0)), (some 2), none, [3, 4], []⟩, ⟨(.box 3 38 (.t 1)), (some 3), none, [4], []⟩, ⟨(.alloc 3 38 (.agg [(.str ⟨#[]⟩), (.str ⟨#[]⟩), (.bool false)])), (some 4), none, [], []⟩]
def r_rMeet_0 : Reg := ⟨[], t_rMeet_0, [2, 3, 4], [], false⟩
def t_rMeet_1 : List ROp := [⟨(.load 3 true (.t 2)), (some 6), none, [5], []⟩, ⟨(.alloc 3 38 (.agg [(.str ⟨#[]⟩), (.str ⟨#[]⟩), (.bool false)])), (some 5), none, [], []⟩, ⟨(.store 3 (.t 5) (.t 6)), none, none, [], []⟩]
def r_rMeet_1 : Reg := ⟨[], t_rMeet_1, [5], [], false⟩
def t_rMeet_2 : List ROp := [⟨(.faddr 0 (.t 2)), (some 7), none, [11], []⟩, ⟨(.load 1 false (.t 7)), (some 8), none, [11], []⟩, ⟨(.faddr 0 (.t 3)), (some 9), none, [11], []⟩, ⟨(.load 1 false (.t 9)), (some 10), none, [11], []⟩, ⟨(.callv (.c (.clo 91 [] [])) [(.t 8), (.t 10)]), (some 11), none, [], []⟩]
def r_rMeet_2 : Reg := ⟨[], t_rMeet_2, [11], [], false⟩
def t_rMeet_3 : List ROp := [⟨(.faddr 0 (.t 3)), (some 12), none, [], []⟩, ⟨(.load 1 false (.t 12)), (some 13), none, [], []⟩, ⟨(.faddr 0 (.t 5)), (some 14), none, [], []⟩, ⟨(.store 1 (.t 14) (.t 13)), none, none, [], []⟩]
def r_rMeet_3 : Reg := ⟨[], t_rMeet_3, [], [], false⟩
def t_rMeet_4 : List ROp := [⟨(.faddr 2 (.t 3)), (some 15), none, [26], []⟩, ⟨(.load 1 false (.t 15)), (some 16), none, [26], []⟩, ⟨(.un .not (.t 16)), (some 17), none, [26], []⟩, ⟨(.mv (.t 17)), (some 18), none, [26], []⟩, ⟨(.faddr 2 (.t 2)), (some 19), (some (18, true)), [26], []⟩, ⟨(.load 1 false (.t 19)), (some 20), (some (18, true)), [26], []⟩, ⟨(.mv (.t 20)), (some 21), (some (18, true)), [26], []⟩, ⟨(.faddr 1 (.t 3)), (some 22), (some (21, false)), [26], []⟩, ⟨(.load 1 false (.t 22)), (some 23), (some (21, false)), [26], []⟩, ⟨(.faddr 1 (.t 2)), (some 24), (some (21, false)), [26], []⟩, ⟨(.load 1 false (.t 24)), (some 25), (some (21, false)), [26], []⟩, ⟨(.callv (.c (.clo 91 [] [])) [(.t 23), (.t 25)]), (some 26), (some (21, false)), [], []⟩, ⟨(.pick (.t 21) (.c (.bool true)) (.t 26)), (some 27), (some (18, true)), [], []⟩, ⟨(.pick (.t 18) (.t 27) (.c (.bool false))), (some 28), none, [], []⟩]
def r_rMeet_4 : Reg := ⟨[], t_rMeet_4, [26], [], false⟩
def r_rMeet_5 : Reg := ⟨[], [⟨(.faddr 2 (.t 5)), (some 29), none, [], []⟩, ⟨(.store 1 (.t 29) (.c (.bool false))), none, none, [], []⟩], [], [], false⟩
def t_rMeet_6 : List ROp := [⟨(.faddr 1 (.t 3)), (some 30), none, [], []⟩, ⟨(.load 1 false (.t 30)), (some 31), none, [], []⟩, ⟨(.faddr 1 (.t 5)), (some 32), none, [], []⟩, ⟨(.store 1 (.t 32) (.t 31)), none, none, [], []⟩]
def r_rMeet_6 : Reg := ⟨[], t_rMeet_6, [], [], false⟩
def t_rMeet_7 : List ROp := [⟨(.load 3 true (.t 5)), (some 33), none, [34], []⟩, ⟨(.callv (.c (.clo 92 [] [])) [(.t 33)]), (some 34), none, [], []⟩, ⟨(.store 3 (.t 4) (.t 34)), none, none, [], []⟩]
def r_rMeet_7 : Reg := ⟨[], t_rMeet_7, [34], [], false⟩
def ir_rMeet : IR := (.seq (.reg r_rMeet_0)
  (.seq (.reg r_rMeet_1)
  (.seq (.seq (.reg r_rMeet_2)
  (.cond (.t 11) (.reg r_rMeet_3)
  .skip))
  (.seq (.seq (.reg r_rMeet_4)
  (.cond (.t 28) (.seq (.reg r_rMeet_5)
  (.reg r_rMeet_6))
  .skip))
  (.seq (.reg r_rMeet_7)
  .ret)))))
def res_rMeet : List RDesc := [(.cell 4 3 true)]
theorem e_rMeet_0 (C : FuncId → List AV → AV → Prop) (σ : St) (K : St → Prop) : runReg C r_rMeet_0 σ K = runOps C t_rMeet_0 (σ.kills [2, 3, 4]) K := rfl
theorem e_rMeet_1 (C : FuncId → List AV → AV → Prop) (σ : St) (K : St → Prop) : runReg C r_rMeet_1 σ K = runOps C t_rMeet_1 (σ.kills [5]) K := rfl
theorem e_rMeet_2 (C : FuncId → List AV → AV → Prop) (σ : St) (K : St → Prop) : runReg C r_rMeet_2 σ K = runOps C t_rMeet_2 (σ.kills [11]) K := rfl
theorem e_rMeet_3 (C : FuncId → List AV → AV → Prop) (σ : St) (K : St → Prop) : runReg C r_rMeet_3 σ K = runOps C t_rMeet_3 (σ.kills []) K := rfl
theorem e_rMeet_4 (C : FuncId → List AV → AV → Prop) (σ : St) (K : St → Prop) : runReg C r_rMeet_4 σ K = runOps C t_rMeet_4 (σ.kills [26]) K := rfl
theorem e_rMeet_5 (C : FuncId → List AV → AV → Prop) (σ : St) (K : St → Prop) : runReg C r_rMeet_5 σ K = runOps C [⟨(.faddr 2 (.t 5)), (some 29), none, [], []⟩, ⟨(.store 1 (.t 29) (.c (.bool false))), none, none, [], []⟩] (σ.kills []) K := rfl
theorem e_rMeet_6 (C : FuncId → List AV → AV → Prop) (σ : St) (K : St → Prop) : runReg C r_rMeet_6 σ K = runOps C t_rMeet_6 (σ.kills []) K := rfl
theorem e_rMeet_7 (C : FuncId → List AV → AV → Prop) (σ : St) (K : St → Prop) : runReg C r_rMeet_7 σ K = runOps C t_rMeet_7 (σ.kills [34]) K := rfl
theorem fn_rMeet {args : List AV} {r : AV} (ha : args.length.ble Try.f54.ntmps = true) (h : run (AFn Try.prog) ir_rMeet (endQ res_rMeet r) (initSt args)) : AFn Try.prog 54 args r :=
  AFn.of_code (pv := false) (hint := fun _ => []) (c := Try.f54.body.getD .skip) (by kernel_rfl) (by kernel_rfl) Try.func54 (by kernel_rfl) (by kernel_rfl) (by kernel_rfl) (of_decide_eq_true (by kernel_rfl)) (Nat.le_of_ble_eq_true ha) (Nat.le_of_ble_eq_true (by kernel_rfl)) (run_ok h)
/-! ### percolate/percolateref05.Span -/
def t_rSpan_0 : List ROp := [⟨(.box 6 130 (.t 0)), (some 1), none, [2], []⟩, ⟨(.alloc 3 38 (.agg [(.str ⟨#[]⟩), (.str ⟨#[]⟩), (.bool false)])), (some 2), none, [], []⟩]
def r_rSpan_0 : Reg := ⟨[], t_rSpan_0, [1, 2], [], false⟩
def t_rSpan_1 : List ROp := [⟨(.faddr 1 (.t 1)), (some 3), none, [], []⟩, ⟨(.load 1 false (.t 3)), (some 4), none, [], []⟩, ⟨(.bin .eql (.t 4) (.c (.int .i64 4))), (some 5), none, [], []⟩]
def r_rSpan_1 : Reg := ⟨[], t_rSpan_1, [], [], false⟩
def t_rSpan_2 : List ROp := [⟨(.faddr 2 (.t 1)), (some 6), none, [], []⟩, ⟨(.load 1 false (.t 6)), (some 7), none, [], []⟩, ⟨(.faddr 3 (.t 1)), (some 8), none, [], []⟩, ⟨(.load 1 false (.t 8)), (some 9), none, [], []⟩, ⟨(.faddr 4 (.t 1)), (some 10), none, [], []⟩, ⟨(.load 1 false (.t 10)), (some 11), none, [], []⟩, ⟨(.bld [(.str ⟨#[]⟩), (.str ⟨#[]⟩), (.bool false)] [⟨0, 1, (.t 7)⟩, ⟨1, 1, (.t 9)⟩, ⟨2, 1, (.t 11)⟩]), (some 12), none, [], []⟩, ⟨(.store 3 (.t 2) (.t 12)), none, none, [], []⟩]
def r_rSpan_2 : Reg := ⟨[], t_rSpan_2, [], [], false⟩
def t_rSpan_3 : List ROp := [⟨(.faddr 2 (.t 1)), (some 13), none, [], []⟩, ⟨(.load 1 false (.t 13)), (some 14), none, [], []⟩, ⟨(.faddr 2 (.t 1)), (some 15), none, [], []⟩, ⟨(.load 1 false (.t 15)), (some 16), none, [], []⟩, ⟨(.bin .add (.t 16) (.c (.str ⟨#[0]⟩))), (some 17), none, [], []⟩, ⟨(.bld [(.str ⟨#[]⟩), (.str ⟨#[]⟩), (.bool false)] [⟨0, 1, (.t 14)⟩, ⟨1, 1, (.t 17)⟩]), (some 18), none, [], []⟩, ⟨(.store 3 (.t 2) (.t 18)), none, none, [], []⟩]
def r_rSpan_3 : Reg := ⟨[], t_rSpan_3, [], [], false⟩
def ir_rSpan : IR := (.seq (.reg r_rSpan_0)
  (.seq (.seq (.reg r_rSpan_1)
  (.cond (.t 5) (.seq (.reg r_rSpan_2)
  .ret)
  .skip))
  (.seq (.reg r_rSpan_3)
  .ret)))
def res_rSpan : List RDesc := [(.cell 2 3 true)]
theorem e_rSpan_0 (C : FuncId → List AV → AV → Prop) (σ : St) (K : St → Prop) : runReg C r_rSpan_0 σ K = runOps C t_rSpan_0 (σ.kills [1, 2]) K := rfl
theorem e_rSpan_1 (C : FuncId → List AV → AV → Prop) (σ : St) (K : St → Prop) : runReg C r_rSpan_1 σ K = runOps C t_rSpan_1 (σ.kills []) K := rfl
theorem e_rSpan_2 (C : FuncId → List AV → AV → Prop) (σ : St) (K : St → Prop) : runReg C r_rSpan_2 σ K = runOps C t_rSpan_2 (σ.kills []) K := rfl
theorem e_rSpan_3 (C : FuncId → List AV → AV → Prop) (σ : St) (K : St → Prop) : runReg C r_rSpan_3 σ K = runOps C t_rSpan_3 (σ.kills []) K := rfl
theorem fn_rSpan {args : List AV} {r : AV} (ha : args.length.ble Try.f120.ntmps = true) (h : run (AFn Try.prog) ir_rSpan (endQ res_rSpan r) (initSt args)) : AFn Try.prog 120 args r :=
  AFn.of_code (pv := false) (hint := fun _ => []) (c := Try.f120.body.getD .skip) (by kernel_rfl) (by kernel_rfl) Try.func120 (by kernel_rfl) (by kernel_rfl) (by kernel_rfl) (of_decide_eq_true (by kernel_rfl)) (Nat.le_of_ble_eq_true ha) (Nat.le_of_ble_eq_true (by kernel_rfl)) (run_ok h)
attribute [local go_sem ↓] ir_rHas
attribute [local go_sem] res_rHas e_rHas_0 e_rHas_1 t_rHas_1
attribute [local go_sem ↓] ir_rEmpty
attribute [local go_sem] res_rEmpty e_rEmpty_0 e_rEmpty_1 t_rEmpty_1
attribute [local go_sem ↓] ir_rNorm
attribute [local go_sem] res_rNorm e_rNorm_0 t_rNorm_0 e_rNorm_1 e_rNorm_2 t_rNorm_2 e_rNorm_3 e_rNorm_4 e_rNorm_5
attribute [local go_sem ↓] ir_rMeet
attribute [local go_sem] res_rMeet e_rMeet_0 t_rMeet_0 e_rMeet_1 t_rMeet_1 e_rMeet_2 t_rMeet_2 e_rMeet_3 t_rMeet_3 e_rMeet_4 t_rMeet_4 e_rMeet_5 e_rMeet_6 t_rMeet_6 e_rMeet_7 t_rMeet_7
attribute [local go_sem ↓] ir_rSpan
attribute [local go_sem] res_rSpan e_rSpan_0 t_rSpan_0 e_rSpan_1 t_rSpan_1 e_rSpan_2 t_rSpan_2 e_rSpan_3 t_rSpan_3
def SOk (s : Spn) : Prop := s.lo.size ≤ 9223372036854775807 ∧ s.hi.size ≤ 9223372036854775807
theorem has_lo (s : Spn) : (!s.has s.lo) = s.empty := by
  have : lt s.lo s.lo = false := kp.less_irrefl _
  simp [Spn.has, Spn.empty, this]
theorem refHas (s : Spn) (k : ByteArray) (hs : SOk s) (hk : k.size ≤ 9223372036854775807) : AFn Try.prog 119 [s.a, .str k] (.bool (s.has k)) := by
  refine fn_rHas rfl ?_
  simp (maxSteps := 4000000) only [go_sem, ↓reduceIte, reduceCtorEq, Nat.reduceEqDiff, Nat.reduceBEq, Nat.reduceAdd, Nat.reduceSub, Nat.reduceMul, Nat.reduceLT, Nat.reduceLeDiff, Nat.reduceBNe, Int.reduceBEq, Int.reduceBNe, Int.reduceLT, Int.reduceLE, Spn.a, Msg.a, Eff.a]
  (first | refine calling (refLess k s.lo hk hs.1) ?_ | refine callingH (refLess k s.lo hk hs.1) ?_)
  cases h1 : lt k s.lo with
  | true =>
    simp (maxSteps := 4000000) only [go_sem, ↓reduceIte, reduceCtorEq, Nat.reduceEqDiff, Nat.reduceBEq, Nat.reduceAdd, Nat.reduceSub, Nat.reduceMul, Nat.reduceLT, Nat.reduceLeDiff, Nat.reduceBNe, Int.reduceBEq, Int.reduceBNe, Int.reduceLT, Int.reduceLE, Spn.a, Msg.a, Eff.a]
    simp [Spn.has, h1]
  | false =>
    cases h2 : s.op with
    | true =>
      simp (maxSteps := 4000000) only [go_sem, ↓reduceIte, reduceCtorEq, Nat.reduceEqDiff, Nat.reduceBEq, Nat.reduceAdd, Nat.reduceSub, Nat.reduceMul, Nat.reduceLT, Nat.reduceLeDiff, Nat.reduceBNe, Int.reduceBEq, Int.reduceBNe, Int.reduceLT, Int.reduceLE, Spn.a, Msg.a, Eff.a, h2]
      simp [Spn.has, h1, h2]
    | false =>
      simp (maxSteps := 4000000) only [go_sem, ↓reduceIte, reduceCtorEq, Nat.reduceEqDiff, Nat.reduceBEq, Nat.reduceAdd, Nat.reduceSub, Nat.reduceMul, Nat.reduceLT, Nat.reduceLeDiff, Nat.reduceBNe, Int.reduceBEq, Int.reduceBNe, Int.reduceLT, Int.reduceLE, Spn.a, Msg.a, Eff.a, h2]
      (first | refine calling (refLess k s.hi hk hs.2) ?_ | refine callingH (refLess k s.hi hk hs.2) ?_)
      simp (maxSteps := 4000000) only [go_sem, ↓reduceIte, reduceCtorEq, Nat.reduceEqDiff, Nat.reduceBEq, Nat.reduceAdd, Nat.reduceSub, Nat.reduceMul, Nat.reduceLT, Nat.reduceLeDiff, Nat.reduceBNe, Int.reduceBEq, Int.reduceBNe, Int.reduceLT, Int.reduceLE, Spn.a, Msg.a, Eff.a, h2]
      simp [Spn.has, h1, h2]
theorem refEmpty (s : Spn) (hs : SOk s) : AFn Try.prog 121 [s.a] (.bool s.empty) := by
  refine fn_rEmpty rfl ?_
  simp (maxSteps := 4000000) only [go_sem, ↓reduceIte, reduceCtorEq, Nat.reduceEqDiff, Nat.reduceBEq, Nat.reduceAdd, Nat.reduceSub, Nat.reduceMul, Nat.reduceLT, Nat.reduceLeDiff, Nat.reduceBNe, Int.reduceBEq, Int.reduceBNe, Int.reduceLT, Int.reduceLE, Spn.a, Msg.a, Eff.a]
  (first | refine calling (refHas s s.lo hs hs.1) ?_ | refine callingH (refHas s s.lo hs hs.1) ?_)
  simp (maxSteps := 4000000) only [go_sem, ↓reduceIte, reduceCtorEq, Nat.reduceEqDiff, Nat.reduceBEq, Nat.reduceAdd, Nat.reduceSub, Nat.reduceMul, Nat.reduceLT, Nat.reduceLeDiff, Nat.reduceBNe, Int.reduceBEq, Int.reduceBNe, Int.reduceLT, Int.reduceLE, Spn.a, Msg.a, Eff.a, has_lo]
theorem refNorm (s : Spn) (hs : SOk s) : AFn Try.prog 92 [s.a] s.norm.a := by
  refine fn_rNorm rfl ?_
  simp (maxSteps := 4000000) only [go_sem, ↓reduceIte, reduceCtorEq, Nat.reduceEqDiff, Nat.reduceBEq, Nat.reduceAdd, Nat.reduceSub, Nat.reduceMul, Nat.reduceLT, Nat.reduceLeDiff, Nat.reduceBNe, Int.reduceBEq, Int.reduceBNe, Int.reduceLT, Int.reduceLE, Spn.a, Msg.a, Eff.a]
  (first | refine calling (refEmpty s hs) ?_ | refine callingH (refEmpty s hs) ?_)
  simp (maxSteps := 4000000) only [go_sem, ↓reduceIte, reduceCtorEq, Nat.reduceEqDiff, Nat.reduceBEq, Nat.reduceAdd, Nat.reduceSub, Nat.reduceMul, Nat.reduceLT, Nat.reduceLeDiff, Nat.reduceBNe, Int.reduceBEq, Int.reduceBNe, Int.reduceLT, Int.reduceLE, Spn.a, Msg.a, Eff.a]
  refine ⟨fun h => ?_, fun h => ⟨fun h2 => ?_, fun h2 => ?_⟩⟩ <;> simp [Spn.norm, Spn.none, *]
def Spn.refCut (a b : Spn) : Spn := ⟨maxS a.lo b.lo, if !b.op && (a.op || lt b.hi a.hi) then b.hi else a.hi, if !b.op && (a.op || lt b.hi a.hi) then false else a.op⟩
theorem refCut_norm (a b : Spn) : (a.refCut b).norm = a.meet b := by
  obtain ⟨lo, hi, op⟩ := a
  obtain ⟨lo', hi', op'⟩ := b
  cases op <;> cases op' <;> simp [Spn.refCut, Spn.meet, Spn.cut, Spn.norm, Spn.empty, minS]
theorem refMeet (s t : Spn) (hs : SOk s) (ht : SOk t) : AFn Try.prog 54 [s.a, t.a] (s.meet t).a := by
  rw [← refCut_norm]
  refine fn_rMeet rfl ?_
  simp (maxSteps := 4000000) only [go_sem, ↓reduceIte, reduceCtorEq, Nat.reduceEqDiff, Nat.reduceBEq, Nat.reduceAdd, Nat.reduceSub, Nat.reduceMul, Nat.reduceLT, Nat.reduceLeDiff, Nat.reduceBNe, Int.reduceBEq, Int.reduceBNe, Int.reduceLT, Int.reduceLE, Spn.a, Msg.a, Eff.a]
  (first | refine calling (refLess s.lo t.lo hs.1 ht.1) ?_ | refine callingH (refLess s.lo t.lo hs.1 ht.1) ?_)
  have hM : SOk (s.refCut t) := by
    unfold Spn.refCut maxS SOk
    refine ⟨?_, ?_⟩
    · simp only; split
      · exact ht.1
      · exact hs.1
    · simp only; split
      · exact ht.2
      · exact hs.2
  obtain ⟨sl, sh, so⟩ := s
  obtain ⟨tl, th, tp⟩ := t
  simp only
  have e1 : lt sl tl = true ∨ lt sl tl = false := by cases lt sl tl <;> simp
  have e2 : lt th sh = true ∨ lt th sh = false := by cases lt th sh <;> simp
  rcases e1 with e1 | e1 <;> rcases e2 with e2 | e2 <;> cases so <;> cases tp <;>
    simp only [Spn.refCut, maxS, e1, e2, Bool.not_false, Bool.not_true, Bool.true_and, Bool.false_and, Bool.or_true, Bool.or_false, Bool.true_or, Bool.false_or, if_true, if_false, Bool.false_eq_true] at hM ⊢ <;>
    (simp (maxSteps := 4000000) only [go_sem, ↓reduceIte, reduceCtorEq, Nat.reduceEqDiff, Nat.reduceBEq, Nat.reduceAdd, Nat.reduceSub, Nat.reduceMul, Nat.reduceLT, Nat.reduceLeDiff, Nat.reduceBNe, Int.reduceBEq, Int.reduceBNe, Int.reduceLT, Int.reduceLE, Spn.a, Msg.a, Eff.a, e1, e2]) <;>
    first
      | ((first | refine calling (refNorm ⟨_, _, _⟩ hM) ?_ | refine callingH (refNorm ⟨_, _, _⟩ hM) ?_); (simp (maxSteps := 4000000) only [go_sem, ↓reduceIte, reduceCtorEq, Nat.reduceEqDiff, Nat.reduceBEq, Nat.reduceAdd, Nat.reduceSub, Nat.reduceMul, Nat.reduceLT, Nat.reduceLeDiff, Nat.reduceBNe, Int.reduceBEq, Int.reduceBNe, Int.reduceLT, Int.reduceLE, Spn.a, Msg.a, Eff.a, e1, e2]); done)
      | ((first | refine calling (refLess th sh ht.2 hs.2) ?_ | refine callingH (refLess th sh ht.2 hs.2) ?_); (simp (maxSteps := 4000000) only [go_sem, ↓reduceIte, reduceCtorEq, Nat.reduceEqDiff, Nat.reduceBEq, Nat.reduceAdd, Nat.reduceSub, Nat.reduceMul, Nat.reduceLT, Nat.reduceLeDiff, Nat.reduceBNe, Int.reduceBEq, Int.reduceBNe, Int.reduceLT, Int.reduceLE, Spn.a, Msg.a, Eff.a, e1, e2]); (first | refine calling (refNorm ⟨_, _, _⟩ hM) ?_ | refine callingH (refNorm ⟨_, _, _⟩ hM) ?_); (simp (maxSteps := 4000000) only [go_sem, ↓reduceIte, reduceCtorEq, Nat.reduceEqDiff, Nat.reduceBEq, Nat.reduceAdd, Nat.reduceSub, Nat.reduceMul, Nat.reduceLT, Nat.reduceLeDiff, Nat.reduceBNe, Int.reduceBEq, Int.reduceBNe, Int.reduceLT, Int.reduceLE, Spn.a, Msg.a, Eff.a, e1, e2]); done)
theorem refSpan (m : Msg) (hk : m.key.size ≤ 9223372036854775806) : AFn Try.prog 120 [m.a] m.span.a := by
  refine fn_rSpan rfl ?_
  cases h : (m.kind == 4) with
  | true =>
    have h' : m.kind = 4 := by simpa using h
    simp (maxSteps := 4000000) only [go_sem, ↓reduceIte, reduceCtorEq, Nat.reduceEqDiff, Nat.reduceBEq, Nat.reduceAdd, Nat.reduceSub, Nat.reduceMul, Nat.reduceLT, Nat.reduceLeDiff, Nat.reduceBNe, Int.reduceBEq, Int.reduceBNe, Int.reduceLT, Int.reduceLE, Spn.a, Msg.a, Eff.a, h]
    simp [Msg.span, h']
  | false =>
    have h' : m.kind ≠ 4 := by simpa using h
    simp (maxSteps := 4000000) only [go_sem, ↓reduceIte, reduceCtorEq, Nat.reduceEqDiff, Nat.reduceBEq, Nat.reduceAdd, Nat.reduceSub, Nat.reduceMul, Nat.reduceLT, Nat.reduceLeDiff, Nat.reduceBNe, Int.reduceBEq, Int.reduceBNe, Int.reduceLT, Int.reduceLE, Spn.a, Msg.a, Eff.a, h]
    simp [Msg.span, h', pointS]
    first | (show m.key.size + 1 ≤ _; omega) | omega
end
section
/-
  The document's messages on the plain machine: may they be, are they few.
-/
open Go.RowKit
set_option linter.unusedVariables false
set_option linter.unusedSimpArgs false
set_option maxRecDepth 100000
attribute [local go_sem ↓] runOp headOp
abbrev nilS (s : ByteArray) : Bool := s.toList == (ByteArray.mk #[]).toList
def Msg.right (m : Msg) : Bool := decide (1 ≤ m.stamp) && decide (m.key.size ≤ 16) && decide (m.val.size ≤ 16) && decide (m.hi.size ≤ 16) &&
  (if m.kind = 4 then nilS m.val && (!m.op || nilS m.hi) && !m.span.empty
   else nilS m.hi && !m.op && ((m.kind == 1) || (m.kind == 2) || ((m.kind == 3) && nilS m.val)))
theorem span_ok {m : Msg} {n : Nat} (h1 : m.key.size + 1 ≤ 9223372036854775807) (h2 : m.hi.size ≤ 9223372036854775807) : SOk m.span := by
  unfold Msg.span SOk pointS
  split
  · exact ⟨by show m.key.size ≤ _; omega, h2⟩
  · refine ⟨by show m.key.size ≤ _; omega, ?_⟩
    show (m.key ++ ⟨#[0]⟩).size ≤ _
    rw [ByteArray.size_append]
    exact h1
/-! ### percolate/percolateref05.Right -/
def r_rRight_0 : Reg := ⟨[], [⟨(.box 6 130 (.t 0)), (some 1), none, [], []⟩, ⟨(.mv (.c (.bool false))), (some 2), none, [], []⟩], [1], [], false⟩
def t_rRight_1 : List ROp := [⟨(.faddr 0 (.t 1)), (some 3), none, [], []⟩, ⟨(.load 1 false (.t 3)), (some 4), none, [], []⟩, ⟨(.bin .lss (.t 4) (.c (.int .i64 1))), (some 5), none, [], []⟩, ⟨(.mv (.t 5)), (some 6), none, [], []⟩, ⟨(.faddr 2 (.t 1)), (some 7), (some (6, false)), [], []⟩, ⟨(.load 1 false (.t 7)), (some 8), (some (6, false)), [], []⟩, ⟨(.len true (.t 8)), (some 9), (some (6, false)), [], []⟩, ⟨(.bin .gtr (.t 9) (.c (.int .i64 16))), (some 10), (some (6, false)), [], []⟩, ⟨(.pick (.t 6) (.c (.bool true)) (.t 10)), (some 11), none, [], []⟩, ⟨(.mv (.t 11)), (some 12), none, [], []⟩, ⟨(.faddr 5 (.t 1)), (some 13), (some (12, false)), [], []⟩, ⟨(.load 1 false (.t 13)), (some 14), (some (12, false)), [], []⟩, ⟨(.len true (.t 14)), (some 15), (some (12, false)), [], []⟩, ⟨(.bin .gtr (.t 15) (.c (.int .i64 16))), (some 16), (some (12, false)), [], []⟩, ⟨(.pick (.t 12) (.c (.bool true)) (.t 16)), (some 17), none, [], []⟩, ⟨(.mv (.t 17)), (some 18), none, [], []⟩, ⟨(.faddr 3 (.t 1)), (some 19), (some (18, false)), [], []⟩, ⟨(.load 1 false (.t 19)), (some 20), (some (18, false)), [], []⟩, ⟨(.len true (.t 20)), (some 21), (some (18, false)), [], []⟩, ⟨(.bin .gtr (.t 21) (.c (.int .i64 16))), (some 22), (some (18, false)), [], []⟩, ⟨(.pick (.t 18) (.c (.bool true)) (.t 22)), (some 23), none, [], []⟩]
def r_rRight_1 : Reg := ⟨[], t_rRight_1, [], [], false⟩
def r_rRight_2 : Reg := ⟨[], [⟨(.mv (.c (.bool false))), (some 2), none, [], []⟩], [], [], false⟩
def t_rRight_3 : List ROp := [⟨(.faddr 1 (.t 1)), (some 24), none, [], []⟩, ⟨(.load 1 false (.t 24)), (some 25), none, [], []⟩, ⟨(.bin .eql (.t 25) (.c (.int .i64 4))), (some 26), none, [], []⟩]
def r_rRight_3 : Reg := ⟨[], t_rRight_3, [], [], false⟩
def t_rRight_4 : List ROp := [⟨(.faddr 5 (.t 1)), (some 27), none, [42, 43], []⟩, ⟨(.load 1 false (.t 27)), (some 28), none, [42, 43], []⟩, ⟨(.bin .eql (.t 28) (.c (.str ⟨#[]⟩))), (some 29), none, [42, 43], []⟩, ⟨(.mv (.t 29)), (some 30), none, [42, 43], []⟩, ⟨(.faddr 4 (.t 1)), (some 31), (some (30, true)), [42, 43], []⟩, ⟨(.load 1 false (.t 31)), (some 32), (some (30, true)), [42, 43], []⟩, ⟨(.un .not (.t 32)), (some 33), (some (30, true)), [42, 43], []⟩, ⟨(.mv (.t 33)), (some 34), (some (30, true)), [42, 43], []⟩, ⟨(.faddr 3 (.t 1)), (some 35), (some (34, false)), [42, 43], []⟩, ⟨(.load 1 false (.t 35)), (some 36), (some (34, false)), [42, 43], []⟩, ⟨(.bin .eql (.t 36) (.c (.str ⟨#[]⟩))), (some 37), (some (34, false)), [42, 43], []⟩, ⟨(.pick (.t 34) (.c (.bool true)) (.t 37)), (some 38), (some (30, true)), [42, 43], []⟩, ⟨(.pick (.t 30) (.t 38) (.c (.bool false))), (some 39), none, [42, 43], []⟩, ⟨(.mv (.t 39)), (some 40), none, [42, 43], []⟩, ⟨(.load 6 true (.t 1)), (some 41), (some (40, true)), [42, 43], []⟩, ⟨(.callv (.c (.clo 120 [] [])) [(.t 41)]), (some 42), (some (40, true)), [43], []⟩, ⟨(.callv (.c (.clo 121 [] [])) [(.t 42)]), (some 43), (some (40, true)), [], []⟩, ⟨(.un .not (.t 43)), (some 44), (some (40, true)), [], []⟩, ⟨(.pick (.t 40) (.t 44) (.c (.bool false))), (some 45), none, [], []⟩, ⟨(.mv (.t 45)), (some 2), none, [], []⟩]
def r_rRight_4 : Reg := ⟨[], t_rRight_4, [42, 43], [], false⟩
def t_rRight_5 : List ROp := [⟨(.faddr 3 (.t 1)), (some 46), none, [], []⟩, ⟨(.load 1 false (.t 46)), (some 47), none, [], []⟩, ⟨(.bin .eql (.t 47) (.c (.str ⟨#[]⟩))), (some 48), none, [], []⟩, ⟨(.mv (.t 48)), (some 49), none, [], []⟩, ⟨(.faddr 4 (.t 1)), (some 50), (some (49, true)), [], []⟩, ⟨(.load 1 false (.t 50)), (some 51), (some (49, true)), [], []⟩, ⟨(.un .not (.t 51)), (some 52), (some (49, true)), [], []⟩, ⟨(.pick (.t 49) (.t 52) (.c (.bool false))), (some 53), none, [], []⟩, ⟨(.mv (.t 53)), (some 54), none, [], []⟩, ⟨(.faddr 1 (.t 1)), (some 55), (some (54, true)), [], []⟩, ⟨(.load 1 false (.t 55)), (some 56), (some (54, true)), [], []⟩, ⟨(.bin .eql (.t 56) (.c (.int .i64 1))), (some 57), (some (54, true)), [], []⟩, ⟨(.mv (.t 57)), (some 58), (some (54, true)), [], []⟩, ⟨(.faddr 1 (.t 1)), (some 59), (some (58, false)), [], []⟩, ⟨(.load 1 false (.t 59)), (some 60), (some (58, false)), [], []⟩, ⟨(.bin .eql (.t 60) (.c (.int .i64 2))), (some 61), (some (58, false)), [], []⟩, ⟨(.pick (.t 58) (.c (.bool true)) (.t 61)), (some 62), (some (54, true)), [], []⟩, ⟨(.mv (.t 62)), (some 63), (some (54, true)), [], []⟩, ⟨(.faddr 1 (.t 1)), (some 64), (some (63, false)), [], []⟩, ⟨(.load 1 false (.t 64)), (some 65), (some (63, false)), [], []⟩, ⟨(.bin .eql (.t 65) (.c (.int .i64 3))), (some 66), (some (63, false)), [], []⟩, ⟨(.mv (.t 66)), (some 67), (some (63, false)), [], []⟩, ⟨(.faddr 5 (.t 1)), (some 68), (some (67, true)), [], []⟩, ⟨(.load 1 false (.t 68)), (some 69), (some (67, true)), [], []⟩, ⟨(.bin .eql (.t 69) (.c (.str ⟨#[]⟩))), (some 70), (some (67, true)), [], []⟩, ⟨(.pick (.t 67) (.t 70) (.c (.bool false))), (some 71), (some (63, false)), [], []⟩, ⟨(.pick (.t 63) (.c (.bool true)) (.t 71)), (some 72), (some (54, true)), [], []⟩, ⟨(.pick (.t 54) (.t 72) (.c (.bool false))), (some 73), none, [], []⟩, ⟨(.mv (.t 73)), (some 2), none, [], []⟩]
def r_rRight_5 : Reg := ⟨[], t_rRight_5, [], [], false⟩
def ir_rRight : IR := (.seq (.reg r_rRight_0)
  (.seq (.seq (.reg r_rRight_1)
  (.cond (.t 23) (.seq (.reg r_rRight_2)
  .ret)
  .skip))
  (.seq (.seq (.reg r_rRight_3)
  (.cond (.t 26) (.seq (.reg r_rRight_4)
  .ret)
  .skip))
  (.seq (.reg r_rRight_5)
  .ret))))
def res_rRight : List RDesc := [(.tmp 2)]
theorem e_rRight_0 (C : FuncId → List AV → AV → Prop) (σ : St) (K : St → Prop) : runReg C r_rRight_0 σ K = runOps C [⟨(.box 6 130 (.t 0)), (some 1), none, [], []⟩, ⟨(.mv (.c (.bool false))), (some 2), none, [], []⟩] (σ.kills [1]) K := rfl
theorem e_rRight_1 (C : FuncId → List AV → AV → Prop) (σ : St) (K : St → Prop) : runReg C r_rRight_1 σ K = runOps C t_rRight_1 (σ.kills []) K := rfl
theorem e_rRight_2 (C : FuncId → List AV → AV → Prop) (σ : St) (K : St → Prop) : runReg C r_rRight_2 σ K = runOps C [⟨(.mv (.c (.bool false))), (some 2), none, [], []⟩] (σ.kills []) K := rfl
theorem e_rRight_3 (C : FuncId → List AV → AV → Prop) (σ : St) (K : St → Prop) : runReg C r_rRight_3 σ K = runOps C t_rRight_3 (σ.kills []) K := rfl
theorem e_rRight_4 (C : FuncId → List AV → AV → Prop) (σ : St) (K : St → Prop) : runReg C r_rRight_4 σ K = runOps C t_rRight_4 (σ.kills [42, 43]) K := rfl
theorem e_rRight_5 (C : FuncId → List AV → AV → Prop) (σ : St) (K : St → Prop) : runReg C r_rRight_5 σ K = runOps C t_rRight_5 (σ.kills []) K := rfl
theorem fn_rRight {args : List AV} {r : AV} (ha : args.length.ble Try.f180.ntmps = true) (h : run (AFn Try.prog) ir_rRight (endQ res_rRight r) (initSt args)) : AFn Try.prog 180 args r :=
  AFn.of_code (pv := false) (hint := fun _ => []) (c := Try.f180.body.getD .skip) (by kernel_rfl) (by kernel_rfl) Try.func180 (by kernel_rfl) (by kernel_rfl) (by kernel_rfl) (of_decide_eq_true (by kernel_rfl)) (Nat.le_of_ble_eq_true ha) (Nat.le_of_ble_eq_true (by kernel_rfl)) (run_ok h)
attribute [local go_sem ↓] ir_rRight
attribute [local go_sem] res_rRight e_rRight_0 e_rRight_1 t_rRight_1 e_rRight_2 e_rRight_3 t_rRight_3 e_rRight_4 t_rRight_4 e_rRight_5 t_rRight_5
theorem refRight (m : Msg) (hm : m.key.size + 1 ≤ 9223372036854775807 ∧ m.hi.size ≤ 9223372036854775807) : AFn Try.prog 180 [m.a] (.bool m.right) := by
  refine fn_rRight rfl ?_
  by_cases h1 : m.stamp < 1
  · have : ¬ 1 ≤ m.stamp := by omega
    simp (maxSteps := 4000000) only [go_sem, ↓reduceIte, reduceCtorEq, Nat.reduceEqDiff, Nat.reduceBEq, Nat.reduceAdd, Nat.reduceSub, Nat.reduceMul, Nat.reduceLT, Nat.reduceLeDiff, Nat.reduceBNe, Int.reduceBEq, Int.reduceBNe, Int.reduceLT, Int.reduceLE, Spn.a, Msg.a, Eff.a, h1]
    simp [Msg.right, this]
  by_cases h2 : (m.key.size : Int) > 16
  · have : ¬ m.key.size ≤ 16 := by omega
    simp (maxSteps := 4000000) only [go_sem, ↓reduceIte, reduceCtorEq, Nat.reduceEqDiff, Nat.reduceBEq, Nat.reduceAdd, Nat.reduceSub, Nat.reduceMul, Nat.reduceLT, Nat.reduceLeDiff, Nat.reduceBNe, Int.reduceBEq, Int.reduceBNe, Int.reduceLT, Int.reduceLE, Spn.a, Msg.a, Eff.a, h1, h2]
    simp [Msg.right, this]
  by_cases h3 : (m.val.size : Int) > 16
  · have : ¬ m.val.size ≤ 16 := by omega
    simp (maxSteps := 4000000) only [go_sem, ↓reduceIte, reduceCtorEq, Nat.reduceEqDiff, Nat.reduceBEq, Nat.reduceAdd, Nat.reduceSub, Nat.reduceMul, Nat.reduceLT, Nat.reduceLeDiff, Nat.reduceBNe, Int.reduceBEq, Int.reduceBNe, Int.reduceLT, Int.reduceLE, Spn.a, Msg.a, Eff.a, h1, h2, h3]
    simp [Msg.right, this]
  by_cases h4 : (m.hi.size : Int) > 16
  · have : ¬ m.hi.size ≤ 16 := by omega
    simp (maxSteps := 4000000) only [go_sem, ↓reduceIte, reduceCtorEq, Nat.reduceEqDiff, Nat.reduceBEq, Nat.reduceAdd, Nat.reduceSub, Nat.reduceMul, Nat.reduceLT, Nat.reduceLeDiff, Nat.reduceBNe, Int.reduceBEq, Int.reduceBNe, Int.reduceLT, Int.reduceLE, Spn.a, Msg.a, Eff.a, h1, h2, h3, h4]
    simp [Msg.right, this]
  have g1 : 1 ≤ m.stamp := by omega
  have g2 : m.key.size ≤ 16 := by omega
  have g3 : m.val.size ≤ 16 := by omega
  have g4 : m.hi.size ≤ 16 := by omega
  have hr : m.right = (if m.kind = 4 then nilS m.val && (!m.op || nilS m.hi) && !m.span.empty
   else nilS m.hi && !m.op && ((m.kind == 1) || (m.kind == 2) || ((m.kind == 3) && nilS m.val))) := by simp [Msg.right, g1, g2, g3, g4]
  rw [hr]
  cases h : (m.kind == 4) with
  | true =>
    have h' : m.kind = 4 := by simpa using h
    rw [if_pos h']
    have fin : ∀ b, m.span.empty = b → AFn Try.prog 121 [m.span.a] (.bool b) := fun b hb => hb ▸ refEmpty m.span (span_ok (n := 0) hm.1 hm.2)
    have call : (m.val.toList == (ByteArray.mk #[]).toList) = true → (m.op = false ∨ (m.hi.toList == (ByteArray.mk #[]).toList) = true) → run (AFn Try.prog) ir_rRight (endQ res_rRight (.bool (!m.span.empty))) (initSt [m.a]) := by
      intro hv ho
      cases hop : m.op with
      | false =>
        simp (maxSteps := 4000000) only [go_sem, ↓reduceIte, reduceCtorEq, Nat.reduceEqDiff, Nat.reduceBEq, Nat.reduceAdd, Nat.reduceSub, Nat.reduceMul, Nat.reduceLT, Nat.reduceLeDiff, Nat.reduceBNe, Int.reduceBEq, Int.reduceBNe, Int.reduceLT, Int.reduceLE, Spn.a, Msg.a, Eff.a, h1, h2, h3, h4, h, hv, hop]
        have hsp := refSpan m (by omega)
        simp only [Msg.a, hop] at hsp
        (first | refine calling hsp ?_ | refine callingH hsp ?_)
        simp (maxSteps := 4000000) only [go_sem, ↓reduceIte, reduceCtorEq, Nat.reduceEqDiff, Nat.reduceBEq, Nat.reduceAdd, Nat.reduceSub, Nat.reduceMul, Nat.reduceLT, Nat.reduceLeDiff, Nat.reduceBNe, Int.reduceBEq, Int.reduceBNe, Int.reduceLT, Int.reduceLE, Spn.a, Msg.a, Eff.a, h1, h2, h3, h4, h, hv, hop]
        (first | refine calling (refEmpty m.span (span_ok (n := 0) hm.1 hm.2)) ?_ | refine callingH (refEmpty m.span (span_ok (n := 0) hm.1 hm.2)) ?_)
        simp (maxSteps := 4000000) only [go_sem, ↓reduceIte, reduceCtorEq, Nat.reduceEqDiff, Nat.reduceBEq, Nat.reduceAdd, Nat.reduceSub, Nat.reduceMul, Nat.reduceLT, Nat.reduceLeDiff, Nat.reduceBNe, Int.reduceBEq, Int.reduceBNe, Int.reduceLT, Int.reduceLE, Spn.a, Msg.a, Eff.a, h1, h2, h3, h4, h, hv, hop]
      | true =>
        have hh : (m.hi.toList == (ByteArray.mk #[]).toList) = true := by
          rcases ho with ho | ho
          · rw [hop] at ho; cases ho
          · exact ho
        simp (maxSteps := 4000000) only [go_sem, ↓reduceIte, reduceCtorEq, Nat.reduceEqDiff, Nat.reduceBEq, Nat.reduceAdd, Nat.reduceSub, Nat.reduceMul, Nat.reduceLT, Nat.reduceLeDiff, Nat.reduceBNe, Int.reduceBEq, Int.reduceBNe, Int.reduceLT, Int.reduceLE, Spn.a, Msg.a, Eff.a, h1, h2, h3, h4, h, hv, hop, hh]
        have hsp := refSpan m (by omega)
        simp only [Msg.a, hop] at hsp
        (first | refine calling hsp ?_ | refine callingH hsp ?_)
        simp (maxSteps := 4000000) only [go_sem, ↓reduceIte, reduceCtorEq, Nat.reduceEqDiff, Nat.reduceBEq, Nat.reduceAdd, Nat.reduceSub, Nat.reduceMul, Nat.reduceLT, Nat.reduceLeDiff, Nat.reduceBNe, Int.reduceBEq, Int.reduceBNe, Int.reduceLT, Int.reduceLE, Spn.a, Msg.a, Eff.a, h1, h2, h3, h4, h, hv, hop, hh]
        (first | refine calling (refEmpty m.span (span_ok (n := 0) hm.1 hm.2)) ?_ | refine callingH (refEmpty m.span (span_ok (n := 0) hm.1 hm.2)) ?_)
        simp (maxSteps := 4000000) only [go_sem, ↓reduceIte, reduceCtorEq, Nat.reduceEqDiff, Nat.reduceBEq, Nat.reduceAdd, Nat.reduceSub, Nat.reduceMul, Nat.reduceLT, Nat.reduceLeDiff, Nat.reduceBNe, Int.reduceBEq, Int.reduceBNe, Int.reduceLT, Int.reduceLE, Spn.a, Msg.a, Eff.a, h1, h2, h3, h4, h, hv, hop, hh]
    cases hv : (m.val.toList == (ByteArray.mk #[]).toList) with
    | false =>
      simp (maxSteps := 4000000) only [go_sem, ↓reduceIte, reduceCtorEq, Nat.reduceEqDiff, Nat.reduceBEq, Nat.reduceAdd, Nat.reduceSub, Nat.reduceMul, Nat.reduceLT, Nat.reduceLeDiff, Nat.reduceBNe, Int.reduceBEq, Int.reduceBNe, Int.reduceLT, Int.reduceLE, Spn.a, Msg.a, Eff.a, h1, h2, h3, h4, h, hv]
    | true =>
      cases hop : m.op with
      | false => simpa [hv, hop] using call hv (.inl hop)
      | true =>
        cases hh : (m.hi.toList == (ByteArray.mk #[]).toList) with
        | false => 
          simp (maxSteps := 4000000) only [go_sem, ↓reduceIte, reduceCtorEq, Nat.reduceEqDiff, Nat.reduceBEq, Nat.reduceAdd, Nat.reduceSub, Nat.reduceMul, Nat.reduceLT, Nat.reduceLeDiff, Nat.reduceBNe, Int.reduceBEq, Int.reduceBNe, Int.reduceLT, Int.reduceLE, Spn.a, Msg.a, Eff.a, h1, h2, h3, h4, h, hv, hop, hh]
        | true => simpa [hv, hop, hh] using call hv (.inr hh)
  | false =>
    have h' : m.kind ≠ 4 := by simpa using h
    rw [if_neg h']
    simp (maxSteps := 4000000) only [go_sem, ↓reduceIte, reduceCtorEq, Nat.reduceEqDiff, Nat.reduceBEq, Nat.reduceAdd, Nat.reduceSub, Nat.reduceMul, Nat.reduceLT, Nat.reduceLeDiff, Nat.reduceBNe, Int.reduceBEq, Int.reduceBNe, Int.reduceLT, Int.reduceLE, Spn.a, Msg.a, Eff.a, h1, h2, h3, h4, h]
    refine ⟨fun a => ⟨fun b => ⟨fun c => ⟨fun d => ⟨fun e => ?_, fun e => ?_⟩, fun d => ?_⟩, fun c => ?_⟩, fun b => ?_⟩, fun a => ?_⟩ <;> simp only [nilS, *, Bool.not_false, Bool.not_true, Bool.and_true, Bool.true_and, Bool.and_false, Bool.false_and, Bool.or_true, Bool.true_or, Bool.or_false, Bool.false_or]
/-! ### Few, All -/
def Msg.bulk (m : Msg) : Nat := 1 + m.key.size + m.hi.size + m.val.size
/-! ### percolate/percolateref05.Few -/
def AllProp : List Msg → Bool
  | [] => true
  | m :: l => m.right && (match l with | [] => true | x :: _ => decide (m.stamp < x.stamp)) && AllProp l
/-! ### percolate/percolateref05.All -/
def r_rAll_0 : Reg := ⟨[], [⟨(.mv (.c (.bool false))), (some 2), none, [], []⟩], [], [], false⟩
def r_rAll_1 : Reg := ⟨[], [⟨(.mv (.c (.int .i64 0))), (some 3), none, [], []⟩], [], [], false⟩
def t_rAll_2 : List ROp := [⟨(.mv (.t 3)), (some 4), none, [], []⟩, ⟨(.mv (.t 0)), (some 5), none, [], []⟩, ⟨(.len false (.t 5)), (some 6), none, [], []⟩, ⟨(.bin .lss (.t 4) (.t 6)), (some 7), none, [], []⟩]
def r_rAll_2 : Reg := ⟨[], t_rAll_2, [], [], false⟩
def t_rAll_3 : List ROp := [⟨(.bin .leq (.t 24) (.t 30)), (some 31), (some (19, true)), [], []⟩, ⟨(.pick (.t 19) (.t 31) (.c (.bool false))), (some 32), (some (16, false)), [], []⟩, ⟨(.pick (.t 16) (.c (.bool true)) (.t 32)), (some 33), none, [], []⟩]
def h_rAll_3 : List ROp := [⟨(.mv (.t 0)), (some 10), none, [14], []⟩, ⟨(.mv (.t 3)), (some 11), none, [14], []⟩, ⟨(.iaddr 6 (.t 10) (.t 11)), (some 12), none, [14], []⟩, ⟨(.load 6 true (.t 12)), (some 13), none, [14], []⟩, ⟨(.callv (.c (.clo 180 [] [])) [(.t 13)]), (some 14), none, [], []⟩, ⟨(.un .not (.t 14)), (some 15), none, [], []⟩, ⟨(.mv (.t 15)), (some 16), none, [], []⟩, ⟨(.mv (.t 3)), (some 17), (some (16, false)), [], []⟩, ⟨(.bin .gtr (.t 17) (.c (.int .i64 0))), (some 18), (some (16, false)), [], []⟩, ⟨(.mv (.t 18)), (some 19), (some (16, false)), [], []⟩, ⟨(.mv (.t 0)), (some 20), (some (19, true)), [], []⟩, ⟨(.mv (.t 3)), (some 21), (some (19, true)), [], []⟩, ⟨(.iaddr 6 (.t 20) (.t 21)), (some 22), (some (19, true)), [], []⟩, ⟨(.faddr 0 (.t 22)), (some 23), (some (19, true)), [], []⟩, ⟨(.load 1 false (.t 23)), (some 24), (some (19, true)), [], []⟩, ⟨(.mv (.t 0)), (some 25), (some (19, true)), [], []⟩, ⟨(.mv (.t 3)), (some 26), (some (19, true)), [], []⟩, ⟨(.bin .sub (.t 26) (.c (.int .i64 1))), (some 27), (some (19, true)), [], []⟩, ⟨(.iaddr 6 (.t 25) (.t 27)), (some 28), (some (19, true)), [], []⟩, ⟨(.faddr 0 (.t 28)), (some 29), (some (19, true)), [], []⟩, ⟨(.load 1 false (.t 29)), (some 30), (some (19, true)), [], []⟩]
def r_rAll_3 : Reg := ⟨h_rAll_3, t_rAll_3, [14], [], true⟩
def r_rAll_4 : Reg := ⟨[], [⟨(.mv (.c (.bool false))), (some 2), none, [], []⟩], [], [], false⟩
def t_rAll_5 : List ROp := [⟨(.mv (.t 3)), (some 8), none, [], []⟩, ⟨(.bin .add (.t 8) (.c (.int .i64 1))), (some 9), none, [], []⟩, ⟨(.mv (.t 9)), (some 3), none, [], []⟩]
def r_rAll_5 : Reg := ⟨[], t_rAll_5, [], [], false⟩
def r_rAll_l6 : IR := (.seq (.seq (.reg r_rAll_2)
  (.cond (.t 7) .skip
  (.exit 0)))
  (.seq (.block 1 (.seq (.reg r_rAll_3)
  (.cond (.t 33) (.seq (.reg r_rAll_4)
  .ret)
  .skip)))
  (.reg r_rAll_5)))
def r_rAll_7 : Reg := ⟨[], [⟨(.mv (.c (.bool true))), (some 2), none, [], []⟩], [], [], false⟩
def ir_rAll : IR := (.seq (.reg r_rAll_0)
  (.seq (.seq (.reg r_rAll_1)
  (.block 0 (.loop r_rAll_l6)))
  (.seq (.reg r_rAll_7)
  .ret)))
def res_rAll : List RDesc := [(.tmp 2)]
theorem e_rAll_0 (C : FuncId → List AV → AV → Prop) (σ : St) (K : St → Prop) : runReg C r_rAll_0 σ K = runOps C [⟨(.mv (.c (.bool false))), (some 2), none, [], []⟩] (σ.kills []) K := rfl
theorem e_rAll_1 (C : FuncId → List AV → AV → Prop) (σ : St) (K : St → Prop) : runReg C r_rAll_1 σ K = runOps C [⟨(.mv (.c (.int .i64 0))), (some 3), none, [], []⟩] (σ.kills []) K := rfl
theorem e_rAll_2 (C : FuncId → List AV → AV → Prop) (σ : St) (K : St → Prop) : runReg C r_rAll_2 σ K = runOps C t_rAll_2 (σ.kills []) K := rfl
theorem e_rAll_3 (C : FuncId → List AV → AV → Prop) (σ : St) (K : St → Prop) : runReg C r_rAll_3 σ K = runHead C [] t_rAll_3 h_rAll_3 (σ.kills [14]) K := rfl
theorem e_rAll_4 (C : FuncId → List AV → AV → Prop) (σ : St) (K : St → Prop) : runReg C r_rAll_4 σ K = runOps C [⟨(.mv (.c (.bool false))), (some 2), none, [], []⟩] (σ.kills []) K := rfl
theorem e_rAll_5 (C : FuncId → List AV → AV → Prop) (σ : St) (K : St → Prop) : runReg C r_rAll_5 σ K = runOps C t_rAll_5 (σ.kills []) K := rfl
theorem e_rAll_7 (C : FuncId → List AV → AV → Prop) (σ : St) (K : St → Prop) : runReg C r_rAll_7 σ K = runOps C [⟨(.mv (.c (.bool true))), (some 2), none, [], []⟩] (σ.kills []) K := rfl
theorem fn_rAll {args : List AV} {r : AV} (ha : args.length.ble Try.f153.ntmps = true) (h : run (AFn Try.prog) ir_rAll (endQ res_rAll r) (initSt args)) : AFn Try.prog 153 args r :=
  AFn.of_code (pv := false) (hint := fun _ => []) (c := Try.f153.body.getD .skip) (by kernel_rfl) (by kernel_rfl) Try.func153 (by kernel_rfl) (by kernel_rfl) (by kernel_rfl) (of_decide_eq_true (by kernel_rfl)) (Nat.le_of_ble_eq_true ha) (Nat.le_of_ble_eq_true (by kernel_rfl)) (run_ok h)
attribute [local go_sem ↓] ir_rAll
attribute [local go_sem] res_rAll e_rAll_0 e_rAll_1 e_rAll_2 t_rAll_2 e_rAll_3 t_rAll_3 h_rAll_3 e_rAll_4 e_rAll_5 t_rAll_5 e_rAll_7
def allTail (l : List Msg) (j : Nat) : Bool := AllProp (l.drop j) && (j == 0 || match l[j - 1]?, l[j]? with | some a, some b => decide (a.stamp < b.stamp) | _, _ => true)
def allInv (l : List Msg) (r : Bool) (k : Nat) (σ : St) : Prop :=
  ∃ j : Nat, j ≤ l.length ∧ k = l.length - j ∧ σ.T 0 = .sl (l.map Msg.a) ∧ σ.T 3 = .int .i64 j ∧ allTail l j = r
theorem allTail_step {l : List Msg} {j : Nat} {x : Msg} (hx : l[j]? = some x) : allTail l j = (x.right && (j == 0 || match l[j - 1]? with | some a => decide (a.stamp < x.stamp) | none => true) && allTail l (j + 1)) := by
  have hlt := (List.getElem?_eq_some_iff.1 hx).1
  have e : l[j] = x := (List.getElem?_eq_some_iff.1 hx).2
  unfold allTail
  rw [List.drop_eq_getElem_cons hlt, e]
  have h2 : (match l.drop (j + 1) with | [] => true | y :: _ => decide (x.stamp < y.stamp)) = (match l[j + 1]? with | some b => decide (x.stamp < b.stamp) | none => true) := by
    rcases Nat.lt_or_ge (j + 1) l.length with h | h
    · rw [List.drop_eq_getElem_cons h, List.getElem?_eq_getElem h]
    · rw [List.drop_eq_nil_of_le h, List.getElem?_eq_none h]
  simp only [AllProp, h2, Nat.add_sub_cancel, hx]
  have h3 : (j + 1 == 0) = false := by simp
  rw [h3]
  cases x.right <;> cases (AllProp (l.drop (j + 1))) <;> cases hj : l[j + 1]? <;> cases hj2 : l[j - 1]? <;> simp <;>
    (rename_i a b; cases h : decide (x.stamp < a.stamp) <;> simp_all)
theorem refAll (l : List Msg) (hl : l.length ≤ 1000000) (hs : ∀ m, m ∈ l → m.key.size + 1 ≤ 9223372036854775807 ∧ m.hi.size ≤ 9223372036854775807) : AFn Try.prog 153 [.sl (l.map Msg.a)] (.bool (AllProp l)) := by
  refine fn_rAll rfl ?_
  simp (maxSteps := 4000000) only [go_sem, ↓reduceIte, reduceCtorEq, Nat.reduceEqDiff, Nat.reduceBEq, Nat.reduceAdd, Nat.reduceSub, Nat.reduceMul, Nat.reduceLT, Nat.reduceLeDiff, Nat.reduceBNe, Int.reduceBEq, Int.reduceBNe, Int.reduceLT, Int.reduceLE, Spn.a, Msg.a, Eff.a]
  refine run_loop (allInv l (AllProp l)) (k := l.length) ⟨0, by omega, rfl, ?_, ?_, ?_⟩ ?_
  · simp (maxSteps := 4000000) only [go_sem, ↓reduceIte, reduceCtorEq, Nat.reduceEqDiff, Nat.reduceBEq, Nat.reduceAdd, Nat.reduceSub, Nat.reduceMul, Nat.reduceLT, Nat.reduceLeDiff, Nat.reduceBNe, Int.reduceBEq, Int.reduceBNe, Int.reduceLT, Int.reduceLE, Spn.a, Msg.a, Eff.a]
  · simp (maxSteps := 4000000) only [go_sem, ↓reduceIte, reduceCtorEq, Nat.reduceEqDiff, Nat.reduceBEq, Nat.reduceAdd, Nat.reduceSub, Nat.reduceMul, Nat.reduceLT, Nat.reduceLeDiff, Nat.reduceBNe, Int.reduceBEq, Int.reduceBNe, Int.reduceLT, Int.reduceLE, Spn.a, Msg.a, Eff.a]
    rfl
  · simp [allTail]
  rintro k σ ⟨j, hj, rfl, t0, t3, hr⟩
  simp only [r_rAll_l6]
  by_cases hlt : j < l.length
  · have hlt' : (j : Int) < (l.length : Int) := by omega
    obtain ⟨x, hx⟩ : ∃ x, l[j]? = some x := ⟨_, List.getElem?_eq_getElem hlt⟩
    have hg : ∀ (j : Nat) (x : Msg), l[j]? = some x → (l.map Msg.a).getD j .und = .agg [.int .i64 x.stamp, .int .i64 x.kind, .str x.key, .str x.hi, .bool x.op, .str x.val] := fun j x hx => by rw [List.getD_eq_getElem?_getD, List.getElem?_map, hx]; rfl
    have hgj := hg j x hx
    have hw : IntKind.i64.wrap ((j : Int) + 1) = ((j + 1 : Nat) : Int) := by rw [IntWalk.i64_in _ (by omega)]; rfl
    rw [allTail_step hx] at hr
    simp (maxSteps := 4000000) only [go_sem, ↓reduceIte, reduceCtorEq, Nat.reduceEqDiff, Nat.reduceBEq, Nat.reduceAdd, Nat.reduceSub, Nat.reduceMul, Nat.reduceLT, Nat.reduceLeDiff, Nat.reduceBNe, Int.reduceBEq, Int.reduceBNe, Int.reduceLT, Int.reduceLE, Spn.a, Msg.a, Eff.a, t0, t3, hlt', hgj, List.length_map, Int.toNat_natCast]
    refine ⟨by omega, ?_⟩
    (first | refine calling (refRight x (hs x (List.mem_of_getElem? hx))) ?_ | refine callingH (refRight x (hs x (List.mem_of_getElem? hx))) ?_)
    cases hxr : x.right with
    | false =>
      rw [hxr] at hr
      simp only [Bool.false_and] at hr
      simp (maxSteps := 4000000) only [go_sem, ↓reduceIte, reduceCtorEq, Nat.reduceEqDiff, Nat.reduceBEq, Nat.reduceAdd, Nat.reduceSub, Nat.reduceMul, Nat.reduceLT, Nat.reduceLeDiff, Nat.reduceBNe, Int.reduceBEq, Int.reduceBNe, Int.reduceLT, Int.reduceLE, Spn.a, Msg.a, Eff.a, t0, t3, hlt']
      exact hr.symm
    | true =>
      rw [hxr] at hr
      simp only [Bool.true_and] at hr
      cases j with
      | zero =>
        simp only [beq_self_eq_true, Bool.true_or, Bool.true_and] at hr
        have hz : ¬ ((0 : Nat) : Int) > 0 := by omega
        simp (maxSteps := 4000000) only [go_sem, ↓reduceIte, reduceCtorEq, Nat.reduceEqDiff, Nat.reduceBEq, Nat.reduceAdd, Nat.reduceSub, Nat.reduceMul, Nat.reduceLT, Nat.reduceLeDiff, Nat.reduceBNe, Int.reduceBEq, Int.reduceBNe, Int.reduceLT, Int.reduceLE, Spn.a, Msg.a, Eff.a, t0, t3, hz, hw]
        refine ⟨l.length - (0 + 1), by omega, 0 + 1, by omega, rfl, ?_, ?_, hr⟩ <;>
          (simp (maxSteps := 4000000) only [go_sem, ↓reduceIte, reduceCtorEq, Nat.reduceEqDiff, Nat.reduceBEq, Nat.reduceAdd, Nat.reduceSub, Nat.reduceMul, Nat.reduceLT, Nat.reduceLeDiff, Nat.reduceBNe, Int.reduceBEq, Int.reduceBNe, Int.reduceLT, Int.reduceLE, Spn.a, Msg.a, Eff.a, t0, t3, hw])
      | succ i =>
        obtain ⟨y, hy⟩ : ∃ y, l[i]? = some y := ⟨_, List.getElem?_eq_getElem (by omega)⟩
        have hgi := hg i y hy
        have hz : ((i + 1 : Nat) : Int) > 0 := by omega
        have hw1 : IntKind.i64.wrap (((i + 1 : Nat) : Int) - 1) = (i : Int) := by rw [IntWalk.i64_in _ (by omega)]; omega
        have hli : (i : Int) < (l.length : Int) := by omega
        have hz2 : (i + 1 == 0) = false := by simp
        rw [hz2, Bool.false_or, Nat.add_sub_cancel, hy] at hr
        simp only at hr
        by_cases hst : x.stamp ≤ y.stamp
        · have : ¬ y.stamp < x.stamp := by omega
          simp only [this, decide_false, Bool.false_and] at hr
          simp (maxSteps := 4000000) only [go_sem, ↓reduceIte, reduceCtorEq, Nat.reduceEqDiff, Nat.reduceBEq, Nat.reduceAdd, Nat.reduceSub, Nat.reduceMul, Nat.reduceLT, Nat.reduceLeDiff, Nat.reduceBNe, Int.reduceBEq, Int.reduceBNe, Int.reduceLT, Int.reduceLE, Spn.a, Msg.a, Eff.a, t0, t3, hz, hw, hw1, hli, hgi, hgj, hlt', hst, List.length_map, Int.toNat_natCast]
          exact ⟨by omega, by omega, hr.symm⟩
        · have : y.stamp < x.stamp := by omega
          simp only [this, decide_true, Bool.true_and] at hr
          simp (maxSteps := 4000000) only [go_sem, ↓reduceIte, reduceCtorEq, Nat.reduceEqDiff, Nat.reduceBEq, Nat.reduceAdd, Nat.reduceSub, Nat.reduceMul, Nat.reduceLT, Nat.reduceLeDiff, Nat.reduceBNe, Int.reduceBEq, Int.reduceBNe, Int.reduceLT, Int.reduceLE, Spn.a, Msg.a, Eff.a, t0, t3, hz, hw, hw1, hli, hgi, hgj, hlt', hst, List.length_map, Int.toNat_natCast]
          refine ⟨by omega, by omega, l.length - (i + 1 + 1), by omega, i + 1 + 1, by omega, rfl, ?_, ?_, hr⟩ <;>
            (simp (maxSteps := 4000000) only [go_sem, ↓reduceIte, reduceCtorEq, Nat.reduceEqDiff, Nat.reduceBEq, Nat.reduceAdd, Nat.reduceSub, Nat.reduceMul, Nat.reduceLT, Nat.reduceLeDiff, Nat.reduceBNe, Int.reduceBEq, Int.reduceBNe, Int.reduceLT, Int.reduceLE, Spn.a, Msg.a, Eff.a, t0, t3, hw])
  · have hlt' : ¬ (j : Int) < (l.length : Int) := by omega
    simp (maxSteps := 4000000) only [go_sem, ↓reduceIte, reduceCtorEq, Nat.reduceEqDiff, Nat.reduceBEq, Nat.reduceAdd, Nat.reduceSub, Nat.reduceMul, Nat.reduceLT, Nat.reduceLeDiff, Nat.reduceBNe, Int.reduceBEq, Int.reduceBNe, Int.reduceLT, Int.reduceLE, Spn.a, Msg.a, Eff.a, t0, t3, hlt', List.length_map]
    rw [← hr]
    unfold allTail
    rw [List.drop_eq_nil_of_le (by omega), List.getElem?_eq_none (by omega : l.length ≤ j)]
    cases l[j - 1]? <;> simp [AllProp]
end
section
/-
  The data of the trees: messages, pairs, nodes, latches; and that what came in of their types is such.
-/
open Go.RowKit
set_option linter.unusedVariables false
set_option linter.unusedSimpArgs false
set_option maxRecDepth 100000
theorem st_cons {T : Ty} {fs : List Ty} {ds : List AV} (h : TypedC (.st (T :: fs)) ds) : ∃ c r, ds = c ++ r ∧ TypedC T c ∧ TypedC (.st fs) r := by
  cases h with
  | cons h1 h2 => exact ⟨_, _, rfl, h1, h2⟩
theorem st_nil {ds : List AV} (h : TypedC (.st []) ds) : ds = [] := by cases h; rfl
theorem int_inv {ds : List AV} (h : TypedC (.int .i64) ds) : ∃ n, ds = [.int .i64 n] ∧ -9223372036854775808 ≤ n ∧ n ≤ 9223372036854775807 := by
  cases h with
  | int k n h => exact ⟨n, rfl, bounds_i64 h⟩
theorem str_inv {ds : List AV} (h : TypedC .str ds) : ∃ s, ds = [.str s] ∧ s.size ≤ 281474976710656 := by
  cases h with
  | str s h => exact ⟨s, rfl, h⟩
theorem bool_inv {ds : List AV} (h : TypedC .bool ds) : ∃ b, ds = [.bool b] := by
  cases h with
  | bool b => exact ⟨b, rfl⟩
theorem sl_of {α : Type} (f : α → AV) (ok : α → Prop) {T : Ty} {ds : List AV} (h : TypedC (.sl T) ds) (hel : ∀ c, TypedC T c → ∃ a, packT T c = f a ∧ ok a) : ∃ l : List α, ds = [.sl (l.map f)] ∧ l.length ≤ 281474976710656 ∧ ∀ a, a ∈ l → ok a := by
  cases h with
  | sl T ls hlen h =>
    have : ∃ l : List α, ls.map (packT T) = l.map f ∧ l.length = ls.length ∧ ∀ a, a ∈ l → ok a := by
      clear hlen
      induction ls with
      | nil => exact ⟨[], rfl, rfl, fun a ha => by cases ha⟩
      | cons c ls ih =>
        obtain ⟨l, h1, h2, h3⟩ := ih fun x hx => h x (List.mem_cons_of_mem _ hx)
        obtain ⟨a, ha, hok⟩ := hel c (h c (List.mem_cons_self ..))
        refine ⟨a :: l, by rw [List.map_cons, List.map_cons, h1, ha], by rw [List.length_cons, List.length_cons, h2], fun b hb => ?_⟩
        rcases List.mem_cons.1 hb with rfl | hb
        · exact hok
        · exact h3 b hb
    obtain ⟨l, h1, h2, h3⟩ := this
    exact ⟨l, by rw [h1], by omega, h3⟩
structure Msg.ok (x : Msg) : Prop where
  stamp : (-9223372036854775808 ≤ x.stamp ∧ x.stamp ≤ 9223372036854775807)
  kind : (-9223372036854775808 ≤ x.kind ∧ x.kind ≤ 9223372036854775807)
  key : x.key.size ≤ 281474976710656
  hi : x.hi.size ≤ 281474976710656
  op : True
  val : x.val.size ≤ 281474976710656
def MsgT : Ty := .st [.int .i64, .int .i64, .str, .str, .bool, .str]
theorem Msg.of {c : List AV} (h : TypedC MsgT c) : ∃ x : Msg, AV.agg c = x.a ∧ x.ok := by
  obtain ⟨c0, r0, rfl, h0, h⟩ := st_cons h
  obtain ⟨c1, r1, rfl, h1, h⟩ := st_cons h
  obtain ⟨c2, r2, rfl, h2, h⟩ := st_cons h
  obtain ⟨c3, r3, rfl, h3, h⟩ := st_cons h
  obtain ⟨c4, r4, rfl, h4, h⟩ := st_cons h
  obtain ⟨c5, r5, rfl, h5, h⟩ := st_cons h
  obtain rfl := st_nil h
  obtain ⟨v0, rfl, b0⟩ := int_inv h0
  obtain ⟨v1, rfl, b1⟩ := int_inv h1
  obtain ⟨v2, rfl, b2⟩ := str_inv h2
  obtain ⟨v3, rfl, b3⟩ := str_inv h3
  obtain ⟨v4, rfl⟩ := bool_inv h4
  have b4 := True.intro
  obtain ⟨v5, rfl, b5⟩ := str_inv h5
  exact ⟨⟨v0, v1, v2, v3, v4, v5⟩, rfl, ⟨b0, b1, b2, b3, b4, b5⟩⟩
structure Par where
  key : ByteArray
  val : ByteArray
def Par.a (x : Par) : AV := .agg [.str x.key, .str x.val]
structure Par.ok (x : Par) : Prop where
  key : x.key.size ≤ 281474976710656
  val : x.val.size ≤ 281474976710656
def ParT : Ty := .st [.str, .str]
theorem Par.of {c : List AV} (h : TypedC ParT c) : ∃ x : Par, AV.agg c = x.a ∧ x.ok := by
  obtain ⟨c0, r0, rfl, h0, h⟩ := st_cons h
  obtain ⟨c1, r1, rfl, h1, h⟩ := st_cons h
  obtain rfl := st_nil h
  obtain ⟨v0, rfl, b0⟩ := str_inv h0
  obtain ⟨v1, rfl, b1⟩ := str_inv h1
  exact ⟨⟨v0, v1⟩, rfl, ⟨b0, b1⟩⟩
structure Nd where
  slot : Int
  level : Int
  pivots : List ByteArray
  kids : List Int
  high : ByteArray
  top : Bool
  right : Int
  seen : Int
  msgs : List Msg
  rows : List Par
def Nd.a (x : Nd) : AV := .agg [.int .i64 x.slot, .int .i64 x.level, .sl (x.pivots.map AV.str), .sl (x.kids.map (AV.int .i64)), .str x.high, .bool x.top, .int .i64 x.right, .int .i64 x.seen, .sl (x.msgs.map Msg.a), .sl (x.rows.map Par.a)]
structure Nd.ok (x : Nd) : Prop where
  slot : (-9223372036854775808 ≤ x.slot ∧ x.slot ≤ 9223372036854775807)
  level : (-9223372036854775808 ≤ x.level ∧ x.level ≤ 9223372036854775807)
  pivots : (x.pivots.length ≤ 281474976710656 ∧ ∀ z, z ∈ x.pivots → z.size ≤ 281474976710656)
  kids : (x.kids.length ≤ 281474976710656 ∧ ∀ z, z ∈ x.kids → (-9223372036854775808 ≤ z ∧ z ≤ 9223372036854775807))
  high : x.high.size ≤ 281474976710656
  top : True
  right : (-9223372036854775808 ≤ x.right ∧ x.right ≤ 9223372036854775807)
  seen : (-9223372036854775808 ≤ x.seen ∧ x.seen ≤ 9223372036854775807)
  msgs : (x.msgs.length ≤ 281474976710656 ∧ ∀ z, z ∈ x.msgs → z.ok)
  rows : (x.rows.length ≤ 281474976710656 ∧ ∀ z, z ∈ x.rows → z.ok)
def NdT : Ty := .st [.int .i64, .int .i64, .sl (.str), .sl (.int .i64), .str, .bool, .int .i64, .int .i64, .sl MsgT, .sl ParT]
theorem Nd.of {c : List AV} (h : TypedC NdT c) : ∃ x : Nd, AV.agg c = x.a ∧ x.ok := by
  obtain ⟨c0, r0, rfl, h0, h⟩ := st_cons h
  obtain ⟨c1, r1, rfl, h1, h⟩ := st_cons h
  obtain ⟨c2, r2, rfl, h2, h⟩ := st_cons h
  obtain ⟨c3, r3, rfl, h3, h⟩ := st_cons h
  obtain ⟨c4, r4, rfl, h4, h⟩ := st_cons h
  obtain ⟨c5, r5, rfl, h5, h⟩ := st_cons h
  obtain ⟨c6, r6, rfl, h6, h⟩ := st_cons h
  obtain ⟨c7, r7, rfl, h7, h⟩ := st_cons h
  obtain ⟨c8, r8, rfl, h8, h⟩ := st_cons h
  obtain ⟨c9, r9, rfl, h9, h⟩ := st_cons h
  obtain rfl := st_nil h
  obtain ⟨v0, rfl, b0⟩ := int_inv h0
  obtain ⟨v1, rfl, b1⟩ := int_inv h1
  obtain ⟨v2, rfl, b2⟩ := sl_of AV.str (fun z : ByteArray => z.size ≤ 281474976710656) h2 (fun c hc => by obtain ⟨v, rfl, b⟩ := str_inv hc; exact ⟨v, rfl, b⟩)
  obtain ⟨v3, rfl, b3⟩ := sl_of (AV.int .i64) (fun z : Int => -9223372036854775808 ≤ z ∧ z ≤ 9223372036854775807) h3 (fun c hc => by obtain ⟨v, rfl, b⟩ := int_inv hc; exact ⟨v, rfl, b⟩)
  obtain ⟨v4, rfl, b4⟩ := str_inv h4
  obtain ⟨v5, rfl⟩ := bool_inv h5
  have b5 := True.intro
  obtain ⟨v6, rfl, b6⟩ := int_inv h6
  obtain ⟨v7, rfl, b7⟩ := int_inv h7
  obtain ⟨v8, rfl, b8⟩ := sl_of Msg.a Msg.ok h8 (fun c hc => Msg.of hc)
  obtain ⟨v9, rfl, b9⟩ := sl_of Par.a Par.ok h9 (fun c hc => Par.of hc)
  exact ⟨⟨v0, v1, v2, v3, v4, v5, v6, v7, v8, v9⟩, rfl, ⟨b0, b1, b2, b3, b4, b5, b6, b7, b8, b9⟩⟩
structure Hld where
  thread : Int
  slot : Int
  wr : Bool
def Hld.a (x : Hld) : AV := .agg [.int .i64 x.thread, .int .i64 x.slot, .bool x.wr]
structure Hld.ok (x : Hld) : Prop where
  thread : (-9223372036854775808 ≤ x.thread ∧ x.thread ≤ 9223372036854775807)
  slot : (-9223372036854775808 ≤ x.slot ∧ x.slot ≤ 9223372036854775807)
  wr : True
def HldT : Ty := .st [.int .i64, .int .i64, .bool]
theorem Hld.of {c : List AV} (h : TypedC HldT c) : ∃ x : Hld, AV.agg c = x.a ∧ x.ok := by
  obtain ⟨c0, r0, rfl, h0, h⟩ := st_cons h
  obtain ⟨c1, r1, rfl, h1, h⟩ := st_cons h
  obtain ⟨c2, r2, rfl, h2, h⟩ := st_cons h
  obtain rfl := st_nil h
  obtain ⟨v0, rfl, b0⟩ := int_inv h0
  obtain ⟨v1, rfl, b1⟩ := int_inv h1
  obtain ⟨v2, rfl⟩ := bool_inv h2
  have b2 := True.intro
  exact ⟨⟨v0, v1, v2⟩, rfl, ⟨b0, b1, b2⟩⟩
structure Cfg where
  fanout : Int
  leaf : Int
  budget : Int
  slots : Int
  restarts : Int
def Cfg.a (x : Cfg) : AV := .agg [.int .i64 x.fanout, .int .i64 x.leaf, .int .i64 x.budget, .int .i64 x.slots, .int .i64 x.restarts]
structure Cfg.ok (x : Cfg) : Prop where
  fanout : (-9223372036854775808 ≤ x.fanout ∧ x.fanout ≤ 9223372036854775807)
  leaf : (-9223372036854775808 ≤ x.leaf ∧ x.leaf ≤ 9223372036854775807)
  budget : (-9223372036854775808 ≤ x.budget ∧ x.budget ≤ 9223372036854775807)
  slots : (-9223372036854775808 ≤ x.slots ∧ x.slots ≤ 9223372036854775807)
  restarts : (-9223372036854775808 ≤ x.restarts ∧ x.restarts ≤ 9223372036854775807)
def CfgT : Ty := .st [.int .i64, .int .i64, .int .i64, .int .i64, .int .i64]
theorem Cfg.of {c : List AV} (h : TypedC CfgT c) : ∃ x : Cfg, AV.agg c = x.a ∧ x.ok := by
  obtain ⟨c0, r0, rfl, h0, h⟩ := st_cons h
  obtain ⟨c1, r1, rfl, h1, h⟩ := st_cons h
  obtain ⟨c2, r2, rfl, h2, h⟩ := st_cons h
  obtain ⟨c3, r3, rfl, h3, h⟩ := st_cons h
  obtain ⟨c4, r4, rfl, h4, h⟩ := st_cons h
  obtain rfl := st_nil h
  obtain ⟨v0, rfl, b0⟩ := int_inv h0
  obtain ⟨v1, rfl, b1⟩ := int_inv h1
  obtain ⟨v2, rfl, b2⟩ := int_inv h2
  obtain ⟨v3, rfl, b3⟩ := int_inv h3
  obtain ⟨v4, rfl, b4⟩ := int_inv h4
  exact ⟨⟨v0, v1, v2, v3, v4⟩, rfl, ⟨b0, b1, b2, b3, b4⟩⟩
structure Gau where
  nodes : Int
  leaves : Int
  height : Int
  rows : Int
  msgs : Int
  bytes : Int
  empty : Int
  levels : List Int
  waits : List Int
def Gau.a (x : Gau) : AV := .agg [.int .i64 x.nodes, .int .i64 x.leaves, .int .i64 x.height, .int .i64 x.rows, .int .i64 x.msgs, .int .i64 x.bytes, .int .i64 x.empty, .sl (x.levels.map (AV.int .i64)), .sl (x.waits.map (AV.int .i64))]
structure Gau.ok (x : Gau) : Prop where
  nodes : (-9223372036854775808 ≤ x.nodes ∧ x.nodes ≤ 9223372036854775807)
  leaves : (-9223372036854775808 ≤ x.leaves ∧ x.leaves ≤ 9223372036854775807)
  height : (-9223372036854775808 ≤ x.height ∧ x.height ≤ 9223372036854775807)
  rows : (-9223372036854775808 ≤ x.rows ∧ x.rows ≤ 9223372036854775807)
  msgs : (-9223372036854775808 ≤ x.msgs ∧ x.msgs ≤ 9223372036854775807)
  bytes : (-9223372036854775808 ≤ x.bytes ∧ x.bytes ≤ 9223372036854775807)
  empty : (-9223372036854775808 ≤ x.empty ∧ x.empty ≤ 9223372036854775807)
  levels : (x.levels.length ≤ 281474976710656 ∧ ∀ z, z ∈ x.levels → (-9223372036854775808 ≤ z ∧ z ≤ 9223372036854775807))
  waits : (x.waits.length ≤ 281474976710656 ∧ ∀ z, z ∈ x.waits → (-9223372036854775808 ≤ z ∧ z ≤ 9223372036854775807))
def GauT : Ty := .st [.int .i64, .int .i64, .int .i64, .int .i64, .int .i64, .int .i64, .int .i64, .sl (.int .i64), .sl (.int .i64)]
theorem Gau.of {c : List AV} (h : TypedC GauT c) : ∃ x : Gau, AV.agg c = x.a ∧ x.ok := by
  obtain ⟨c0, r0, rfl, h0, h⟩ := st_cons h
  obtain ⟨c1, r1, rfl, h1, h⟩ := st_cons h
  obtain ⟨c2, r2, rfl, h2, h⟩ := st_cons h
  obtain ⟨c3, r3, rfl, h3, h⟩ := st_cons h
  obtain ⟨c4, r4, rfl, h4, h⟩ := st_cons h
  obtain ⟨c5, r5, rfl, h5, h⟩ := st_cons h
  obtain ⟨c6, r6, rfl, h6, h⟩ := st_cons h
  obtain ⟨c7, r7, rfl, h7, h⟩ := st_cons h
  obtain ⟨c8, r8, rfl, h8, h⟩ := st_cons h
  obtain rfl := st_nil h
  obtain ⟨v0, rfl, b0⟩ := int_inv h0
  obtain ⟨v1, rfl, b1⟩ := int_inv h1
  obtain ⟨v2, rfl, b2⟩ := int_inv h2
  obtain ⟨v3, rfl, b3⟩ := int_inv h3
  obtain ⟨v4, rfl, b4⟩ := int_inv h4
  obtain ⟨v5, rfl, b5⟩ := int_inv h5
  obtain ⟨v6, rfl, b6⟩ := int_inv h6
  obtain ⟨v7, rfl, b7⟩ := sl_of (AV.int .i64) (fun z : Int => -9223372036854775808 ≤ z ∧ z ≤ 9223372036854775807) h7 (fun c hc => by obtain ⟨v, rfl, b⟩ := int_inv hc; exact ⟨v, rfl, b⟩)
  obtain ⟨v8, rfl, b8⟩ := sl_of (AV.int .i64) (fun z : Int => -9223372036854775808 ≤ z ∧ z ≤ 9223372036854775807) h8 (fun c hc => by obtain ⟨v, rfl, b⟩ := int_inv hc; exact ⟨v, rfl, b⟩)
  exact ⟨⟨v0, v1, v2, v3, v4, v5, v6, v7, v8⟩, rfl, ⟨b0, b1, b2, b3, b4, b5, b6, b7, b8⟩⟩
/-- an element's place, a number's next -/
theorem at_map {α : Type} {f : α → AV} {l : List α} {j : Nat} {x : α} (h : l[j]? = some x) : (l.map f).getD j .und = f x := by
  rw [List.getD_eq_getElem?_getD, List.getElem?_map, h]; rfl
theorem get_lt {α : Type} {l : List α} {j : Nat} (h : j < l.length) : ∃ x, l[j]? = some x := ⟨_, List.getElem?_eq_getElem h⟩
theorem wrapS {j : Nat} (h : j ≤ 1000000000000000) : IntKind.i64.wrap ((j : Int) + 1) = ((j + 1 : Nat) : Int) := by rw [IntWalk.i64_in _ (by omega)]; rfl
theorem drop_at {α : Type} {l : List α} {j : Nat} {x : α} (h : l[j]? = some x) : l.drop j = x :: l.drop (j + 1) := by
  obtain ⟨hlt, e⟩ := List.getElem?_eq_some_iff.1 h
  rw [List.drop_eq_getElem_cons hlt, e]
end
section
/-
  Are nodes few, with few things? The document's Light, walked.
-/
open Go.RowKit
set_option linter.unusedVariables false
set_option linter.unusedSimpArgs false
set_option maxRecDepth 100000
attribute [local go_sem ↓] runOp headOp
def sumN {α : Type} (f : α → Nat) : List α → Nat
  | [] => 0
  | x :: l => f x + sumN f l
theorem sumN_at {α : Type} {f : α → Nat} {l : List α} {j : Nat} {x : α} (h : l[j]? = some x) : sumN f (l.drop j) = f x + sumN f (l.drop (j + 1)) := by
  rw [drop_at h]; rfl
theorem sumN_mem {α : Type} {f : α → Nat} : ∀ {l : List α} {x : α}, x ∈ l → f x ≤ sumN f l
  | y :: l, x, h => by
    show _ ≤ f y + sumN f l
    rcases List.mem_cons.1 h with rfl | h
    · omega
    · have := sumN_mem (f := f) h; omega
theorem sumN_len {α : Type} {f : α → Nat} (hf : ∀ x, 1 ≤ f x) : ∀ l : List α, l.length ≤ sumN f l
  | [] => Nat.le_refl _
  | x :: l => by
    have := sumN_len hf l
    have := hf x
    show l.length + 1 ≤ f x + sumN f l
    omega
def Par.bulk (p : Par) : Nat := 1 + p.key.size + p.val.size
def Msg.bulkN (m : Msg) : Nat := 1 + m.key.size + m.hi.size + m.val.size
def strBulk (s : ByteArray) : Nat := s.size + 1
def longInv (l : List AV) (most : Int) (rest : Nat → Nat) (r : Bool) (k : Nat) (σ : St) : Prop :=
  ∃ (j n : Nat), j ≤ l.length ∧ k = l.length - j ∧ σ.T 0 = .sl l ∧ σ.T 1 = .int .i64 most ∧ σ.T 5 = .int .i64 n ∧ σ.T 6 = .int .i64 j ∧ n ≤ 900000000000000 ∧ decide (((n + rest j : Nat) : Int) ≤ most) = r
/-! ### percolate/percolateref09.Long -/
def r_rLong9_0 : Reg := ⟨[], [⟨(.mv (.c (.bool false))), (some 4), none, [], []⟩], [], [], false⟩
def r_rLong9_1 : Reg := ⟨[], [⟨(.mv (.c (.int .i64 0))), (some 5), none, [], []⟩], [], [], false⟩
def r_rLong9_2 : Reg := ⟨[], [⟨(.mv (.c (.int .i64 0))), (some 6), none, [], []⟩], [], [], false⟩
def t_rLong9_3 : List ROp := [⟨(.mv (.t 6)), (some 7), none, [], []⟩, ⟨(.mv (.t 0)), (some 8), none, [], []⟩, ⟨(.len false (.t 8)), (some 9), none, [], []⟩, ⟨(.bin .lss (.t 7) (.t 9)), (some 10), none, [], []⟩, ⟨(.mv (.t 10)), (some 11), none, [], []⟩, ⟨(.mv (.t 5)), (some 12), (some (11, true)), [], []⟩, ⟨(.mv (.t 1)), (some 13), (some (11, true)), [], []⟩, ⟨(.bin .leq (.t 12) (.t 13)), (some 14), (some (11, true)), [], []⟩, ⟨(.pick (.t 11) (.t 14) (.c (.bool false))), (some 15), none, [], []⟩]
def r_rLong9_3 : Reg := ⟨[], t_rLong9_3, [], [], false⟩
def h_rLong9_4 : List ROp := [⟨(.mv (.t 5)), (some 18), none, [], []⟩, ⟨(.mv (.t 0)), (some 19), none, [], []⟩, ⟨(.mv (.t 6)), (some 20), none, [], []⟩, ⟨(.iaddr 2 (.t 19) (.t 20)), (some 21), none, [], []⟩, ⟨(.faddr 0 (.t 21)), (some 22), none, [], []⟩, ⟨(.load 1 false (.t 22)), (some 23), none, [], []⟩, ⟨(.len true (.t 23)), (some 24), none, [], []⟩, ⟨(.bin .add (.c (.int .i64 1)) (.t 24)), (some 25), none, [], []⟩, ⟨(.mv (.t 0)), (some 26), none, [], []⟩, ⟨(.mv (.t 6)), (some 27), none, [], []⟩, ⟨(.iaddr 2 (.t 26) (.t 27)), (some 28), none, [], []⟩, ⟨(.faddr 1 (.t 28)), (some 29), none, [], []⟩, ⟨(.load 1 false (.t 29)), (some 30), none, [], []⟩, ⟨(.len true (.t 30)), (some 31), none, [], []⟩, ⟨(.bin .add (.t 25) (.t 31)), (some 32), none, [], []⟩]
def r_rLong9_4 : Reg := ⟨h_rLong9_4, [⟨(.bin .add (.t 18) (.t 32)), (some 33), none, [], []⟩, ⟨(.mv (.t 33)), (some 5), none, [], []⟩], [], [], true⟩
def t_rLong9_5 : List ROp := [⟨(.mv (.t 6)), (some 16), none, [], []⟩, ⟨(.bin .add (.t 16) (.c (.int .i64 1))), (some 17), none, [], []⟩, ⟨(.mv (.t 17)), (some 6), none, [], []⟩]
def r_rLong9_5 : Reg := ⟨[], t_rLong9_5, [], [], false⟩
def r_rLong9_l6 : IR := (.seq (.seq (.reg r_rLong9_3)
  (.cond (.t 15) .skip
  (.exit 0)))
  (.seq (.block 1 (.reg r_rLong9_4))
  (.reg r_rLong9_5)))
def t_rLong9_7 : List ROp := [⟨(.mv (.t 5)), (some 34), none, [], []⟩, ⟨(.mv (.t 1)), (some 35), none, [], []⟩, ⟨(.bin .leq (.t 34) (.t 35)), (some 36), none, [], []⟩, ⟨(.mv (.t 36)), (some 4), none, [], []⟩]
def r_rLong9_7 : Reg := ⟨[], t_rLong9_7, [], [], false⟩
def ir_rLong9 : IR := (.seq (.reg r_rLong9_0)
  (.seq (.reg r_rLong9_1)
  (.seq (.seq (.reg r_rLong9_2)
  (.block 0 (.loop r_rLong9_l6)))
  (.seq (.reg r_rLong9_7)
  .ret))))
def res_rLong9 : List RDesc := [(.tmp 4)]
theorem e_rLong9_0 (C : FuncId → List AV → AV → Prop) (σ : St) (K : St → Prop) : runReg C r_rLong9_0 σ K = runOps C [⟨(.mv (.c (.bool false))), (some 4), none, [], []⟩] (σ.kills []) K := rfl
theorem e_rLong9_1 (C : FuncId → List AV → AV → Prop) (σ : St) (K : St → Prop) : runReg C r_rLong9_1 σ K = runOps C [⟨(.mv (.c (.int .i64 0))), (some 5), none, [], []⟩] (σ.kills []) K := rfl
theorem e_rLong9_2 (C : FuncId → List AV → AV → Prop) (σ : St) (K : St → Prop) : runReg C r_rLong9_2 σ K = runOps C [⟨(.mv (.c (.int .i64 0))), (some 6), none, [], []⟩] (σ.kills []) K := rfl
theorem e_rLong9_3 (C : FuncId → List AV → AV → Prop) (σ : St) (K : St → Prop) : runReg C r_rLong9_3 σ K = runOps C t_rLong9_3 (σ.kills []) K := rfl
theorem e_rLong9_4 (C : FuncId → List AV → AV → Prop) (σ : St) (K : St → Prop) : runReg C r_rLong9_4 σ K = runHead C [] [⟨(.bin .add (.t 18) (.t 32)), (some 33), none, [], []⟩, ⟨(.mv (.t 33)), (some 5), none, [], []⟩] h_rLong9_4 (σ.kills []) K := rfl
theorem e_rLong9_5 (C : FuncId → List AV → AV → Prop) (σ : St) (K : St → Prop) : runReg C r_rLong9_5 σ K = runOps C t_rLong9_5 (σ.kills []) K := rfl
theorem e_rLong9_7 (C : FuncId → List AV → AV → Prop) (σ : St) (K : St → Prop) : runReg C r_rLong9_7 σ K = runOps C t_rLong9_7 (σ.kills []) K := rfl
theorem fn_rLong9 {args : List AV} {r : AV} (ha : args.length.ble Try.f61.ntmps = true) (h : run (AFn Try.prog) ir_rLong9 (endQ res_rLong9 r) (initSt args)) : AFn Try.prog 61 args r :=
  AFn.of_code (pv := false) (hint := fun _ => []) (c := Try.f61.body.getD .skip) (by kernel_rfl) (by kernel_rfl) Try.func61 (by kernel_rfl) (by kernel_rfl) (by kernel_rfl) (of_decide_eq_true (by kernel_rfl)) (Nat.le_of_ble_eq_true ha) (Nat.le_of_ble_eq_true (by kernel_rfl)) (run_ok h)
/-! ### percolate/percolateref05.Few -/
def r_rFewN_0 : Reg := ⟨[], [⟨(.mv (.c (.bool false))), (some 4), none, [], []⟩], [], [], false⟩
def r_rFewN_1 : Reg := ⟨[], [⟨(.mv (.c (.int .i64 0))), (some 5), none, [], []⟩], [], [], false⟩
def r_rFewN_2 : Reg := ⟨[], [⟨(.mv (.c (.int .i64 0))), (some 6), none, [], []⟩], [], [], false⟩
def t_rFewN_3 : List ROp := [⟨(.mv (.t 6)), (some 7), none, [], []⟩, ⟨(.mv (.t 0)), (some 8), none, [], []⟩, ⟨(.len false (.t 8)), (some 9), none, [], []⟩, ⟨(.bin .lss (.t 7) (.t 9)), (some 10), none, [], []⟩, ⟨(.mv (.t 10)), (some 11), none, [], []⟩, ⟨(.mv (.t 5)), (some 12), (some (11, true)), [], []⟩, ⟨(.mv (.t 1)), (some 13), (some (11, true)), [], []⟩, ⟨(.bin .leq (.t 12) (.t 13)), (some 14), (some (11, true)), [], []⟩, ⟨(.pick (.t 11) (.t 14) (.c (.bool false))), (some 15), none, [], []⟩]
def r_rFewN_3 : Reg := ⟨[], t_rFewN_3, [], [], false⟩
def h_rFewN_4 : List ROp := [⟨(.mv (.t 5)), (some 18), none, [], []⟩, ⟨(.mv (.t 0)), (some 19), none, [], []⟩, ⟨(.mv (.t 6)), (some 20), none, [], []⟩, ⟨(.iaddr 6 (.t 19) (.t 20)), (some 21), none, [], []⟩, ⟨(.faddr 2 (.t 21)), (some 22), none, [], []⟩, ⟨(.load 1 false (.t 22)), (some 23), none, [], []⟩, ⟨(.len true (.t 23)), (some 24), none, [], []⟩, ⟨(.bin .add (.c (.int .i64 1)) (.t 24)), (some 25), none, [], []⟩, ⟨(.mv (.t 0)), (some 26), none, [], []⟩, ⟨(.mv (.t 6)), (some 27), none, [], []⟩, ⟨(.iaddr 6 (.t 26) (.t 27)), (some 28), none, [], []⟩, ⟨(.faddr 3 (.t 28)), (some 29), none, [], []⟩, ⟨(.load 1 false (.t 29)), (some 30), none, [], []⟩, ⟨(.len true (.t 30)), (some 31), none, [], []⟩, ⟨(.bin .add (.t 25) (.t 31)), (some 32), none, [], []⟩, ⟨(.mv (.t 0)), (some 33), none, [], []⟩, ⟨(.mv (.t 6)), (some 34), none, [], []⟩, ⟨(.iaddr 6 (.t 33) (.t 34)), (some 35), none, [], []⟩, ⟨(.faddr 5 (.t 35)), (some 36), none, [], []⟩, ⟨(.load 1 false (.t 36)), (some 37), none, [], []⟩, ⟨(.len true (.t 37)), (some 38), none, [], []⟩, ⟨(.bin .add (.t 32) (.t 38)), (some 39), none, [], []⟩]
def r_rFewN_4 : Reg := ⟨h_rFewN_4, [⟨(.bin .add (.t 18) (.t 39)), (some 40), none, [], []⟩, ⟨(.mv (.t 40)), (some 5), none, [], []⟩], [], [], true⟩
def t_rFewN_5 : List ROp := [⟨(.mv (.t 6)), (some 16), none, [], []⟩, ⟨(.bin .add (.t 16) (.c (.int .i64 1))), (some 17), none, [], []⟩, ⟨(.mv (.t 17)), (some 6), none, [], []⟩]
def r_rFewN_5 : Reg := ⟨[], t_rFewN_5, [], [], false⟩
def r_rFewN_l6 : IR := (.seq (.seq (.reg r_rFewN_3)
  (.cond (.t 15) .skip
  (.exit 0)))
  (.seq (.block 1 (.reg r_rFewN_4))
  (.reg r_rFewN_5)))
def t_rFewN_7 : List ROp := [⟨(.mv (.t 5)), (some 41), none, [], []⟩, ⟨(.mv (.t 1)), (some 42), none, [], []⟩, ⟨(.bin .leq (.t 41) (.t 42)), (some 43), none, [], []⟩, ⟨(.mv (.t 43)), (some 4), none, [], []⟩]
def r_rFewN_7 : Reg := ⟨[], t_rFewN_7, [], [], false⟩
def ir_rFewN : IR := (.seq (.reg r_rFewN_0)
  (.seq (.reg r_rFewN_1)
  (.seq (.seq (.reg r_rFewN_2)
  (.block 0 (.loop r_rFewN_l6)))
  (.seq (.reg r_rFewN_7)
  .ret))))
def res_rFewN : List RDesc := [(.tmp 4)]
theorem e_rFewN_0 (C : FuncId → List AV → AV → Prop) (σ : St) (K : St → Prop) : runReg C r_rFewN_0 σ K = runOps C [⟨(.mv (.c (.bool false))), (some 4), none, [], []⟩] (σ.kills []) K := rfl
theorem e_rFewN_1 (C : FuncId → List AV → AV → Prop) (σ : St) (K : St → Prop) : runReg C r_rFewN_1 σ K = runOps C [⟨(.mv (.c (.int .i64 0))), (some 5), none, [], []⟩] (σ.kills []) K := rfl
theorem e_rFewN_2 (C : FuncId → List AV → AV → Prop) (σ : St) (K : St → Prop) : runReg C r_rFewN_2 σ K = runOps C [⟨(.mv (.c (.int .i64 0))), (some 6), none, [], []⟩] (σ.kills []) K := rfl
theorem e_rFewN_3 (C : FuncId → List AV → AV → Prop) (σ : St) (K : St → Prop) : runReg C r_rFewN_3 σ K = runOps C t_rFewN_3 (σ.kills []) K := rfl
theorem e_rFewN_4 (C : FuncId → List AV → AV → Prop) (σ : St) (K : St → Prop) : runReg C r_rFewN_4 σ K = runHead C [] [⟨(.bin .add (.t 18) (.t 39)), (some 40), none, [], []⟩, ⟨(.mv (.t 40)), (some 5), none, [], []⟩] h_rFewN_4 (σ.kills []) K := rfl
theorem e_rFewN_5 (C : FuncId → List AV → AV → Prop) (σ : St) (K : St → Prop) : runReg C r_rFewN_5 σ K = runOps C t_rFewN_5 (σ.kills []) K := rfl
theorem e_rFewN_7 (C : FuncId → List AV → AV → Prop) (σ : St) (K : St → Prop) : runReg C r_rFewN_7 σ K = runOps C t_rFewN_7 (σ.kills []) K := rfl
theorem fn_rFewN {args : List AV} {r : AV} (ha : args.length.ble Try.f85.ntmps = true) (h : run (AFn Try.prog) ir_rFewN (endQ res_rFewN r) (initSt args)) : AFn Try.prog 85 args r :=
  AFn.of_code (pv := false) (hint := fun _ => []) (c := Try.f85.body.getD .skip) (by kernel_rfl) (by kernel_rfl) Try.func85 (by kernel_rfl) (by kernel_rfl) (by kernel_rfl) (of_decide_eq_true (by kernel_rfl)) (Nat.le_of_ble_eq_true ha) (Nat.le_of_ble_eq_true (by kernel_rfl)) (run_ok h)
/-! ### percolate/percolateref01.Long -/
def r_rLong1_0 : Reg := ⟨[], [⟨(.mv (.c (.int .i64 0))), (some 4), none, [], []⟩], [], [], false⟩
def r_rLong1_1 : Reg := ⟨[], [⟨(.mv (.c (.int .i64 0))), (some 5), none, [], []⟩], [], [], false⟩
def r_rLong1_2 : Reg := ⟨[], [⟨(.mv (.c (.int .i64 0))), (some 6), none, [], []⟩], [], [], false⟩
def t_rLong1_3 : List ROp := [⟨(.mv (.t 6)), (some 7), none, [], []⟩, ⟨(.mv (.t 0)), (some 8), none, [], []⟩, ⟨(.len false (.t 8)), (some 9), none, [], []⟩, ⟨(.bin .lss (.t 7) (.t 9)), (some 10), none, [], []⟩, ⟨(.mv (.t 10)), (some 11), none, [], []⟩, ⟨(.mv (.t 5)), (some 12), (some (11, true)), [], []⟩, ⟨(.mv (.t 1)), (some 13), (some (11, true)), [], []⟩, ⟨(.bin .leq (.t 12) (.t 13)), (some 14), (some (11, true)), [], []⟩, ⟨(.pick (.t 11) (.t 14) (.c (.bool false))), (some 15), none, [], []⟩]
def r_rLong1_3 : Reg := ⟨[], t_rLong1_3, [], [], false⟩
def t_rLong1_4 : List ROp := [⟨(.mv (.t 5)), (some 18), none, [], []⟩, ⟨(.mv (.t 0)), (some 19), none, [], []⟩, ⟨(.mv (.t 6)), (some 20), none, [], []⟩, ⟨(.iaddr 1 (.t 19) (.t 20)), (some 21), none, [], []⟩, ⟨(.load 1 false (.t 21)), (some 22), none, [], []⟩, ⟨(.len true (.t 22)), (some 23), none, [], []⟩, ⟨(.bin .add (.t 23) (.c (.int .i64 1))), (some 24), none, [], []⟩, ⟨(.bin .add (.t 18) (.t 24)), (some 25), none, [], []⟩, ⟨(.mv (.t 25)), (some 5), none, [], []⟩]
def r_rLong1_4 : Reg := ⟨[], t_rLong1_4, [], [], false⟩
def t_rLong1_5 : List ROp := [⟨(.mv (.t 6)), (some 16), none, [], []⟩, ⟨(.bin .add (.t 16) (.c (.int .i64 1))), (some 17), none, [], []⟩, ⟨(.mv (.t 17)), (some 6), none, [], []⟩]
def r_rLong1_5 : Reg := ⟨[], t_rLong1_5, [], [], false⟩
def r_rLong1_l6 : IR := (.seq (.seq (.reg r_rLong1_3)
  (.cond (.t 15) .skip
  (.exit 0)))
  (.seq (.block 1 (.reg r_rLong1_4))
  (.reg r_rLong1_5)))
def r_rLong1_7 : Reg := ⟨[], [⟨(.mv (.t 5)), (some 26), none, [], []⟩, ⟨(.mv (.t 26)), (some 4), none, [], []⟩], [], [], false⟩
def ir_rLong1 : IR := (.seq (.reg r_rLong1_0)
  (.seq (.reg r_rLong1_1)
  (.seq (.seq (.reg r_rLong1_2)
  (.block 0 (.loop r_rLong1_l6)))
  (.seq (.reg r_rLong1_7)
  .ret))))
def res_rLong1 : List RDesc := [(.tmp 4)]
theorem e_rLong1_0 (C : FuncId → List AV → AV → Prop) (σ : St) (K : St → Prop) : runReg C r_rLong1_0 σ K = runOps C [⟨(.mv (.c (.int .i64 0))), (some 4), none, [], []⟩] (σ.kills []) K := rfl
theorem e_rLong1_1 (C : FuncId → List AV → AV → Prop) (σ : St) (K : St → Prop) : runReg C r_rLong1_1 σ K = runOps C [⟨(.mv (.c (.int .i64 0))), (some 5), none, [], []⟩] (σ.kills []) K := rfl
theorem e_rLong1_2 (C : FuncId → List AV → AV → Prop) (σ : St) (K : St → Prop) : runReg C r_rLong1_2 σ K = runOps C [⟨(.mv (.c (.int .i64 0))), (some 6), none, [], []⟩] (σ.kills []) K := rfl
theorem e_rLong1_3 (C : FuncId → List AV → AV → Prop) (σ : St) (K : St → Prop) : runReg C r_rLong1_3 σ K = runOps C t_rLong1_3 (σ.kills []) K := rfl
theorem e_rLong1_4 (C : FuncId → List AV → AV → Prop) (σ : St) (K : St → Prop) : runReg C r_rLong1_4 σ K = runOps C t_rLong1_4 (σ.kills []) K := rfl
theorem e_rLong1_5 (C : FuncId → List AV → AV → Prop) (σ : St) (K : St → Prop) : runReg C r_rLong1_5 σ K = runOps C t_rLong1_5 (σ.kills []) K := rfl
theorem e_rLong1_7 (C : FuncId → List AV → AV → Prop) (σ : St) (K : St → Prop) : runReg C r_rLong1_7 σ K = runOps C [⟨(.mv (.t 5)), (some 26), none, [], []⟩, ⟨(.mv (.t 26)), (some 4), none, [], []⟩] (σ.kills []) K := rfl
theorem fn_rLong1 {args : List AV} {r : AV} (ha : args.length.ble Try.f84.ntmps = true) (h : run (AFn Try.prog) ir_rLong1 (endQ res_rLong1 r) (initSt args)) : AFn Try.prog 84 args r :=
  AFn.of_code (pv := false) (hint := fun _ => []) (c := Try.f84.body.getD .skip) (by kernel_rfl) (by kernel_rfl) Try.func84 (by kernel_rfl) (by kernel_rfl) (by kernel_rfl) (of_decide_eq_true (by kernel_rfl)) (Nat.le_of_ble_eq_true ha) (Nat.le_of_ble_eq_true (by kernel_rfl)) (run_ok h)
attribute [local go_sem ↓] ir_rLong9
attribute [local go_sem] res_rLong9 e_rLong9_0 e_rLong9_1 e_rLong9_2 e_rLong9_3 t_rLong9_3 e_rLong9_4 h_rLong9_4 e_rLong9_5 t_rLong9_5 e_rLong9_7 t_rLong9_7
attribute [local go_sem ↓] ir_rFewN
attribute [local go_sem] res_rFewN e_rFewN_0 e_rFewN_1 e_rFewN_2 e_rFewN_3 t_rFewN_3 e_rFewN_4 h_rFewN_4 e_rFewN_5 t_rFewN_5 e_rFewN_7 t_rFewN_7
attribute [local go_sem ↓] ir_rLong1
attribute [local go_sem] res_rLong1 e_rLong1_0 e_rLong1_1 e_rLong1_2 e_rLong1_3 t_rLong1_3 e_rLong1_4 t_rLong1_4 e_rLong1_5 t_rLong1_5 e_rLong1_7
theorem rLong9_ok (l : List Par) (most : Int) (h1 : 0 ≤ most) (h2 : most ≤ 1000000) (hs : ∀ m, m ∈ l → m.key.size ≤ 281474976710656 ∧ m.val.size ≤ 281474976710656) (hl : l.length ≤ 281474976710656) :
    AFn Try.prog 61 [.sl (l.map Par.a), .int .i64 most] (.bool (decide ((sumN Par.bulk l : Int) ≤ most))) := by
  refine fn_rLong9 rfl ?_
  simp (maxSteps := 4000000) only [go_sem, ↓reduceIte, reduceCtorEq, Nat.reduceEqDiff, Nat.reduceBEq, Nat.reduceAdd, Nat.reduceSub, Nat.reduceMul, Nat.reduceLT, Nat.reduceLeDiff, Nat.reduceBNe, Int.reduceBEq, Int.reduceBNe, Int.reduceLT, Int.reduceLE, Msg.a, Par.a, Nd.a]
  refine run_loop (longInv (l.map Par.a) most (fun j => sumN Par.bulk (l.drop j)) (decide ((sumN Par.bulk l : Int) ≤ most))) (k := (l.map Par.a).length) ⟨0, 0, by omega, rfl, rfl, rfl, rfl, rfl, by omega, ?_⟩ ?_
  · simp
  rintro k σ ⟨j, n, hj, rfl, t0, t1, t5, t6, hn2, hr⟩
  rw [List.length_map] at hj
  simp only [r_rLong9_l6]
  by_cases hlt : j < l.length
  · have hlt' : (j : Int) < (l.length : Int) := by omega
    by_cases hm : (n : Int) ≤ most
    · obtain ⟨x, hx⟩ := get_lt hlt
      have hgj := at_map (f := Par.a) hx
      simp only [Par.a] at hgj
      have hw := wrapS (j := j) (by omega)
      obtain ⟨s1, s3⟩ := hs x (List.mem_of_getElem? hx)
      have w1 : IntKind.i64.wrap (1 + (x.key.size : Int)) = 1 + (x.key.size : Int) := IntWalk.i64_in _ (by omega)
      have w3 : IntKind.i64.wrap (1 + (x.key.size : Int) + (x.val.size : Int)) = 1 + (x.key.size : Int) + (x.val.size : Int) := IntWalk.i64_in _ (by omega)
      have w4 : IntKind.i64.wrap ((n : Int) + (1 + (x.key.size : Int) + (x.val.size : Int))) = ((n + x.bulk : Nat) : Int) := by
        rw [IntWalk.i64_in _ (by omega)]; unfold Par.bulk; omega
      simp only [sumN_at hx] at hr
      simp (maxSteps := 4000000) only [go_sem, ↓reduceIte, reduceCtorEq, Nat.reduceEqDiff, Nat.reduceBEq, Nat.reduceAdd, Nat.reduceSub, Nat.reduceMul, Nat.reduceLT, Nat.reduceLeDiff, Nat.reduceBNe, Int.reduceBEq, Int.reduceBNe, Int.reduceLT, Int.reduceLE, Msg.a, Par.a, Nd.a, t0, t1, t5, t6, hlt', hm, hgj, List.length_map, Int.toNat_natCast, w1, w3, w4, hw]
      (repeat refine And.intro (by omega) ?_)
      refine ⟨l.length - (j + 1), by omega, j + 1, n + x.bulk, by rw [List.length_map]; omega, by rw [List.length_map], ?_, ?_, ?_, ?_, by unfold Par.bulk; omega, ?_⟩
      · simp (maxSteps := 4000000) only [go_sem, ↓reduceIte, reduceCtorEq, Nat.reduceEqDiff, Nat.reduceBEq, Nat.reduceAdd, Nat.reduceSub, Nat.reduceMul, Nat.reduceLT, Nat.reduceLeDiff, Nat.reduceBNe, Int.reduceBEq, Int.reduceBNe, Int.reduceLT, Int.reduceLE, Msg.a, Par.a, Nd.a, t0, t1, t5, t6]
      · simp (maxSteps := 4000000) only [go_sem, ↓reduceIte, reduceCtorEq, Nat.reduceEqDiff, Nat.reduceBEq, Nat.reduceAdd, Nat.reduceSub, Nat.reduceMul, Nat.reduceLT, Nat.reduceLeDiff, Nat.reduceBNe, Int.reduceBEq, Int.reduceBNe, Int.reduceLT, Int.reduceLE, Msg.a, Par.a, Nd.a, t0, t1, t5, t6]
      · simp (maxSteps := 4000000) only [go_sem, ↓reduceIte, reduceCtorEq, Nat.reduceEqDiff, Nat.reduceBEq, Nat.reduceAdd, Nat.reduceSub, Nat.reduceMul, Nat.reduceLT, Nat.reduceLeDiff, Nat.reduceBNe, Int.reduceBEq, Int.reduceBNe, Int.reduceLT, Int.reduceLE, Msg.a, Par.a, Nd.a, t0, t1, t5, t6]
      · simp (maxSteps := 4000000) only [go_sem, ↓reduceIte, reduceCtorEq, Nat.reduceEqDiff, Nat.reduceBEq, Nat.reduceAdd, Nat.reduceSub, Nat.reduceMul, Nat.reduceLT, Nat.reduceLeDiff, Nat.reduceBNe, Int.reduceBEq, Int.reduceBNe, Int.reduceLT, Int.reduceLE, Msg.a, Par.a, Nd.a, t0, t1, t5, t6]
      · rw [← hr, Nat.add_assoc]
    · simp (maxSteps := 4000000) only [go_sem, ↓reduceIte, reduceCtorEq, Nat.reduceEqDiff, Nat.reduceBEq, Nat.reduceAdd, Nat.reduceSub, Nat.reduceMul, Nat.reduceLT, Nat.reduceLeDiff, Nat.reduceBNe, Int.reduceBEq, Int.reduceBNe, Int.reduceLT, Int.reduceLE, Msg.a, Par.a, Nd.a, t0, t1, t5, t6, hlt', hm, List.length_map]
      have : ¬ ((n + sumN Par.bulk (l.drop j) : Nat) : Int) ≤ most := by omega
      simp only [decide_eq_false this] at hr
      exact of_decide_eq_false hr.symm
  · have hlt' : ¬ (j : Int) < (l.length : Int) := by omega
    simp (maxSteps := 4000000) only [go_sem, ↓reduceIte, reduceCtorEq, Nat.reduceEqDiff, Nat.reduceBEq, Nat.reduceAdd, Nat.reduceSub, Nat.reduceMul, Nat.reduceLT, Nat.reduceLeDiff, Nat.reduceBNe, Int.reduceBEq, Int.reduceBNe, Int.reduceLT, Int.reduceLE, Msg.a, Par.a, Nd.a, t0, t1, t5, t6, hlt', List.length_map]
    rw [← hr]
    show decide (((n + sumN Par.bulk (l.drop j) : Nat) : Int) ≤ most) = _
    rw [List.drop_eq_nil_of_le (by omega)]
    exact decide_eq_decide.2 Iff.rfl
theorem rFewN_ok (l : List Msg) (most : Int) (h1 : 0 ≤ most) (h2 : most ≤ 1000000) (hs : ∀ m, m ∈ l → m.key.size ≤ 281474976710656 ∧ m.hi.size ≤ 281474976710656 ∧ m.val.size ≤ 281474976710656) (hl : l.length ≤ 281474976710656) :
    AFn Try.prog 85 [.sl (l.map Msg.a), .int .i64 most] (.bool (decide ((sumN Msg.bulkN l : Int) ≤ most))) := by
  refine fn_rFewN rfl ?_
  simp (maxSteps := 4000000) only [go_sem, ↓reduceIte, reduceCtorEq, Nat.reduceEqDiff, Nat.reduceBEq, Nat.reduceAdd, Nat.reduceSub, Nat.reduceMul, Nat.reduceLT, Nat.reduceLeDiff, Nat.reduceBNe, Int.reduceBEq, Int.reduceBNe, Int.reduceLT, Int.reduceLE, Msg.a, Par.a, Nd.a]
  refine run_loop (longInv (l.map Msg.a) most (fun j => sumN Msg.bulkN (l.drop j)) (decide ((sumN Msg.bulkN l : Int) ≤ most))) (k := (l.map Msg.a).length) ⟨0, 0, by omega, rfl, rfl, rfl, rfl, rfl, by omega, ?_⟩ ?_
  · simp
  rintro k σ ⟨j, n, hj, rfl, t0, t1, t5, t6, hn2, hr⟩
  rw [List.length_map] at hj
  simp only [r_rFewN_l6]
  by_cases hlt : j < l.length
  · have hlt' : (j : Int) < (l.length : Int) := by omega
    by_cases hm : (n : Int) ≤ most
    · obtain ⟨x, hx⟩ := get_lt hlt
      have hgj := at_map (f := Msg.a) hx
      simp only [Msg.a] at hgj
      have hw := wrapS (j := j) (by omega)
      obtain ⟨s1, s2, s3⟩ := hs x (List.mem_of_getElem? hx)
      have w1 : IntKind.i64.wrap (1 + (x.key.size : Int)) = 1 + (x.key.size : Int) := IntWalk.i64_in _ (by omega)
      have w2 : IntKind.i64.wrap (1 + (x.key.size : Int) + (x.hi.size : Int)) = 1 + (x.key.size : Int) + (x.hi.size : Int) := IntWalk.i64_in _ (by omega)
      have w3 : IntKind.i64.wrap (1 + (x.key.size : Int) + (x.hi.size : Int) + (x.val.size : Int)) = 1 + (x.key.size : Int) + (x.hi.size : Int) + (x.val.size : Int) := IntWalk.i64_in _ (by omega)
      have w4 : IntKind.i64.wrap ((n : Int) + (1 + (x.key.size : Int) + (x.hi.size : Int) + (x.val.size : Int))) = ((n + x.bulkN : Nat) : Int) := by
        rw [IntWalk.i64_in _ (by omega)]; unfold Msg.bulkN; omega
      simp only [sumN_at hx] at hr
      simp (maxSteps := 4000000) only [go_sem, ↓reduceIte, reduceCtorEq, Nat.reduceEqDiff, Nat.reduceBEq, Nat.reduceAdd, Nat.reduceSub, Nat.reduceMul, Nat.reduceLT, Nat.reduceLeDiff, Nat.reduceBNe, Int.reduceBEq, Int.reduceBNe, Int.reduceLT, Int.reduceLE, Msg.a, Par.a, Nd.a, t0, t1, t5, t6, hlt', hm, hgj, List.length_map, Int.toNat_natCast, w1, w2, w3, w4, hw]
      (repeat refine And.intro (by omega) ?_)
      refine ⟨l.length - (j + 1), by omega, j + 1, n + x.bulkN, by rw [List.length_map]; omega, by rw [List.length_map], ?_, ?_, ?_, ?_, by unfold Msg.bulkN; omega, ?_⟩
      · simp (maxSteps := 4000000) only [go_sem, ↓reduceIte, reduceCtorEq, Nat.reduceEqDiff, Nat.reduceBEq, Nat.reduceAdd, Nat.reduceSub, Nat.reduceMul, Nat.reduceLT, Nat.reduceLeDiff, Nat.reduceBNe, Int.reduceBEq, Int.reduceBNe, Int.reduceLT, Int.reduceLE, Msg.a, Par.a, Nd.a, t0, t1, t5, t6]
      · simp (maxSteps := 4000000) only [go_sem, ↓reduceIte, reduceCtorEq, Nat.reduceEqDiff, Nat.reduceBEq, Nat.reduceAdd, Nat.reduceSub, Nat.reduceMul, Nat.reduceLT, Nat.reduceLeDiff, Nat.reduceBNe, Int.reduceBEq, Int.reduceBNe, Int.reduceLT, Int.reduceLE, Msg.a, Par.a, Nd.a, t0, t1, t5, t6]
      · simp (maxSteps := 4000000) only [go_sem, ↓reduceIte, reduceCtorEq, Nat.reduceEqDiff, Nat.reduceBEq, Nat.reduceAdd, Nat.reduceSub, Nat.reduceMul, Nat.reduceLT, Nat.reduceLeDiff, Nat.reduceBNe, Int.reduceBEq, Int.reduceBNe, Int.reduceLT, Int.reduceLE, Msg.a, Par.a, Nd.a, t0, t1, t5, t6]
      · simp (maxSteps := 4000000) only [go_sem, ↓reduceIte, reduceCtorEq, Nat.reduceEqDiff, Nat.reduceBEq, Nat.reduceAdd, Nat.reduceSub, Nat.reduceMul, Nat.reduceLT, Nat.reduceLeDiff, Nat.reduceBNe, Int.reduceBEq, Int.reduceBNe, Int.reduceLT, Int.reduceLE, Msg.a, Par.a, Nd.a, t0, t1, t5, t6]
      · rw [← hr, Nat.add_assoc]
    · simp (maxSteps := 4000000) only [go_sem, ↓reduceIte, reduceCtorEq, Nat.reduceEqDiff, Nat.reduceBEq, Nat.reduceAdd, Nat.reduceSub, Nat.reduceMul, Nat.reduceLT, Nat.reduceLeDiff, Nat.reduceBNe, Int.reduceBEq, Int.reduceBNe, Int.reduceLT, Int.reduceLE, Msg.a, Par.a, Nd.a, t0, t1, t5, t6, hlt', hm, List.length_map]
      have : ¬ ((n + sumN Msg.bulkN (l.drop j) : Nat) : Int) ≤ most := by omega
      simp only [decide_eq_false this] at hr
      exact of_decide_eq_false hr.symm
  · have hlt' : ¬ (j : Int) < (l.length : Int) := by omega
    simp (maxSteps := 4000000) only [go_sem, ↓reduceIte, reduceCtorEq, Nat.reduceEqDiff, Nat.reduceBEq, Nat.reduceAdd, Nat.reduceSub, Nat.reduceMul, Nat.reduceLT, Nat.reduceLeDiff, Nat.reduceBNe, Int.reduceBEq, Int.reduceBNe, Int.reduceLT, Int.reduceLE, Msg.a, Par.a, Nd.a, t0, t1, t5, t6, hlt', List.length_map]
    rw [← hr]
    show decide (((n + sumN Msg.bulkN (l.drop j) : Nat) : Int) ≤ most) = _
    rw [List.drop_eq_nil_of_le (by omega)]
    exact decide_eq_decide.2 Iff.rfl
/-- with an early end -/
def sGo (most : Int) : Nat → List ByteArray → Nat
  | n, [] => n
  | n, x :: l => if (n : Int) ≤ most then sGo most (n + strBulk x) l else n
theorem sGo_iff (most : Int) : ∀ (l : List ByteArray) (n : Nat), decide (most < (sGo most n l : Int)) = !decide (((n + sumN strBulk l : Nat) : Int) ≤ most)
  | [], n => by
    show decide (most < (n : Int)) = !decide (((n + 0 : Nat) : Int) ≤ most)
    by_cases h : (n : Int) ≤ most
    · rw [decide_eq_false (by omega), decide_eq_true (by omega)]; rfl
    · rw [decide_eq_true (by omega), decide_eq_false (by omega)]; rfl
  | x :: l, n => by
    rw [sGo]
    by_cases h : (n : Int) ≤ most
    · rw [if_pos h, sGo_iff most l (n + strBulk x), Nat.add_assoc]; rfl
    · rw [if_neg h, decide_eq_true (by omega), decide_eq_false (by omega)]; rfl
def long1Inv (l : List ByteArray) (most : Int) (r : Nat) (k : Nat) (σ : St) : Prop :=
  ∃ (j n : Nat), j ≤ l.length ∧ k = l.length - j ∧ σ.T 0 = .sl (l.map .str) ∧ σ.T 1 = .int .i64 most ∧ σ.T 5 = .int .i64 n ∧ σ.T 6 = .int .i64 j ∧ n ≤ 900000000000000 ∧ sGo most n (l.drop j) = r
theorem rLong1_ok (l : List ByteArray) (most : Int) (h1 : 0 ≤ most) (h2 : most ≤ 1000000) (hs : ∀ m, m ∈ l → m.size ≤ 281474976710656) (hl : l.length ≤ 281474976710656) :
    AFn Try.prog 84 [.sl (l.map .str), .int .i64 most] (.int .i64 (sGo most 0 l : Int)) := by
  refine fn_rLong1 rfl ?_
  simp (maxSteps := 4000000) only [go_sem, ↓reduceIte, reduceCtorEq, Nat.reduceEqDiff, Nat.reduceBEq, Nat.reduceAdd, Nat.reduceSub, Nat.reduceMul, Nat.reduceLT, Nat.reduceLeDiff, Nat.reduceBNe, Int.reduceBEq, Int.reduceBNe, Int.reduceLT, Int.reduceLE, Msg.a, Par.a, Nd.a]
  refine run_loop (long1Inv l most (sGo most 0 l)) (k := l.length) ⟨0, 0, by omega, rfl, rfl, rfl, rfl, rfl, by omega, ?_⟩ ?_
  · rfl
  rintro k σ ⟨j, n, hj, rfl, t0, t1, t5, t6, hn2, hr⟩
  simp only [r_rLong1_l6]
  by_cases hlt : j < l.length
  · have hlt' : (j : Int) < (l.length : Int) := by omega
    obtain ⟨x, hx⟩ := get_lt hlt
    rw [drop_at hx, sGo] at hr
    by_cases hm : (n : Int) ≤ most
    · have hgj := at_map (f := AV.str) hx
      have hw := wrapS (j := j) (by omega)
      have s1 := hs x (List.mem_of_getElem? hx)
      have w1 : IntKind.i64.wrap ((x.size : Int) + 1) = (x.size : Int) + 1 := IntWalk.i64_in _ (by omega)
      have w4 : IntKind.i64.wrap ((n : Int) + ((x.size : Int) + 1)) = ((n + strBulk x : Nat) : Int) := by
        rw [IntWalk.i64_in _ (by omega)]; unfold strBulk; omega
      rw [if_pos hm] at hr
      simp (maxSteps := 4000000) only [go_sem, ↓reduceIte, reduceCtorEq, Nat.reduceEqDiff, Nat.reduceBEq, Nat.reduceAdd, Nat.reduceSub, Nat.reduceMul, Nat.reduceLT, Nat.reduceLeDiff, Nat.reduceBNe, Int.reduceBEq, Int.reduceBNe, Int.reduceLT, Int.reduceLE, Msg.a, Par.a, Nd.a, t0, t1, t5, t6, hlt', hm, hgj, List.length_map, Int.toNat_natCast, w1, w4, hw]
      (repeat refine And.intro (by omega) ?_)
      refine ⟨l.length - (j + 1), by omega, j + 1, n + strBulk x, by omega, rfl, ?_, ?_, ?_, ?_, by unfold strBulk; omega, hr⟩ <;> (simp (maxSteps := 4000000) only [go_sem, ↓reduceIte, reduceCtorEq, Nat.reduceEqDiff, Nat.reduceBEq, Nat.reduceAdd, Nat.reduceSub, Nat.reduceMul, Nat.reduceLT, Nat.reduceLeDiff, Nat.reduceBNe, Int.reduceBEq, Int.reduceBNe, Int.reduceLT, Int.reduceLE, Msg.a, Par.a, Nd.a, t0, t1, t5, t6])
    · rw [if_neg hm] at hr
      simp (maxSteps := 4000000) only [go_sem, ↓reduceIte, reduceCtorEq, Nat.reduceEqDiff, Nat.reduceBEq, Nat.reduceAdd, Nat.reduceSub, Nat.reduceMul, Nat.reduceLT, Nat.reduceLeDiff, Nat.reduceBNe, Int.reduceBEq, Int.reduceBNe, Int.reduceLT, Int.reduceLE, Msg.a, Par.a, Nd.a, t0, t1, t5, t6, hlt', hm, List.length_map, ← hr]
  · have hlt' : ¬ (j : Int) < (l.length : Int) := by omega
    rw [List.drop_eq_nil_of_le (by omega), sGo] at hr
    simp (maxSteps := 4000000) only [go_sem, ↓reduceIte, reduceCtorEq, Nat.reduceEqDiff, Nat.reduceBEq, Nat.reduceAdd, Nat.reduceSub, Nat.reduceMul, Nat.reduceLT, Nat.reduceLeDiff, Nat.reduceBNe, Int.reduceBEq, Int.reduceBNe, Int.reduceLT, Int.reduceLE, Msg.a, Par.a, Nd.a, t0, t1, t5, t6, hlt', List.length_map, ← hr]
/-! ### Light -/
def Nd.light (most : Int) (x : Nd) : Bool := decide ((sumN Par.bulk x.rows : Int) ≤ most) && decide ((sumN strBulk x.pivots : Int) ≤ most) && decide ((x.kids.length : Int) ≤ most) && decide ((sumN Msg.bulkN x.msgs : Int) ≤ most) && decide ((x.high.size : Int) ≤ most)
def lightB (l : List Nd) (n most : Int) : Bool := decide ((l.length : Int) ≤ n) && l.all (Nd.light most)
/-! ### percolate/percolateref17.Light -/
def r_light_0 : Reg := ⟨[], [⟨(.mv (.c (.bool false))), (some 6), none, [], []⟩], [], [], false⟩
def t_light_1 : List ROp := [⟨(.mv (.t 0)), (some 8), none, [], []⟩, ⟨(.len false (.t 8)), (some 9), none, [], []⟩, ⟨(.mv (.t 1)), (some 10), none, [], []⟩, ⟨(.bin .gtr (.t 9) (.t 10)), (some 11), none, [], []⟩]
def r_light_1 : Reg := ⟨[], t_light_1, [], [], false⟩
def r_light_2 : Reg := ⟨[], [⟨(.mv (.c (.bool false))), (some 6), none, [], []⟩], [], [], false⟩
def r_light_3 : Reg := ⟨[], [⟨(.mv (.c (.int .i64 0))), (some 7), none, [], []⟩], [], [], false⟩
def t_light_4 : List ROp := [⟨(.mv (.t 7)), (some 12), none, [], []⟩, ⟨(.mv (.t 0)), (some 13), none, [], []⟩, ⟨(.len false (.t 13)), (some 14), none, [], []⟩, ⟨(.bin .lss (.t 12) (.t 14)), (some 15), none, [], []⟩]
def r_light_4 : Reg := ⟨[], t_light_4, [], [], false⟩
def t_light_5 : List ROp := [⟨(.mv (.t 0)), (some 18), none, [24, 33, 54], []⟩, ⟨(.mv (.t 7)), (some 19), none, [24, 33, 54], []⟩, ⟨(.iaddr 10 (.t 18) (.t 19)), (some 20), none, [24, 33, 54], []⟩, ⟨(.faddr 9 (.t 20)), (some 21), none, [24, 33, 54], []⟩, ⟨(.load 1 false (.t 21)), (some 22), none, [24, 33, 54], []⟩, ⟨(.mv (.t 2)), (some 23), none, [24, 33, 54], []⟩, ⟨(.callv (.c (.clo 61 [] [])) [(.t 22), (.t 23)]), (some 24), none, [33, 54], []⟩, ⟨(.un .not (.t 24)), (some 25), none, [33, 54], []⟩, ⟨(.mv (.t 25)), (some 26), none, [33, 54], []⟩, ⟨(.mv (.t 0)), (some 27), (some (26, false)), [33, 54], []⟩, ⟨(.mv (.t 7)), (some 28), (some (26, false)), [33, 54], []⟩, ⟨(.iaddr 10 (.t 27) (.t 28)), (some 29), (some (26, false)), [33, 54], []⟩, ⟨(.faddr 2 (.t 29)), (some 30), (some (26, false)), [33, 54], []⟩, ⟨(.load 1 false (.t 30)), (some 31), (some (26, false)), [33, 54], []⟩, ⟨(.mv (.t 2)), (some 32), (some (26, false)), [33, 54], []⟩, ⟨(.callv (.c (.clo 84 [] [])) [(.t 31), (.t 32)]), (some 33), (some (26, false)), [54], []⟩, ⟨(.mv (.t 2)), (some 34), (some (26, false)), [54], []⟩, ⟨(.bin .gtr (.t 33) (.t 34)), (some 35), (some (26, false)), [54], []⟩, ⟨(.pick (.t 26) (.c (.bool true)) (.t 35)), (some 36), none, [54], []⟩, ⟨(.mv (.t 36)), (some 37), none, [54], []⟩, ⟨(.mv (.t 0)), (some 38), (some (37, false)), [54], []⟩, ⟨(.mv (.t 7)), (some 39), (some (37, false)), [54], []⟩, ⟨(.iaddr 10 (.t 38) (.t 39)), (some 40), (some (37, false)), [54], []⟩, ⟨(.faddr 3 (.t 40)), (some 41), (some (37, false)), [54], []⟩, ⟨(.load 1 false (.t 41)), (some 42), (some (37, false)), [54], []⟩, ⟨(.len false (.t 42)), (some 43), (some (37, false)), [54], []⟩, ⟨(.mv (.t 2)), (some 44), (some (37, false)), [54], []⟩, ⟨(.bin .gtr (.t 43) (.t 44)), (some 45), (some (37, false)), [54], []⟩, ⟨(.pick (.t 37) (.c (.bool true)) (.t 45)), (some 46), none, [54], []⟩, ⟨(.mv (.t 46)), (some 47), none, [54], []⟩, ⟨(.mv (.t 0)), (some 48), (some (47, false)), [54], []⟩, ⟨(.mv (.t 7)), (some 49), (some (47, false)), [54], []⟩, ⟨(.iaddr 10 (.t 48) (.t 49)), (some 50), (some (47, false)), [54], []⟩, ⟨(.faddr 8 (.t 50)), (some 51), (some (47, false)), [54], []⟩, ⟨(.load 1 false (.t 51)), (some 52), (some (47, false)), [54], []⟩, ⟨(.mv (.t 2)), (some 53), (some (47, false)), [54], []⟩, ⟨(.callv (.c (.clo 85 [] [])) [(.t 52), (.t 53)]), (some 54), (some (47, false)), [], []⟩, ⟨(.un .not (.t 54)), (some 55), (some (47, false)), [], []⟩, ⟨(.pick (.t 47) (.c (.bool true)) (.t 55)), (some 56), none, [], []⟩, ⟨(.mv (.t 56)), (some 57), none, [], []⟩, ⟨(.mv (.t 0)), (some 58), (some (57, false)), [], []⟩, ⟨(.mv (.t 7)), (some 59), (some (57, false)), [], []⟩, ⟨(.iaddr 10 (.t 58) (.t 59)), (some 60), (some (57, false)), [], []⟩, ⟨(.faddr 4 (.t 60)), (some 61), (some (57, false)), [], []⟩, ⟨(.load 1 false (.t 61)), (some 62), (some (57, false)), [], []⟩, ⟨(.len true (.t 62)), (some 63), (some (57, false)), [], []⟩, ⟨(.mv (.t 2)), (some 64), (some (57, false)), [], []⟩, ⟨(.bin .gtr (.t 63) (.t 64)), (some 65), (some (57, false)), [], []⟩, ⟨(.pick (.t 57) (.c (.bool true)) (.t 65)), (some 66), none, [], []⟩]
def r_light_5 : Reg := ⟨[], t_light_5, [24, 33, 54], [], false⟩
def r_light_6 : Reg := ⟨[], [⟨(.mv (.c (.bool false))), (some 6), none, [], []⟩], [], [], false⟩
def t_light_7 : List ROp := [⟨(.mv (.t 7)), (some 16), none, [], []⟩, ⟨(.bin .add (.t 16) (.c (.int .i64 1))), (some 17), none, [], []⟩, ⟨(.mv (.t 17)), (some 7), none, [], []⟩]
def r_light_7 : Reg := ⟨[], t_light_7, [], [], false⟩
def r_light_l8 : IR := (.seq (.seq (.reg r_light_4)
  (.cond (.t 15) .skip
  (.exit 0)))
  (.seq (.block 1 (.seq (.reg r_light_5)
  (.cond (.t 66) (.seq (.reg r_light_6)
  .ret)
  .skip)))
  (.reg r_light_7)))
def r_light_9 : Reg := ⟨[], [⟨(.mv (.c (.bool true))), (some 6), none, [], []⟩], [], [], false⟩
def ir_light : IR := (.seq (.reg r_light_0)
  (.seq (.seq (.reg r_light_1)
  (.cond (.t 11) (.seq (.reg r_light_2)
  .ret)
  .skip))
  (.seq (.seq (.reg r_light_3)
  (.block 0 (.loop r_light_l8)))
  (.seq (.reg r_light_9)
  .ret))))
def res_light : List RDesc := [(.tmp 6)]
theorem e_light_0 (C : FuncId → List AV → AV → Prop) (σ : St) (K : St → Prop) : runReg C r_light_0 σ K = runOps C [⟨(.mv (.c (.bool false))), (some 6), none, [], []⟩] (σ.kills []) K := rfl
theorem e_light_1 (C : FuncId → List AV → AV → Prop) (σ : St) (K : St → Prop) : runReg C r_light_1 σ K = runOps C t_light_1 (σ.kills []) K := rfl
theorem e_light_2 (C : FuncId → List AV → AV → Prop) (σ : St) (K : St → Prop) : runReg C r_light_2 σ K = runOps C [⟨(.mv (.c (.bool false))), (some 6), none, [], []⟩] (σ.kills []) K := rfl
theorem e_light_3 (C : FuncId → List AV → AV → Prop) (σ : St) (K : St → Prop) : runReg C r_light_3 σ K = runOps C [⟨(.mv (.c (.int .i64 0))), (some 7), none, [], []⟩] (σ.kills []) K := rfl
theorem e_light_4 (C : FuncId → List AV → AV → Prop) (σ : St) (K : St → Prop) : runReg C r_light_4 σ K = runOps C t_light_4 (σ.kills []) K := rfl
theorem e_light_5 (C : FuncId → List AV → AV → Prop) (σ : St) (K : St → Prop) : runReg C r_light_5 σ K = runOps C t_light_5 (σ.kills [24, 33, 54]) K := rfl
theorem e_light_6 (C : FuncId → List AV → AV → Prop) (σ : St) (K : St → Prop) : runReg C r_light_6 σ K = runOps C [⟨(.mv (.c (.bool false))), (some 6), none, [], []⟩] (σ.kills []) K := rfl
theorem e_light_7 (C : FuncId → List AV → AV → Prop) (σ : St) (K : St → Prop) : runReg C r_light_7 σ K = runOps C t_light_7 (σ.kills []) K := rfl
theorem e_light_9 (C : FuncId → List AV → AV → Prop) (σ : St) (K : St → Prop) : runReg C r_light_9 σ K = runOps C [⟨(.mv (.c (.bool true))), (some 6), none, [], []⟩] (σ.kills []) K := rfl
theorem fn_light {args : List AV} {r : AV} (ha : args.length.ble Try.f49.ntmps = true) (h : run (AFn Try.prog) ir_light (endQ res_light r) (initSt args)) : AFn Try.prog 49 args r :=
  AFn.of_code (pv := false) (hint := fun _ => []) (c := Try.f49.body.getD .skip) (by kernel_rfl) (by kernel_rfl) Try.func49 (by kernel_rfl) (by kernel_rfl) (by kernel_rfl) (of_decide_eq_true (by kernel_rfl)) (Nat.le_of_ble_eq_true ha) (Nat.le_of_ble_eq_true (by kernel_rfl)) (run_ok h)
attribute [local go_sem ↓] ir_light
attribute [local go_sem] res_light e_light_0 e_light_1 t_light_1 e_light_2 e_light_3 e_light_4 t_light_4 e_light_5 t_light_5 e_light_6 e_light_7 t_light_7 e_light_9
def lightInv (l : List Nd) (n most : Int) (r : Bool) (k : Nat) (σ : St) : Prop :=
  ∃ j : Nat, j ≤ l.length ∧ k = l.length - j ∧ σ.T 0 = .sl (l.map Nd.a) ∧ σ.T 2 = .int .i64 most ∧ σ.T 7 = .int .i64 j ∧ (l.drop j).all (Nd.light most) = r
theorem light_ok (l : List Nd) (n most : Int) (h1 : 0 ≤ most) (h2 : most ≤ 1000000) (hs : ∀ x, x ∈ l → x.ok) (hl : l.length ≤ 281474976710656) :
    AFn Try.prog 49 [.sl (l.map Nd.a), .int .i64 n, .int .i64 most] (.bool (lightB l n most)) := by
  refine fn_light rfl ?_
  unfold lightB
  by_cases hn : (l.length : Int) ≤ n
  case neg =>
    have hn' : n < (l.length : Int) := by omega
    rw [decide_eq_false hn]
    simp (maxSteps := 4000000) only [go_sem, ↓reduceIte, reduceCtorEq, Nat.reduceEqDiff, Nat.reduceBEq, Nat.reduceAdd, Nat.reduceSub, Nat.reduceMul, Nat.reduceLT, Nat.reduceLeDiff, Nat.reduceBNe, Int.reduceBEq, Int.reduceBNe, Int.reduceLT, Int.reduceLE, Msg.a, Par.a, Nd.a, hn', List.length_map, Bool.false_and]
  have hn' : ¬ n < (l.length : Int) := by omega
  rw [decide_eq_true hn]
  obtain ⟨R, hR⟩ : ∃ R, l.all (Nd.light most) = R := ⟨_, rfl⟩
  rw [hR]
  simp (maxSteps := 4000000) only [go_sem, ↓reduceIte, reduceCtorEq, Nat.reduceEqDiff, Nat.reduceBEq, Nat.reduceAdd, Nat.reduceSub, Nat.reduceMul, Nat.reduceLT, Nat.reduceLeDiff, Nat.reduceBNe, Int.reduceBEq, Int.reduceBNe, Int.reduceLT, Int.reduceLE, Msg.a, Par.a, Nd.a, hn', List.length_map, Bool.true_and]
  refine run_loop (lightInv l n most R) (k := l.length) ⟨0, by omega, rfl, rfl, rfl, rfl, hR⟩ ?_
  clear hR
  rintro k σ ⟨j, hj, rfl, t0, t2, t7, hr⟩
  simp only [r_light_l8]
  by_cases hlt : j < l.length
  · have hlt' : (j : Int) < (l.length : Int) := by omega
    obtain ⟨x, hx⟩ := get_lt hlt
    have hgj := at_map (f := Nd.a) hx
    simp only [Nd.a] at hgj
    have hw := wrapS (j := j) (by omega)
    have ok := hs x (List.mem_of_getElem? hx)
    have c1 := rLong9_ok x.rows most h1 h2 (fun m hm => ⟨(ok.rows.2 m hm).key, (ok.rows.2 m hm).val⟩) ok.rows.1
    have c2 := rLong1_ok x.pivots most h1 h2 ok.pivots.2 ok.pivots.1
    have c3 := rFewN_ok x.msgs most h1 h2 (fun m hm => ⟨(ok.msgs.2 m hm).key, (ok.msgs.2 m hm).hi, (ok.msgs.2 m hm).val⟩) ok.msgs.1
    have e2 := sGo_iff most x.pivots 0
    rw [drop_at hx, List.all_cons] at hr
    unfold Nd.light at hr
    rw [Nat.zero_add] at e2
    have z0 : IntKind.i64.wrap (j : Int) = (j : Int) := IntWalk.i64_in _ (by omega)
    cases q1 : decide ((sumN Par.bulk x.rows : Int) ≤ most) with
    | false =>
      rw [q1] at c1 hr
      simp only [Bool.false_and] at hr
      (repeat (first | simp (maxSteps := 4000000) only [go_sem, ↓reduceIte, reduceCtorEq, Nat.reduceEqDiff, Nat.reduceBEq, Nat.reduceAdd, Nat.reduceSub, Nat.reduceMul, Nat.reduceLT, Nat.reduceLeDiff, Nat.reduceBNe, Int.reduceBEq, Int.reduceBNe, Int.reduceLT, Int.reduceLE, Msg.a, Par.a, Nd.a, t0, t2, t7, hlt', hgj, List.length_map, Int.toNat_natCast, ← hr] | refine calling (c1) ?_ | refine callingH (c1) ?_ | refine And.intro (by omega) ?_ | refine And.intro (fun d hd => by (repeat (rcases hd with rfl | hd; · exact ⟨rfl, rfl⟩)); cases hd) ?_))
    | true =>
      rw [q1] at c1 hr
      cases q2 : decide ((sumN strBulk x.pivots : Int) ≤ most) with
      | false =>
        rw [q2] at e2 hr
        have e3 := of_decide_eq_true e2
        simp only [Bool.false_and, Bool.and_false] at hr
        (repeat (first | simp (maxSteps := 4000000) only [go_sem, ↓reduceIte, reduceCtorEq, Nat.reduceEqDiff, Nat.reduceBEq, Nat.reduceAdd, Nat.reduceSub, Nat.reduceMul, Nat.reduceLT, Nat.reduceLeDiff, Nat.reduceBNe, Int.reduceBEq, Int.reduceBNe, Int.reduceLT, Int.reduceLE, Msg.a, Par.a, Nd.a, t0, t2, t7, hlt', hgj, List.length_map, Int.toNat_natCast, e3, ← hr] | refine calling (c1) ?_ | refine callingH (c1) ?_ | refine calling (c2) ?_ | refine callingH (c2) ?_ | refine And.intro (by omega) ?_ | refine And.intro (fun d hd => by (repeat (rcases hd with rfl | hd; · exact ⟨rfl, rfl⟩)); cases hd) ?_))
      | true =>
        rw [q2] at e2 hr
        have e3 := of_decide_eq_false e2
        by_cases q3 : (x.kids.length : Int) ≤ most
        case neg =>
          rw [decide_eq_false q3] at hr
          have q3' : most < (x.kids.length : Int) := by omega
          simp only [Bool.false_and, Bool.and_false] at hr
          (repeat (first | simp (maxSteps := 4000000) only [go_sem, ↓reduceIte, reduceCtorEq, Nat.reduceEqDiff, Nat.reduceBEq, Nat.reduceAdd, Nat.reduceSub, Nat.reduceMul, Nat.reduceLT, Nat.reduceLeDiff, Nat.reduceBNe, Int.reduceBEq, Int.reduceBNe, Int.reduceLT, Int.reduceLE, Msg.a, Par.a, Nd.a, t0, t2, t7, hlt', hgj, List.length_map, Int.toNat_natCast, e3, q3', ← hr] | refine calling (c1) ?_ | refine callingH (c1) ?_ | refine calling (c2) ?_ | refine callingH (c2) ?_ | refine And.intro (by omega) ?_ | refine And.intro (fun d hd => by (repeat (rcases hd with rfl | hd; · exact ⟨rfl, rfl⟩)); cases hd) ?_))
          all_goals omega
        rw [decide_eq_true q3] at hr
        have q3' : ¬ most < (x.kids.length : Int) := by omega
        cases q4 : decide ((sumN Msg.bulkN x.msgs : Int) ≤ most) with
        | false =>
          rw [q4] at c3 hr
          simp only [Bool.false_and, Bool.and_false] at hr
          (repeat (first | simp (maxSteps := 4000000) only [go_sem, ↓reduceIte, reduceCtorEq, Nat.reduceEqDiff, Nat.reduceBEq, Nat.reduceAdd, Nat.reduceSub, Nat.reduceMul, Nat.reduceLT, Nat.reduceLeDiff, Nat.reduceBNe, Int.reduceBEq, Int.reduceBNe, Int.reduceLT, Int.reduceLE, Msg.a, Par.a, Nd.a, t0, t2, t7, hlt', hgj, List.length_map, Int.toNat_natCast, e3, q3', ← hr] | refine calling (c1) ?_ | refine callingH (c1) ?_ | refine calling (c2) ?_ | refine callingH (c2) ?_ | refine calling (c3) ?_ | refine callingH (c3) ?_ | refine And.intro (by omega) ?_ | refine And.intro (fun d hd => by (repeat (rcases hd with rfl | hd; · exact ⟨rfl, rfl⟩)); cases hd) ?_))
        | true =>
          rw [q4] at c3 hr
          by_cases q5 : (x.high.size : Int) ≤ most
          case neg =>
            rw [decide_eq_false q5] at hr
            have q5' : most < (x.high.size : Int) := by omega
            simp only [Bool.false_and, Bool.and_false] at hr
            (repeat (first | simp (maxSteps := 4000000) only [go_sem, ↓reduceIte, reduceCtorEq, Nat.reduceEqDiff, Nat.reduceBEq, Nat.reduceAdd, Nat.reduceSub, Nat.reduceMul, Nat.reduceLT, Nat.reduceLeDiff, Nat.reduceBNe, Int.reduceBEq, Int.reduceBNe, Int.reduceLT, Int.reduceLE, Msg.a, Par.a, Nd.a, t0, t2, t7, hlt', hgj, List.length_map, Int.toNat_natCast, e3, q3', q5', ← hr] | refine calling (c1) ?_ | refine callingH (c1) ?_ | refine calling (c2) ?_ | refine callingH (c2) ?_ | refine calling (c3) ?_ | refine callingH (c3) ?_ | refine And.intro (by omega) ?_ | refine And.intro (fun d hd => by (repeat (rcases hd with rfl | hd; · exact ⟨rfl, rfl⟩)); cases hd) ?_))
            all_goals omega
          rw [decide_eq_true q5] at hr
          have q5' : ¬ most < (x.high.size : Int) := by omega
          simp only [Bool.true_and, Bool.and_true] at hr
          (repeat (first | simp (maxSteps := 4000000) only [go_sem, ↓reduceIte, reduceCtorEq, Nat.reduceEqDiff, Nat.reduceBEq, Nat.reduceAdd, Nat.reduceSub, Nat.reduceMul, Nat.reduceLT, Nat.reduceLeDiff, Nat.reduceBNe, Int.reduceBEq, Int.reduceBNe, Int.reduceLT, Int.reduceLE, Msg.a, Par.a, Nd.a, t0, t2, t7, hlt', hgj, List.length_map, Int.toNat_natCast, e3, q3', q5', hw] | refine calling (c1) ?_ | refine callingH (c1) ?_ | refine calling (c2) ?_ | refine callingH (c2) ?_ | refine calling (c3) ?_ | refine callingH (c3) ?_ | refine And.intro (by omega) ?_ | refine And.intro (fun d hd => by (repeat (rcases hd with rfl | hd; · exact ⟨rfl, rfl⟩)); cases hd) ?_))
          refine ⟨l.length - (j + 1), by omega, j + 1, by omega, rfl, ?_, ?_, ?_, hr⟩ <;> (simp (maxSteps := 4000000) only [go_sem, ↓reduceIte, reduceCtorEq, Nat.reduceEqDiff, Nat.reduceBEq, Nat.reduceAdd, Nat.reduceSub, Nat.reduceMul, Nat.reduceLT, Nat.reduceLeDiff, Nat.reduceBNe, Int.reduceBEq, Int.reduceBNe, Int.reduceLT, Int.reduceLE, Msg.a, Par.a, Nd.a, t0, t2, t7, hw])
  · have hlt' : ¬ (j : Int) < (l.length : Int) := by omega
    rw [List.drop_eq_nil_of_le (by omega)] at hr
    simp (maxSteps := 4000000) only [go_sem, ↓reduceIte, reduceCtorEq, Nat.reduceEqDiff, Nat.reduceBEq, Nat.reduceAdd, Nat.reduceSub, Nat.reduceMul, Nat.reduceLT, Nat.reduceLeDiff, Nat.reduceBNe, Int.reduceBEq, Int.reduceBNe, Int.reduceLT, Int.reduceLE, Msg.a, Par.a, Nd.a, t0, t2, t7, hlt', List.length_map, ← hr, List.all_nil]
end
end Go.Proofs.Ythfdbjocpicbmaa
