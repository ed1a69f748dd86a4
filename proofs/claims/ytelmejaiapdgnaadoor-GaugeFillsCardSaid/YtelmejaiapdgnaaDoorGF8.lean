/-
  Part 8 of a proof: SqF, NdA.
-/
import Derived.IntWalk
import Derived.Test.YtelmejaiapdgnaaDoorGF7
namespace Go.Proofs.YtelmejaiapdgnaaDoor
attribute [local go_sem] ev0 ev1 ev2 ev3 ev4 evA stHOk.eq_1 stHOk.eq_2 stHSt.eq_1 stHSt.eq_2 okV valV fzV okF valF okBld valBld mxOk.eq_1 mxOk.eq_2 mxVal.eq_1 mxVal.eq_2 cellFit.eq_1 cellFit.eq_2 cellFit.eq_3 cellEq.eq_1 cellEq.eq_2 cellEq.eq_3 upd_at AV.flatB AV.flatBs binIok binIV binSok binSV cellsOk.eq_1 cellsOk.eq_2 cellsVal.eq_1 cellsVal.eq_2 objCells.eq_1 objCells.eq_2 objZ.eq_1 objZ.eq_2 objProt.eq_1 objProt.eq_2 oneObj ptrOk.eq_1 ptrOk.eq_2 ptrOk.eq_3 ptrCells.eq_1 ptrCells.eq_2 ptrCells.eq_3 lenOk.eq_1 lenOk.eq_2 lenOk.eq_3 lenOk.eq_4 lenVal.eq_1 lenVal.eq_2 lenVal.eq_3 lenVal.eq_4 faOk.eq_1 faOk.eq_2 faOk.eq_3 faVal.eq_1 faVal.eq_2 faVal.eq_3 iaOk.eq_1 iaOk.eq_2 iaOk.eq_3 iaVal.eq_1 iaVal.eq_2 iaVal.eq_3 slcLen.eq_1 slcLen.eq_2 slcLen.eq_3 slcLen.eq_4 bdOk.eq_1 bdOk.eq_2 bdVal.eq_1 bdVal.eq_2 slcOk.eq_1 slcOk.eq_2 slcOk.eq_3 slcOk.eq_4 slcVal.eq_1 slcVal.eq_2 slcVal.eq_3 slcVal.eq_4 slcFz.eq_1 slcFz.eq_2 loK.eq_1 loK.eq_2 loK.eq_3 rsVal.eq_1 rsVal.eq_2 rsVal.eq_3 byOk.eq_1 byOk.eq_2 byOk.eq_3 byOk.eq_4 byOk.eq_5 byOk.eq_6 byOk.eq_7 byOk.eq_8 byVal.eq_1 byVal.eq_2 byVal.eq_3 byFz.eq_1 byFz.eq_2 byFz.eq_3 byOks byVals byFzs allOne resSt.eq_1 resSt.eq_2 resName.eq_1 resName.eq_2 stOk.eq_1 stOk.eq_2 stArr.eq_1 stArr.eq_2 stSt.eq_1 stSt.eq_2 AV.patch nameOk_none gB.eq_1 gB.eq_2 gB.eq_3 gIs.eq_1 gIs.eq_2 gIs.eq_3 retV resV resVs evalV cellsV St.byval List.getD_cons_zero List.getD_cons_succ List.getD_nil List.map_cons List.map_nil List.length_cons List.length_nil List.take_succ_cons List.take_zero List.drop_succ_cons List.drop_zero List.headD_cons List.set_cons_zero List.append_nil List.nil_append List.cons_append List.contains_cons List.contains_nil List.elem_cons List.elem_nil List.all_cons List.all_nil List.getElem?_cons_zero List.getElem?_cons_succ List.filterMap_cons List.filterMap_nil Option.isSome_some Option.isSome_none Option.map_some Option.map_none Option.some.injEq AV.int.injEq AV.bool.injEq AV.str.injEq AV.tup.injEq AV.agg.injEq AV.sl.injEq List.cons.injEq Bool.false_eq_true Bool.true_eq_false Bool.not_true Bool.not_false Bool.and_true Bool.true_and Bool.or_false Bool.or_true Bool.false_or Bool.true_or Bool.or_self Bool.and_self Bool.not_eq_true' Bool.not_eq_false' Bool.not_not beq_self_eq_true true_and and_true false_and and_false and_self not_true_eq_false not_false_eq_true forall_const true_implies false_implies implies_true imp_self Nat.lt_add_one Nat.le_refl Nat.zero_le Nat.add_zero Nat.zero_add decide_true decide_false decide_eq_true_eq decide_eq_false_iff_not exists_eq_left exists_eq_left' ge_iff_le gt_iff_lt ite_branch ite_branch' nilOk.eq_1 nilOk.eq_2 nilMay.eq_1 nilMay.eq_2 AV.isSl.eq_1 objTy'.eq_1 objTy'.eq_2 apSt.eq_1 apArr.eq_1 apArr.eq_2 apTwo.eq_1 apTwo.eq_2 apSt2.eq_1 apArr2.eq_1 apArr2.eq_2 slOf.eq_1 fitsV List.mem_cons List.not_mem_nil Bool.false_and Bool.and_false primOk.eq_1 primOk.eq_2 primOk.eq_3 primOk.eq_4 primOk.eq_5 primVal.eq_1 primVal.eq_2 primVal.eq_3 primVal.eq_4 primVal.eq_5 mOk.eq_1 mOk.eq_2 mVal.eq_1 mVal.eq_2 mFz.eq_1 mFz.eq_2 mOks mVals mFzs mCalOk.eq_1 mCalOk.eq_2 mFn.eq_1 mFn.eq_2 mArgs.eq_1 mArgs.eq_2 ckOk.eq_1 ckOk.eq_2 cloOk.eq_1 ptrAt.eq_1 sh.eq_1 sh.eq_2 sh.eq_3 sh.eq_4 sh.eq_5 sh.eq_6 retM shH_small evM entOk.eq_1 entOk.eq_2 ents.eq_1 ents.eq_2 kI.eq_1 mpOk.eq_1 mpR.eq_1 lkV.eq_1 lkV.eq_2 remp.eq_2 evP pvOk.eq_1 pvOk.eq_2 pvVal.eq_1 pvVal.eq_2 plOk.eq_1 plOk.eq_2 plOk.eq_3 plV.eq_1 plV.eq_2 plF.eq_1 plF.eq_2 plVal.eq_1 plVal.eq_2 plFz.eq_1 plFz.eq_2 lpOk.eq_1 lpOk.eq_2 lpVal.eq_1 lpVal.eq_2 lpFz.eq_1 lpFz.eq_2 stpOk.eq_1 stpOk.eq_2 stpSt.eq_1 stpSt.eq_2 stpArr.eq_1 keepS.eq_1 keepS.eq_2
section
/-
  The document's messages on the plain machine: may they be, are they few.
-/
open Go.RowKit
set_option linter.unusedVariables false
set_option linter.unusedSimpArgs false
set_option maxRecDepth 100000
attribute [local go_sem ↓] runOp headOp
abbrev nilS (s : ByteArray) : Bool := s.toList == (ByteArray.mk #[]).toList
def Msg.right (m : Msg) : Bool := decide (1 ≤ m.stamp) && decide (m.key.size ≤ 16) && decide (m.val.size ≤ 16) && decide (m.hi.size ≤ 16) &&
  (if m.kind = 4 then nilS m.val && (!m.op || nilS m.hi) && !m.span.empty
   else nilS m.hi && !m.op && ((m.kind == 1) || (m.kind == 2) || ((m.kind == 3) && nilS m.val)))
/-! ### Few, All -/
def Msg.bulk (m : Msg) : Nat := 1 + m.key.size + m.hi.size + m.val.size
/-! ### percolate/percolateref05.Few -/
def AllProp : List Msg → Bool
  | [] => true
  | m :: l => m.right && (match l with | [] => true | x :: _ => decide (m.stamp < x.stamp)) && AllProp l
end
section
/-
  The data of the trees: messages, pairs, nodes, latches; and that what came in of their types is such.
-/
open Go.RowKit
set_option linter.unusedVariables false
set_option linter.unusedSimpArgs false
set_option maxRecDepth 100000
theorem st_cons {T : Ty} {fs : List Ty} {ds : List AV} (h : TypedC (.st (T :: fs)) ds) : ∃ c r, ds = c ++ r ∧ TypedC T c ∧ TypedC (.st fs) r := by
  cases h with
  | cons h1 h2 => exact ⟨_, _, rfl, h1, h2⟩
theorem st_nil {ds : List AV} (h : TypedC (.st []) ds) : ds = [] := by cases h; rfl
theorem int_inv {ds : List AV} (h : TypedC (.int .i64) ds) : ∃ n, ds = [.int .i64 n] ∧ -9223372036854775808 ≤ n ∧ n ≤ 9223372036854775807 := by
  cases h with
  | int k n h => exact ⟨n, rfl, bounds_i64 h⟩
theorem str_inv {ds : List AV} (h : TypedC .str ds) : ∃ s, ds = [.str s] ∧ s.size ≤ 281474976710656 := by
  cases h with
  | str s h => exact ⟨s, rfl, h⟩
theorem bool_inv {ds : List AV} (h : TypedC .bool ds) : ∃ b, ds = [.bool b] := by
  cases h with
  | bool b => exact ⟨b, rfl⟩
theorem sl_of {α : Type} (f : α → AV) (ok : α → Prop) {T : Ty} {ds : List AV} (h : TypedC (.sl T) ds) (hel : ∀ c, TypedC T c → ∃ a, packT T c = f a ∧ ok a) : ∃ l : List α, ds = [.sl (l.map f)] ∧ l.length ≤ 281474976710656 ∧ ∀ a, a ∈ l → ok a := by
  cases h with
  | sl T ls hlen h =>
    have : ∃ l : List α, ls.map (packT T) = l.map f ∧ l.length = ls.length ∧ ∀ a, a ∈ l → ok a := by
      clear hlen
      induction ls with
      | nil => exact ⟨[], rfl, rfl, fun a ha => by cases ha⟩
      | cons c ls ih =>
        obtain ⟨l, h1, h2, h3⟩ := ih fun x hx => h x (List.mem_cons_of_mem _ hx)
        obtain ⟨a, ha, hok⟩ := hel c (h c (List.mem_cons_self ..))
        refine ⟨a :: l, by rw [List.map_cons, List.map_cons, h1, ha], by rw [List.length_cons, List.length_cons, h2], fun b hb => ?_⟩
        rcases List.mem_cons.1 hb with rfl | hb
        · exact hok
        · exact h3 b hb
    obtain ⟨l, h1, h2, h3⟩ := this
    exact ⟨l, by rw [h1], by omega, h3⟩
structure Msg.ok (x : Msg) : Prop where
  stamp : (-9223372036854775808 ≤ x.stamp ∧ x.stamp ≤ 9223372036854775807)
  kind : (-9223372036854775808 ≤ x.kind ∧ x.kind ≤ 9223372036854775807)
  key : x.key.size ≤ 281474976710656
  hi : x.hi.size ≤ 281474976710656
  op : True
  val : x.val.size ≤ 281474976710656
def MsgT : Ty := .st [.int .i64, .int .i64, .str, .str, .bool, .str]
theorem Msg.of {c : List AV} (h : TypedC MsgT c) : ∃ x : Msg, AV.agg c = x.a ∧ x.ok := by
  obtain ⟨c0, r0, rfl, h0, h⟩ := st_cons h
  obtain ⟨c1, r1, rfl, h1, h⟩ := st_cons h
  obtain ⟨c2, r2, rfl, h2, h⟩ := st_cons h
  obtain ⟨c3, r3, rfl, h3, h⟩ := st_cons h
  obtain ⟨c4, r4, rfl, h4, h⟩ := st_cons h
  obtain ⟨c5, r5, rfl, h5, h⟩ := st_cons h
  obtain rfl := st_nil h
  obtain ⟨v0, rfl, b0⟩ := int_inv h0
  obtain ⟨v1, rfl, b1⟩ := int_inv h1
  obtain ⟨v2, rfl, b2⟩ := str_inv h2
  obtain ⟨v3, rfl, b3⟩ := str_inv h3
  obtain ⟨v4, rfl⟩ := bool_inv h4
  have b4 := True.intro
  obtain ⟨v5, rfl, b5⟩ := str_inv h5
  exact ⟨⟨v0, v1, v2, v3, v4, v5⟩, rfl, ⟨b0, b1, b2, b3, b4, b5⟩⟩
structure Par where
  key : ByteArray
  val : ByteArray
def Par.a (x : Par) : AV := .agg [.str x.key, .str x.val]
structure Par.ok (x : Par) : Prop where
  key : x.key.size ≤ 281474976710656
  val : x.val.size ≤ 281474976710656
def ParT : Ty := .st [.str, .str]
theorem Par.of {c : List AV} (h : TypedC ParT c) : ∃ x : Par, AV.agg c = x.a ∧ x.ok := by
  obtain ⟨c0, r0, rfl, h0, h⟩ := st_cons h
  obtain ⟨c1, r1, rfl, h1, h⟩ := st_cons h
  obtain rfl := st_nil h
  obtain ⟨v0, rfl, b0⟩ := str_inv h0
  obtain ⟨v1, rfl, b1⟩ := str_inv h1
  exact ⟨⟨v0, v1⟩, rfl, ⟨b0, b1⟩⟩
structure Nd where
  slot : Int
  level : Int
  pivots : List ByteArray
  kids : List Int
  high : ByteArray
  top : Bool
  right : Int
  seen : Int
  msgs : List Msg
  rows : List Par
def Nd.a (x : Nd) : AV := .agg [.int .i64 x.slot, .int .i64 x.level, .sl (x.pivots.map AV.str), .sl (x.kids.map (AV.int .i64)), .str x.high, .bool x.top, .int .i64 x.right, .int .i64 x.seen, .sl (x.msgs.map Msg.a), .sl (x.rows.map Par.a)]
structure Nd.ok (x : Nd) : Prop where
  slot : (-9223372036854775808 ≤ x.slot ∧ x.slot ≤ 9223372036854775807)
  level : (-9223372036854775808 ≤ x.level ∧ x.level ≤ 9223372036854775807)
  pivots : (x.pivots.length ≤ 281474976710656 ∧ ∀ z, z ∈ x.pivots → z.size ≤ 281474976710656)
  kids : (x.kids.length ≤ 281474976710656 ∧ ∀ z, z ∈ x.kids → (-9223372036854775808 ≤ z ∧ z ≤ 9223372036854775807))
  high : x.high.size ≤ 281474976710656
  top : True
  right : (-9223372036854775808 ≤ x.right ∧ x.right ≤ 9223372036854775807)
  seen : (-9223372036854775808 ≤ x.seen ∧ x.seen ≤ 9223372036854775807)
  msgs : (x.msgs.length ≤ 281474976710656 ∧ ∀ z, z ∈ x.msgs → z.ok)
  rows : (x.rows.length ≤ 281474976710656 ∧ ∀ z, z ∈ x.rows → z.ok)
def NdT : Ty := .st [.int .i64, .int .i64, .sl (.str), .sl (.int .i64), .str, .bool, .int .i64, .int .i64, .sl MsgT, .sl ParT]
theorem Nd.of {c : List AV} (h : TypedC NdT c) : ∃ x : Nd, AV.agg c = x.a ∧ x.ok := by
  obtain ⟨c0, r0, rfl, h0, h⟩ := st_cons h
  obtain ⟨c1, r1, rfl, h1, h⟩ := st_cons h
  obtain ⟨c2, r2, rfl, h2, h⟩ := st_cons h
  obtain ⟨c3, r3, rfl, h3, h⟩ := st_cons h
  obtain ⟨c4, r4, rfl, h4, h⟩ := st_cons h
  obtain ⟨c5, r5, rfl, h5, h⟩ := st_cons h
  obtain ⟨c6, r6, rfl, h6, h⟩ := st_cons h
  obtain ⟨c7, r7, rfl, h7, h⟩ := st_cons h
  obtain ⟨c8, r8, rfl, h8, h⟩ := st_cons h
  obtain ⟨c9, r9, rfl, h9, h⟩ := st_cons h
  obtain rfl := st_nil h
  obtain ⟨v0, rfl, b0⟩ := int_inv h0
  obtain ⟨v1, rfl, b1⟩ := int_inv h1
  obtain ⟨v2, rfl, b2⟩ := sl_of AV.str (fun z : ByteArray => z.size ≤ 281474976710656) h2 (fun c hc => by obtain ⟨v, rfl, b⟩ := str_inv hc; exact ⟨v, rfl, b⟩)
  obtain ⟨v3, rfl, b3⟩ := sl_of (AV.int .i64) (fun z : Int => -9223372036854775808 ≤ z ∧ z ≤ 9223372036854775807) h3 (fun c hc => by obtain ⟨v, rfl, b⟩ := int_inv hc; exact ⟨v, rfl, b⟩)
  obtain ⟨v4, rfl, b4⟩ := str_inv h4
  obtain ⟨v5, rfl⟩ := bool_inv h5
  have b5 := True.intro
  obtain ⟨v6, rfl, b6⟩ := int_inv h6
  obtain ⟨v7, rfl, b7⟩ := int_inv h7
  obtain ⟨v8, rfl, b8⟩ := sl_of Msg.a Msg.ok h8 (fun c hc => Msg.of hc)
  obtain ⟨v9, rfl, b9⟩ := sl_of Par.a Par.ok h9 (fun c hc => Par.of hc)
  exact ⟨⟨v0, v1, v2, v3, v4, v5, v6, v7, v8, v9⟩, rfl, ⟨b0, b1, b2, b3, b4, b5, b6, b7, b8, b9⟩⟩
structure Hld where
  thread : Int
  slot : Int
  wr : Bool
def Hld.a (x : Hld) : AV := .agg [.int .i64 x.thread, .int .i64 x.slot, .bool x.wr]
structure Hld.ok (x : Hld) : Prop where
  thread : (-9223372036854775808 ≤ x.thread ∧ x.thread ≤ 9223372036854775807)
  slot : (-9223372036854775808 ≤ x.slot ∧ x.slot ≤ 9223372036854775807)
  wr : True
def HldT : Ty := .st [.int .i64, .int .i64, .bool]
theorem Hld.of {c : List AV} (h : TypedC HldT c) : ∃ x : Hld, AV.agg c = x.a ∧ x.ok := by
  obtain ⟨c0, r0, rfl, h0, h⟩ := st_cons h
  obtain ⟨c1, r1, rfl, h1, h⟩ := st_cons h
  obtain ⟨c2, r2, rfl, h2, h⟩ := st_cons h
  obtain rfl := st_nil h
  obtain ⟨v0, rfl, b0⟩ := int_inv h0
  obtain ⟨v1, rfl, b1⟩ := int_inv h1
  obtain ⟨v2, rfl⟩ := bool_inv h2
  have b2 := True.intro
  exact ⟨⟨v0, v1, v2⟩, rfl, ⟨b0, b1, b2⟩⟩
structure Cfg where
  fanout : Int
  leaf : Int
  budget : Int
  slots : Int
  restarts : Int
def Cfg.a (x : Cfg) : AV := .agg [.int .i64 x.fanout, .int .i64 x.leaf, .int .i64 x.budget, .int .i64 x.slots, .int .i64 x.restarts]
structure Cfg.ok (x : Cfg) : Prop where
  fanout : (-9223372036854775808 ≤ x.fanout ∧ x.fanout ≤ 9223372036854775807)
  leaf : (-9223372036854775808 ≤ x.leaf ∧ x.leaf ≤ 9223372036854775807)
  budget : (-9223372036854775808 ≤ x.budget ∧ x.budget ≤ 9223372036854775807)
  slots : (-9223372036854775808 ≤ x.slots ∧ x.slots ≤ 9223372036854775807)
  restarts : (-9223372036854775808 ≤ x.restarts ∧ x.restarts ≤ 9223372036854775807)
def CfgT : Ty := .st [.int .i64, .int .i64, .int .i64, .int .i64, .int .i64]
theorem Cfg.of {c : List AV} (h : TypedC CfgT c) : ∃ x : Cfg, AV.agg c = x.a ∧ x.ok := by
  obtain ⟨c0, r0, rfl, h0, h⟩ := st_cons h
  obtain ⟨c1, r1, rfl, h1, h⟩ := st_cons h
  obtain ⟨c2, r2, rfl, h2, h⟩ := st_cons h
  obtain ⟨c3, r3, rfl, h3, h⟩ := st_cons h
  obtain ⟨c4, r4, rfl, h4, h⟩ := st_cons h
  obtain rfl := st_nil h
  obtain ⟨v0, rfl, b0⟩ := int_inv h0
  obtain ⟨v1, rfl, b1⟩ := int_inv h1
  obtain ⟨v2, rfl, b2⟩ := int_inv h2
  obtain ⟨v3, rfl, b3⟩ := int_inv h3
  obtain ⟨v4, rfl, b4⟩ := int_inv h4
  exact ⟨⟨v0, v1, v2, v3, v4⟩, rfl, ⟨b0, b1, b2, b3, b4⟩⟩
structure Gau where
  nodes : Int
  leaves : Int
  height : Int
  rows : Int
  msgs : Int
  bytes : Int
  empty : Int
  levels : List Int
  waits : List Int
def Gau.a (x : Gau) : AV := .agg [.int .i64 x.nodes, .int .i64 x.leaves, .int .i64 x.height, .int .i64 x.rows, .int .i64 x.msgs, .int .i64 x.bytes, .int .i64 x.empty, .sl (x.levels.map (AV.int .i64)), .sl (x.waits.map (AV.int .i64))]
structure Gau.ok (x : Gau) : Prop where
  nodes : (-9223372036854775808 ≤ x.nodes ∧ x.nodes ≤ 9223372036854775807)
  leaves : (-9223372036854775808 ≤ x.leaves ∧ x.leaves ≤ 9223372036854775807)
  height : (-9223372036854775808 ≤ x.height ∧ x.height ≤ 9223372036854775807)
  rows : (-9223372036854775808 ≤ x.rows ∧ x.rows ≤ 9223372036854775807)
  msgs : (-9223372036854775808 ≤ x.msgs ∧ x.msgs ≤ 9223372036854775807)
  bytes : (-9223372036854775808 ≤ x.bytes ∧ x.bytes ≤ 9223372036854775807)
  empty : (-9223372036854775808 ≤ x.empty ∧ x.empty ≤ 9223372036854775807)
  levels : (x.levels.length ≤ 281474976710656 ∧ ∀ z, z ∈ x.levels → (-9223372036854775808 ≤ z ∧ z ≤ 9223372036854775807))
  waits : (x.waits.length ≤ 281474976710656 ∧ ∀ z, z ∈ x.waits → (-9223372036854775808 ≤ z ∧ z ≤ 9223372036854775807))
def GauT : Ty := .st [.int .i64, .int .i64, .int .i64, .int .i64, .int .i64, .int .i64, .int .i64, .sl (.int .i64), .sl (.int .i64)]
theorem Gau.of {c : List AV} (h : TypedC GauT c) : ∃ x : Gau, AV.agg c = x.a ∧ x.ok := by
  obtain ⟨c0, r0, rfl, h0, h⟩ := st_cons h
  obtain ⟨c1, r1, rfl, h1, h⟩ := st_cons h
  obtain ⟨c2, r2, rfl, h2, h⟩ := st_cons h
  obtain ⟨c3, r3, rfl, h3, h⟩ := st_cons h
  obtain ⟨c4, r4, rfl, h4, h⟩ := st_cons h
  obtain ⟨c5, r5, rfl, h5, h⟩ := st_cons h
  obtain ⟨c6, r6, rfl, h6, h⟩ := st_cons h
  obtain ⟨c7, r7, rfl, h7, h⟩ := st_cons h
  obtain ⟨c8, r8, rfl, h8, h⟩ := st_cons h
  obtain rfl := st_nil h
  obtain ⟨v0, rfl, b0⟩ := int_inv h0
  obtain ⟨v1, rfl, b1⟩ := int_inv h1
  obtain ⟨v2, rfl, b2⟩ := int_inv h2
  obtain ⟨v3, rfl, b3⟩ := int_inv h3
  obtain ⟨v4, rfl, b4⟩ := int_inv h4
  obtain ⟨v5, rfl, b5⟩ := int_inv h5
  obtain ⟨v6, rfl, b6⟩ := int_inv h6
  obtain ⟨v7, rfl, b7⟩ := sl_of (AV.int .i64) (fun z : Int => -9223372036854775808 ≤ z ∧ z ≤ 9223372036854775807) h7 (fun c hc => by obtain ⟨v, rfl, b⟩ := int_inv hc; exact ⟨v, rfl, b⟩)
  obtain ⟨v8, rfl, b8⟩ := sl_of (AV.int .i64) (fun z : Int => -9223372036854775808 ≤ z ∧ z ≤ 9223372036854775807) h8 (fun c hc => by obtain ⟨v, rfl, b⟩ := int_inv hc; exact ⟨v, rfl, b⟩)
  exact ⟨⟨v0, v1, v2, v3, v4, v5, v6, v7, v8⟩, rfl, ⟨b0, b1, b2, b3, b4, b5, b6, b7, b8⟩⟩
/-- an element's place, a number's next -/
theorem at_map {α : Type} {f : α → AV} {l : List α} {j : Nat} {x : α} (h : l[j]? = some x) : (l.map f).getD j .und = f x := by
  rw [List.getD_eq_getElem?_getD, List.getElem?_map, h]; rfl
theorem get_lt {α : Type} {l : List α} {j : Nat} (h : j < l.length) : ∃ x, l[j]? = some x := ⟨_, List.getElem?_eq_getElem h⟩
theorem wrapS {j : Nat} (h : j ≤ 1000000000000000) : IntKind.i64.wrap ((j : Int) + 1) = ((j + 1 : Nat) : Int) := by rw [IntWalk.i64_in _ (by omega)]; rfl
theorem drop_at {α : Type} {l : List α} {j : Nat} {x : α} (h : l[j]? = some x) : l.drop j = x :: l.drop (j + 1) := by
  obtain ⟨hlt, e⟩ := List.getElem?_eq_some_iff.1 h
  rw [List.drop_eq_getElem_cons hlt, e]
end
end Go.Proofs.YtelmejaiapdgnaaDoor
