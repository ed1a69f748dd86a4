/-
  The data of the trees: messages, pairs, nodes, latches; and that what came in of their types is such.
-/
import Derived.Test.YtkdbphhekpdmhaaDoorAmR
import Derived.Test.YtkdbphhekpdmhaaDoorGlue
import Derived.IntWalk
namespace Go.Proofs.YtkdbphhekpdmhaaDoor
open Go.RowKit
set_option linter.unusedVariables false
set_option linter.unusedSimpArgs false
set_option maxRecDepth 100000
theorem st_cons {T : Ty} {fs : List Ty} {ds : List AV} (h : TypedC (.st (T :: fs)) ds) : ∃ c r, ds = c ++ r ∧ TypedC T c ∧ TypedC (.st fs) r := by
  cases h with
  | cons h1 h2 => exact ⟨_, _, rfl, h1, h2⟩
theorem st_nil {ds : List AV} (h : TypedC (.st []) ds) : ds = [] := by cases h; rfl
theorem int_inv {ds : List AV} (h : TypedC (.int .i64) ds) : ∃ n, ds = [.int .i64 n] ∧ -9223372036854775808 ≤ n ∧ n ≤ 9223372036854775807 := by
  cases h with
  | int k n h => exact ⟨n, rfl, bounds_i64 h⟩
theorem str_inv {ds : List AV} (h : TypedC .str ds) : ∃ s, ds = [.str s] ∧ s.size ≤ 281474976710656 := by
  cases h with
  | str s h => exact ⟨s, rfl, h⟩
theorem bool_inv {ds : List AV} (h : TypedC .bool ds) : ∃ b, ds = [.bool b] := by
  cases h with
  | bool b => exact ⟨b, rfl⟩
theorem sl_of {α : Type} (f : α → AV) (ok : α → Prop) {T : Ty} {ds : List AV} (h : TypedC (.sl T) ds) (hel : ∀ c, TypedC T c → ∃ a, packT T c = f a ∧ ok a) : ∃ l : List α, ds = [.sl (l.map f)] ∧ l.length ≤ 281474976710656 ∧ ∀ a, a ∈ l → ok a := by
  cases h with
  | sl T ls hlen h =>
    have : ∃ l : List α, ls.map (packT T) = l.map f ∧ l.length = ls.length ∧ ∀ a, a ∈ l → ok a := by
      clear hlen
      induction ls with
      | nil => exact ⟨[], rfl, rfl, fun a ha => by cases ha⟩
      | cons c ls ih =>
        obtain ⟨l, h1, h2, h3⟩ := ih fun x hx => h x (List.mem_cons_of_mem _ hx)
        obtain ⟨a, ha, hok⟩ := hel c (h c (List.mem_cons_self ..))
        refine ⟨a :: l, by rw [List.map_cons, List.map_cons, h1, ha], by rw [List.length_cons, List.length_cons, h2], fun b hb => ?_⟩
        rcases List.mem_cons.1 hb with rfl | hb
        · exact hok
        · exact h3 b hb
    obtain ⟨l, h1, h2, h3⟩ := this
    exact ⟨l, by rw [h1], by omega, h3⟩
structure Msg where
  stamp : Int
  kind : Int
  key : ByteArray
  hi : ByteArray
  op : Bool
  val : ByteArray
def Msg.a (x : Msg) : AV := .agg [.int .i64 x.stamp, .int .i64 x.kind, .str x.key, .str x.hi, .bool x.op, .str x.val]
structure Msg.ok (x : Msg) : Prop where
  stamp : (-9223372036854775808 ≤ x.stamp ∧ x.stamp ≤ 9223372036854775807)
  kind : (-9223372036854775808 ≤ x.kind ∧ x.kind ≤ 9223372036854775807)
  key : x.key.size ≤ 281474976710656
  hi : x.hi.size ≤ 281474976710656
  op : True
  val : x.val.size ≤ 281474976710656
def MsgT : Ty := .st [.int .i64, .int .i64, .str, .str, .bool, .str]
theorem Msg.of {c : List AV} (h : TypedC MsgT c) : ∃ x : Msg, AV.agg c = x.a ∧ x.ok := by
  obtain ⟨c0, r0, rfl, h0, h⟩ := st_cons h
  obtain ⟨c1, r1, rfl, h1, h⟩ := st_cons h
  obtain ⟨c2, r2, rfl, h2, h⟩ := st_cons h
  obtain ⟨c3, r3, rfl, h3, h⟩ := st_cons h
  obtain ⟨c4, r4, rfl, h4, h⟩ := st_cons h
  obtain ⟨c5, r5, rfl, h5, h⟩ := st_cons h
  obtain rfl := st_nil h
  obtain ⟨v0, rfl, b0⟩ := int_inv h0
  obtain ⟨v1, rfl, b1⟩ := int_inv h1
  obtain ⟨v2, rfl, b2⟩ := str_inv h2
  obtain ⟨v3, rfl, b3⟩ := str_inv h3
  obtain ⟨v4, rfl⟩ := bool_inv h4
  have b4 := True.intro
  obtain ⟨v5, rfl, b5⟩ := str_inv h5
  exact ⟨⟨v0, v1, v2, v3, v4, v5⟩, rfl, ⟨b0, b1, b2, b3, b4, b5⟩⟩
structure Par where
  key : ByteArray
  val : ByteArray
def Par.a (x : Par) : AV := .agg [.str x.key, .str x.val]
structure Par.ok (x : Par) : Prop where
  key : x.key.size ≤ 281474976710656
  val : x.val.size ≤ 281474976710656
def ParT : Ty := .st [.str, .str]
theorem Par.of {c : List AV} (h : TypedC ParT c) : ∃ x : Par, AV.agg c = x.a ∧ x.ok := by
  obtain ⟨c0, r0, rfl, h0, h⟩ := st_cons h
  obtain ⟨c1, r1, rfl, h1, h⟩ := st_cons h
  obtain rfl := st_nil h
  obtain ⟨v0, rfl, b0⟩ := str_inv h0
  obtain ⟨v1, rfl, b1⟩ := str_inv h1
  exact ⟨⟨v0, v1⟩, rfl, ⟨b0, b1⟩⟩
structure Nd where
  slot : Int
  level : Int
  pivots : List ByteArray
  kids : List Int
  high : ByteArray
  top : Bool
  right : Int
  seen : Int
  msgs : List Msg
  rows : List Par
def Nd.a (x : Nd) : AV := .agg [.int .i64 x.slot, .int .i64 x.level, .sl (x.pivots.map AV.str), .sl (x.kids.map (AV.int .i64)), .str x.high, .bool x.top, .int .i64 x.right, .int .i64 x.seen, .sl (x.msgs.map Msg.a), .sl (x.rows.map Par.a)]
structure Nd.ok (x : Nd) : Prop where
  slot : (-9223372036854775808 ≤ x.slot ∧ x.slot ≤ 9223372036854775807)
  level : (-9223372036854775808 ≤ x.level ∧ x.level ≤ 9223372036854775807)
  pivots : (x.pivots.length ≤ 281474976710656 ∧ ∀ z, z ∈ x.pivots → z.size ≤ 281474976710656)
  kids : (x.kids.length ≤ 281474976710656 ∧ ∀ z, z ∈ x.kids → (-9223372036854775808 ≤ z ∧ z ≤ 9223372036854775807))
  high : x.high.size ≤ 281474976710656
  top : True
  right : (-9223372036854775808 ≤ x.right ∧ x.right ≤ 9223372036854775807)
  seen : (-9223372036854775808 ≤ x.seen ∧ x.seen ≤ 9223372036854775807)
  msgs : (x.msgs.length ≤ 281474976710656 ∧ ∀ z, z ∈ x.msgs → z.ok)
  rows : (x.rows.length ≤ 281474976710656 ∧ ∀ z, z ∈ x.rows → z.ok)
def NdT : Ty := .st [.int .i64, .int .i64, .sl (.str), .sl (.int .i64), .str, .bool, .int .i64, .int .i64, .sl MsgT, .sl ParT]
theorem Nd.of {c : List AV} (h : TypedC NdT c) : ∃ x : Nd, AV.agg c = x.a ∧ x.ok := by
  obtain ⟨c0, r0, rfl, h0, h⟩ := st_cons h
  obtain ⟨c1, r1, rfl, h1, h⟩ := st_cons h
  obtain ⟨c2, r2, rfl, h2, h⟩ := st_cons h
  obtain ⟨c3, r3, rfl, h3, h⟩ := st_cons h
  obtain ⟨c4, r4, rfl, h4, h⟩ := st_cons h
  obtain ⟨c5, r5, rfl, h5, h⟩ := st_cons h
  obtain ⟨c6, r6, rfl, h6, h⟩ := st_cons h
  obtain ⟨c7, r7, rfl, h7, h⟩ := st_cons h
  obtain ⟨c8, r8, rfl, h8, h⟩ := st_cons h
  obtain ⟨c9, r9, rfl, h9, h⟩ := st_cons h
  obtain rfl := st_nil h
  obtain ⟨v0, rfl, b0⟩ := int_inv h0
  obtain ⟨v1, rfl, b1⟩ := int_inv h1
  obtain ⟨v2, rfl, b2⟩ := sl_of AV.str (fun z : ByteArray => z.size ≤ 281474976710656) h2 (fun c hc => by obtain ⟨v, rfl, b⟩ := str_inv hc; exact ⟨v, rfl, b⟩)
  obtain ⟨v3, rfl, b3⟩ := sl_of (AV.int .i64) (fun z : Int => -9223372036854775808 ≤ z ∧ z ≤ 9223372036854775807) h3 (fun c hc => by obtain ⟨v, rfl, b⟩ := int_inv hc; exact ⟨v, rfl, b⟩)
  obtain ⟨v4, rfl, b4⟩ := str_inv h4
  obtain ⟨v5, rfl⟩ := bool_inv h5
  have b5 := True.intro
  obtain ⟨v6, rfl, b6⟩ := int_inv h6
  obtain ⟨v7, rfl, b7⟩ := int_inv h7
  obtain ⟨v8, rfl, b8⟩ := sl_of Msg.a Msg.ok h8 (fun c hc => Msg.of hc)
  obtain ⟨v9, rfl, b9⟩ := sl_of Par.a Par.ok h9 (fun c hc => Par.of hc)
  exact ⟨⟨v0, v1, v2, v3, v4, v5, v6, v7, v8, v9⟩, rfl, ⟨b0, b1, b2, b3, b4, b5, b6, b7, b8, b9⟩⟩
structure Hld where
  thread : Int
  slot : Int
  wr : Bool
def Hld.a (x : Hld) : AV := .agg [.int .i64 x.thread, .int .i64 x.slot, .bool x.wr]
structure Hld.ok (x : Hld) : Prop where
  thread : (-9223372036854775808 ≤ x.thread ∧ x.thread ≤ 9223372036854775807)
  slot : (-9223372036854775808 ≤ x.slot ∧ x.slot ≤ 9223372036854775807)
  wr : True
def HldT : Ty := .st [.int .i64, .int .i64, .bool]
theorem Hld.of {c : List AV} (h : TypedC HldT c) : ∃ x : Hld, AV.agg c = x.a ∧ x.ok := by
  obtain ⟨c0, r0, rfl, h0, h⟩ := st_cons h
  obtain ⟨c1, r1, rfl, h1, h⟩ := st_cons h
  obtain ⟨c2, r2, rfl, h2, h⟩ := st_cons h
  obtain rfl := st_nil h
  obtain ⟨v0, rfl, b0⟩ := int_inv h0
  obtain ⟨v1, rfl, b1⟩ := int_inv h1
  obtain ⟨v2, rfl⟩ := bool_inv h2
  have b2 := True.intro
  exact ⟨⟨v0, v1, v2⟩, rfl, ⟨b0, b1, b2⟩⟩
structure Cfg where
  fanout : Int
  leaf : Int
  budget : Int
  slots : Int
  restarts : Int
def Cfg.a (x : Cfg) : AV := .agg [.int .i64 x.fanout, .int .i64 x.leaf, .int .i64 x.budget, .int .i64 x.slots, .int .i64 x.restarts]
structure Cfg.ok (x : Cfg) : Prop where
  fanout : (-9223372036854775808 ≤ x.fanout ∧ x.fanout ≤ 9223372036854775807)
  leaf : (-9223372036854775808 ≤ x.leaf ∧ x.leaf ≤ 9223372036854775807)
  budget : (-9223372036854775808 ≤ x.budget ∧ x.budget ≤ 9223372036854775807)
  slots : (-9223372036854775808 ≤ x.slots ∧ x.slots ≤ 9223372036854775807)
  restarts : (-9223372036854775808 ≤ x.restarts ∧ x.restarts ≤ 9223372036854775807)
def CfgT : Ty := .st [.int .i64, .int .i64, .int .i64, .int .i64, .int .i64]
theorem Cfg.of {c : List AV} (h : TypedC CfgT c) : ∃ x : Cfg, AV.agg c = x.a ∧ x.ok := by
  obtain ⟨c0, r0, rfl, h0, h⟩ := st_cons h
  obtain ⟨c1, r1, rfl, h1, h⟩ := st_cons h
  obtain ⟨c2, r2, rfl, h2, h⟩ := st_cons h
  obtain ⟨c3, r3, rfl, h3, h⟩ := st_cons h
  obtain ⟨c4, r4, rfl, h4, h⟩ := st_cons h
  obtain rfl := st_nil h
  obtain ⟨v0, rfl, b0⟩ := int_inv h0
  obtain ⟨v1, rfl, b1⟩ := int_inv h1
  obtain ⟨v2, rfl, b2⟩ := int_inv h2
  obtain ⟨v3, rfl, b3⟩ := int_inv h3
  obtain ⟨v4, rfl, b4⟩ := int_inv h4
  exact ⟨⟨v0, v1, v2, v3, v4⟩, rfl, ⟨b0, b1, b2, b3, b4⟩⟩
structure Gau where
  nodes : Int
  leaves : Int
  height : Int
  rows : Int
  msgs : Int
  bytes : Int
  empty : Int
  levels : List Int
  waits : List Int
def Gau.a (x : Gau) : AV := .agg [.int .i64 x.nodes, .int .i64 x.leaves, .int .i64 x.height, .int .i64 x.rows, .int .i64 x.msgs, .int .i64 x.bytes, .int .i64 x.empty, .sl (x.levels.map (AV.int .i64)), .sl (x.waits.map (AV.int .i64))]
structure Gau.ok (x : Gau) : Prop where
  nodes : (-9223372036854775808 ≤ x.nodes ∧ x.nodes ≤ 9223372036854775807)
  leaves : (-9223372036854775808 ≤ x.leaves ∧ x.leaves ≤ 9223372036854775807)
  height : (-9223372036854775808 ≤ x.height ∧ x.height ≤ 9223372036854775807)
  rows : (-9223372036854775808 ≤ x.rows ∧ x.rows ≤ 9223372036854775807)
  msgs : (-9223372036854775808 ≤ x.msgs ∧ x.msgs ≤ 9223372036854775807)
  bytes : (-9223372036854775808 ≤ x.bytes ∧ x.bytes ≤ 9223372036854775807)
  empty : (-9223372036854775808 ≤ x.empty ∧ x.empty ≤ 9223372036854775807)
  levels : (x.levels.length ≤ 281474976710656 ∧ ∀ z, z ∈ x.levels → (-9223372036854775808 ≤ z ∧ z ≤ 9223372036854775807))
  waits : (x.waits.length ≤ 281474976710656 ∧ ∀ z, z ∈ x.waits → (-9223372036854775808 ≤ z ∧ z ≤ 9223372036854775807))
def GauT : Ty := .st [.int .i64, .int .i64, .int .i64, .int .i64, .int .i64, .int .i64, .int .i64, .sl (.int .i64), .sl (.int .i64)]
theorem Gau.of {c : List AV} (h : TypedC GauT c) : ∃ x : Gau, AV.agg c = x.a ∧ x.ok := by
  obtain ⟨c0, r0, rfl, h0, h⟩ := st_cons h
  obtain ⟨c1, r1, rfl, h1, h⟩ := st_cons h
  obtain ⟨c2, r2, rfl, h2, h⟩ := st_cons h
  obtain ⟨c3, r3, rfl, h3, h⟩ := st_cons h
  obtain ⟨c4, r4, rfl, h4, h⟩ := st_cons h
  obtain ⟨c5, r5, rfl, h5, h⟩ := st_cons h
  obtain ⟨c6, r6, rfl, h6, h⟩ := st_cons h
  obtain ⟨c7, r7, rfl, h7, h⟩ := st_cons h
  obtain ⟨c8, r8, rfl, h8, h⟩ := st_cons h
  obtain rfl := st_nil h
  obtain ⟨v0, rfl, b0⟩ := int_inv h0
  obtain ⟨v1, rfl, b1⟩ := int_inv h1
  obtain ⟨v2, rfl, b2⟩ := int_inv h2
  obtain ⟨v3, rfl, b3⟩ := int_inv h3
  obtain ⟨v4, rfl, b4⟩ := int_inv h4
  obtain ⟨v5, rfl, b5⟩ := int_inv h5
  obtain ⟨v6, rfl, b6⟩ := int_inv h6
  obtain ⟨v7, rfl, b7⟩ := sl_of (AV.int .i64) (fun z : Int => -9223372036854775808 ≤ z ∧ z ≤ 9223372036854775807) h7 (fun c hc => by obtain ⟨v, rfl, b⟩ := int_inv hc; exact ⟨v, rfl, b⟩)
  obtain ⟨v8, rfl, b8⟩ := sl_of (AV.int .i64) (fun z : Int => -9223372036854775808 ≤ z ∧ z ≤ 9223372036854775807) h8 (fun c hc => by obtain ⟨v, rfl, b⟩ := int_inv hc; exact ⟨v, rfl, b⟩)
  exact ⟨⟨v0, v1, v2, v3, v4, v5, v6, v7, v8⟩, rfl, ⟨b0, b1, b2, b3, b4, b5, b6, b7, b8⟩⟩
/-- an element's place, a number's next -/
theorem at_map {α : Type} {f : α → AV} {l : List α} {j : Nat} {x : α} (h : l[j]? = some x) : (l.map f).getD j .und = f x := by
  rw [List.getD_eq_getElem?_getD, List.getElem?_map, h]; rfl
theorem get_lt {α : Type} {l : List α} {j : Nat} (h : j < l.length) : ∃ x, l[j]? = some x := ⟨_, List.getElem?_eq_getElem h⟩
theorem wrapS {j : Nat} (h : j ≤ 1000000000000000) : IntKind.i64.wrap ((j : Int) + 1) = ((j + 1 : Nat) : Int) := by rw [IntWalk.i64_in _ (by omega)]; rfl
theorem drop_at {α : Type} {l : List α} {j : Nat} {x : α} (h : l[j]? = some x) : l.drop j = x :: l.drop (j + 1) := by
  obtain ⟨hlt, e⟩ := List.getElem?_eq_some_iff.1 h
  rw [List.drop_eq_getElem_cons hlt, e]
theorem take_at {α : Type} {l : List α} {j : Nat} {x : α} (h : l[j]? = some x) : l.take (j + 1) = l.take j ++ [x] := by
  rw [List.take_add_one, h]; rfl
end Go.Proofs.YtkdbphhekpdmhaaDoor
