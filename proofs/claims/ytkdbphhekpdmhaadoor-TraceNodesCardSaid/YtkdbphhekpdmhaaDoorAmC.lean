/-
  The plain machine, third part: the operations that yield a value and leave the world as it is.
-/
import Derived.Test.YtkdbphhekpdmhaaDoorAmB
namespace Go.Proofs.YtkdbphhekpdmhaaDoor
open Go.RowKit
set_option linter.unusedVariables false
set_option linter.unusedSimpArgs false

/-- a part of a struct's value -/
structure Part where
  off : Nat
  z : Nat
  x : IOpd

inductive IOp where
  | mv (x : IOpd)
  | mvs (x : IOpd)
  | pick (c x y : IOpd)
  | bin (op : BinOp) (x y : IOpd)
  | beq (neq : Bool) (x y : IOpd)
  | feq (neq : Bool) (sh : List (Nat × Nat)) (x y : IOpd)
  | un (op : UnOp) (x : IOpd)
  | ext (i : Nat) (x : IOpd)
  | load (z : Nat) (agg : Bool) (p : IOpd)
  | faddr (off : Nat) (p : IOpd)
  | fld (off z : Nat) (agg : Bool) (x : IOpd)
  | iaddr (z : Nat) (x i : IOpd)
  | iaddrA (len z : Nat) (x i : IOpd)
  | idx (x i : IOpd)
  | idxA (len z : Nat) (agg : Bool) (x i : IOpd)
  | slc (str : Bool) (z : Nat) (x : IOpd) (lo hi : Option IOpd)
  | len (str : Bool) (x : IOpd)
  | mx (isMax : Bool) (x y : IOpd)
  | conv (k : IntKind) (x : IOpd)
  | mkfn (f : FuncId) (first caps : List IOpd)
  | bld (zero : List AV) (parts : List Part)
  | alloc (z : Nat) (ty : TypeId) (zero : AV)
  | box (z : Nat) (ty : TypeId) (x : IOpd)
  | bsl (z : Nat) (ty : TypeId) (xs : List IOpd)
  | mknil (z : Nat) (ty : TypeId)
  | mksl (z : Nat) (ty : TypeId) (bytes : Nat) (zero : AV) (x : IOpd)
  | tobytes (x : IOpd)
  | tostr (x : IOpd)
  | call (f : FuncId) (xs : List IOpd)
  | callv (f : IOpd) (xs : List IOpd)
  | store (z : Nat) (p x : IOpd)
  | append (z : Nat) (ty : TypeId) (bytes : Nat) (x y : IOpd)
  | copy (z : Nat) (x y : IOpd)
  | nileq (neq : Bool) (x : IOpd)

def binI (op : BinOp) (k : IntKind) (a b : Int) (K : AV → Prop) : Prop :=
  match op with
  | .add => K (.int k (k.wrap (a + b)))
  | .sub => K (.int k (k.wrap (a - b)))
  | .mul => K (.int k (k.wrap (a * b)))
  | .quo => b ≠ 0 ∧ K (.int k (k.wrap (a.tdiv b)))
  | .rem => b ≠ 0 ∧ K (.int k (a.tmod b))
  | .and => K (.int k (k.wrap (BitVec.ofInt k.bits a &&& BitVec.ofInt k.bits b).toNat))
  | .or => K (.int k (k.wrap (BitVec.ofInt k.bits a ||| BitVec.ofInt k.bits b).toNat))
  | .xor => K (.int k (k.wrap (BitVec.ofInt k.bits a ^^^ BitVec.ofInt k.bits b).toNat))
  | .andNot => K (.int k (k.wrap (BitVec.ofInt k.bits a &&& ~~~ BitVec.ofInt k.bits b).toNat))
  | .eql => K (.bool (a == b))
  | .neq => K (.bool (a != b))
  | .lss => K (.bool (decide (a < b)))
  | .leq => K (.bool (decide (a ≤ b)))
  | .gtr => K (.bool (decide (a > b)))
  | .geq => K (.bool (decide (a ≥ b)))
  | _ => False

def binS (op : BinOp) (x y : ByteArray) (K : AV → Prop) : Prop :=
  match op with
  | .add => x.size + y.size ≤ 9223372036854775807 ∧ K (.str (x ++ y))
  | .eql => K (.bool (x.toList == y.toList))
  | .neq => K (.bool (!(x.toList == y.toList)))
  | .lss => K (.bool (Op.bytesLess x.toList y.toList))
  | .leq => K (.bool (Op.bytesLess x.toList y.toList || x.toList == y.toList))
  | .gtr => K (.bool (!(Op.bytesLess x.toList y.toList || x.toList == y.toList)))
  | .geq => K (.bool (!(Op.bytesLess x.toList y.toList)))
  | _ => False

/-- the greater and the lesser text -/
def mxS (a b : ByteArray) : ByteArray := if Op.bytesLess a.toList b.toList then b else a
def mnS (a b : ByteArray) : ByteArray := if Op.bytesLess a.toList b.toList || a.toList == b.toList then a else b

/-- z cells as a value -/
def cellsV (agg : Bool) (z : Nat) (cs : List AV) (K : AV → Prop) : Prop :=
  if agg then z ≤ cs.length ∧ K (.agg (cs.take z)) else match cs with
    | c :: _ => K c
    | [] => False

def bound (σ : St) (x : Option IOpd) (d : Nat) (K : Nat → Prop) : Prop :=
  match x with
  | none => K d
  | some x => match σ.get x with
    | .int _ n => 0 ≤ n ∧ K n.toNat
    | _ => False

/-- a slice of an own object: from its beginning on it leads into the object; else it is by itself -/
def slcEnd (σ : St) (l : List AV) (r off h : Nat) (K : AV → List Nat → Prop) : Option IOpd → Prop
  | none => K (.rs r off h) []
  | some lo => bound σ (some lo) 0 fun m => m ≤ h ∧ K (.sl ((l.drop (off + m)).take (h - m))) [r]

def fillV : List AV → List (Nat × Nat × AV) → Option (List AV)
  | cs, [] => some cs
  | cs, (off, z, v) :: l => if v.cells.length = z ∧ off + z ≤ cs.length then fillV (cs.take off ++ v.cells ++ cs.drop (off + z)) l else none

/-- two cells of a kind -/
def cellFit (k : Nat) : AV → AV → Prop
  | .int a _, .int b _ => k = 0 ∧ a = b
  | .str _, .str _ => k = 1
  | .bool _, .bool _ => k = 2
  | _, _ => False
def cellEq : AV → AV → Bool
  | .int _ a, .int _ b => a == b
  | .str a, .str b => a.toList == b.toList
  | .bool a, .bool b => a == b
  | _, _ => false
def okF (xs ys : List AV) : List (Nat × Nat) → Prop
  | [] => True
  | p :: l => cellFit p.2 (xs.getD p.1 .und) (ys.getD p.1 .und) ∧ okF xs ys l
def valF (xs ys : List AV) : List (Nat × Nat) → Bool
  | [] => true
  | p :: l => cellEq (xs.getD p.1 .und) (ys.getD p.1 .und) && valF xs ys l

/-- what an operation of this kind comes to -/
def evalV (hid : List Nat) (σ : St) (K : AV → List Nat → Prop) : IOp → Prop
  | .mv x => K (σ.get x) []
  | .mvs x => match σ.get x with
    | .str s => K (.str s) []
    | _ => False
  | .pick c x y => match σ.get c with
    | .bool true => K (σ.get x) []
    | .bool false => K (σ.get y) []
    | _ => False
  | .bin op x y => match σ.get x, σ.get y with
    | .int k a, .int k' b => k = k' ∧ binI op k a b (fun v => K v [])
    | .str a, .str b => binS op a b (fun v => K v [])
    | _, _ => False
  | .beq neq x y => match σ.get x, σ.get y with
    | .bool a, .bool b => K (.bool (if neq then !(a == b) else a == b)) []
    | _, _ => False
  | .feq neq sh x y => match σ.get x, σ.get y with
    | .agg xs, .agg ys => okF xs ys sh ∧ K (.bool (if neq then !(valF xs ys sh) else valF xs ys sh)) []
    | _, _ => False
  | .un op x => match op, σ.get x with
    | .not, .bool b => K (.bool (!b)) []
    | .neg, .int k a => K (.int k (k.wrap (0 - a))) []
    | _, _ => False
  | .ext i x => match σ.get x with
    | .tup vs => match vs[i]? with
      | some v => K v []
      | none => False
    | _ => False
  | .load z agg p => match σ.get p with
    | .rp cs => cellsV agg z cs (fun v => K v [])
    | .ptr r i f => hid.contains r = false ∧ match σ.H r with
      | some arr => match arr.cells[i]? with
        | some d => cellsV agg z (d.cells.drop f) (fun v => K v [])
        | none => False
      | none => False
    | _ => False
  | .faddr off p => match σ.get p with
    | .rp cs => K (.rp (cs.drop off)) []
    | .ptr r i f => hid.contains r = false ∧ match σ.H r with
      | some _ => K (.ptr r i (f + off)) []
      | none => False
    | _ => False
  | .fld off z agg x => match σ.get x with
    | .agg cs => cellsV agg z (cs.drop off) (fun v => K v [])
    | _ => False
  | .iaddr z x i => match σ.get i, σ.get x with
    | .int _ n, .sl l => (0 ≤ n ∧ n < l.length) ∧ (l.getD n.toNat .und).cells.length = z ∧ K (.rp (l.getD n.toNat .und).cells) []
    | .int _ n, .rs r off len => hid.contains r = false ∧ (0 ≤ n ∧ n < len) ∧ match σ.H r with
      | some arr => arr.z = z ∧ K (.ptr r (off + n.toNat) 0) []
      | none => False
    | _, _ => False
  | .idx x i => match σ.get i, σ.get x with
    | .int _ n, .str s => (0 ≤ n ∧ n < s.size) ∧ K (.int .u8 (s.data.toList.getD n.toNat 0).toNat) []
    | _, _ => False
  | .idxA len z agg x i => match σ.get i, σ.get x with
    | .int _ n, .agg cs => (0 ≤ n ∧ n < len) ∧ cellsV agg z (cs.drop (n.toNat * z)) (fun v => K v [])
    | _, _ => False
  | .slc str z x lo hi => match str, σ.get x with
    | true, .str s => bound σ hi s.size fun h => h ≤ s.size ∧ bound σ lo 0 fun l => l ≤ h ∧ K (.str (s.extract l h)) []
    | false, .sl l => bound σ hi l.length fun h => h ≤ l.length ∧ bound σ lo 0 fun m => m ≤ h ∧ (∀ d ∈ l, d.cells.length = z) ∧ K (.sl ((l.take h).drop m)) []
    | false, .rs r off len => hid.contains r = false ∧ match σ.H r with
      | some arr => arr.z = z ∧ bound σ hi len fun h => h ≤ len ∧ slcEnd σ arr.cells r off h K lo
      | none => False
    | _, _ => False
  | .len str x => match str, σ.get x with
    | false, .sl l => K (.int .i64 l.length) []
    | false, .rs r _ len => hid.contains r = false ∧ match σ.H r with
      | some _ => K (.int .i64 len) []
      | none => False
    | true, .str s => K (.int .i64 s.size) []
    | _, _ => False
  | .mx isMax x y => match σ.get x, σ.get y with
    | .int k a, .int _ b => K (.int k (if isMax then (if b > a then b else a) else (if b < a then b else a))) []
    | .str a, .str b => K (.str (if isMax then mxS a b else mnS a b)) []
    | _, _ => False
  | .conv k x => match σ.get x with
    | .int _ n => K (.int k (k.wrap n)) []
    | _ => False
  | .mkfn f first caps => match σ.byvals hid (first.map σ.get), σ.byvals hid (caps.map σ.get) with
    | some (vf, f1), some (vc, f2) => K (.clo f vf vc) (f1 ++ f2)
    | _, _ => False
  | .bld zero parts => match σ.byvals hid (parts.map fun p => σ.get p.x) with
    | some (vs, fz) => match fillV zero ((parts.zip vs).map fun q => (q.1.off, q.1.z, q.2)) with
      | some cs => K (.agg cs) fz
      | none => False
    | none => False
  | _ => False

/-! ### Out of the model's operations -/

def isAggD : TypeDesc → Bool
  | .struct _ | .array _ _ => true
  | _ => false

/-- a type's cells, and whether it is a struct or array -/
def tyOf (P : Program) (t : TypeId) : Option (Nat × Bool) :=
  match P.info? t, P.underlying t with
  | some i, some d => some (i.size, isAggD d)
  | _, _ => none

/-- a struct's cells that '==' looks at, each with its kind -/
def shapeOf (P : Program) : Nat → TypeId → Option (List (Nat × Nat))
  | 0, _ => none
  | d + 1, t => match P.underlying t with
    | some (.int _) => some [(0, 0)]
    | some .string => some [(0, 1)]
    | some .bool => some [(0, 2)]
    | some (.struct fs) => if P.stoodInHeld t then none else fs.toList.foldr (fun f acc => match acc, P.info? f.type with
        | some l, some i => if f.name = "_" then none else match shapeOf P d f.type with
          | some s => if s.all (fun p => decide (p.1 < i.size)) then some (s.map (fun p => (f.offset + p.1, p.2)) ++ l) else none
          | none => none
        | _, _ => none) (some [])
    | _ => none

def compOpds : List Operand → Option (List IOpd)
  | [] => some []
  | x :: l => match compOpd x, compOpds l with
    | some y, some ys => some (y :: ys)
    | _, _ => none

def compO : Option Operand → Option (Option IOpd)
  | none => some none
  | some x => (compOpd x).map some

/-- the operation, if it is of a kind that yields a value and no more -/
def compV (P : Program) (op : Op) : Option IOp :=
  match op with
  | .move x | .assign x => (compOpd x).map .mv
  | .pick c x y => match compOpd c, compOpd x, compOpd y with
    | some c, some x, some y => some (.pick c x y)
    | _, _, _ => none
  | .binOp op t x y _ => match compOpd x, compOpd y with
    | some x, some y => match op, P.underlying t with
      | .eql, some .bool => some (.beq false x y)
      | .neq, some .bool => some (.beq true x y)
      | .eql, some (.struct _) => if P.eqGuardType P.depth t then none else (shapeOf P 8 t).map fun s => .feq false s x y
      | .neq, some (.struct _) => if P.eqGuardType P.depth t then none else (shapeOf P 8 t).map fun s => .feq true s x y
      | op, _ => some (.bin op x y)
    | _, _ => none
  | .unOp op _ x => (compOpd x).map (.un op)
  | .extract x i => (compOpd x).map (.ext i)
  | .load t x => match tyOf P t, compOpd x with
    | some (z, agg), some x => if agg || z == 1 then some (.load z agg x) else none
    | _, _ => none
  | .fieldAddr s x f => match P.underlying s, compOpd x with
    | some (.struct fs), some x => match fs[f]? with
      | some fl => match P.info? fl.type with
        | some i => if i.size = 0 then none else some (.faddr fl.offset x)
        | none => none
      | none => none
    | _, _ => none
  | .field s x f => match P.underlying s, compOpd x with
    | some (.struct fs), some x => match fs[f]? with
      | some fl => match tyOf P fl.type with
        | some (z, agg) => some (.fld fl.offset z agg x)
        | none => none
      | none => none
    | _, _ => none
  | .indexAddr t x i => match P.underlying t, compOpd x, compOpd i with
    | some (.slice e), some x, some i => match P.info? e with
      | some j => if j.size = 0 then none else some (.iaddr j.size x i)
      | none => none
    | _, _, _ => none
  | .index t x i => match P.underlying t, compOpd x, compOpd i with
    | some .string, some x, some i => some (.idx x i)
    | some (.array len e), some x, some i => match tyOf P e with
      | some (z, agg) => some (.idxA len z agg x i)
      | none => none
    | _, _, _ => none
  | .slice t x lo hi none => match P.underlying t, compOpd x, compO lo, compO hi with
    | some .string, some x, some lo, some hi => some (.slc true 0 x lo hi)
    | some (.slice e), some x, some lo, some hi => match P.info? e with
      | some j => if j.size = 0 then none else some (.slc false j.size x lo hi)
      | none => none
    | _, _, _, _ => none
  | .convert src dst x => match P.underlying src, P.underlying dst, compOpd x with
    | some (.int _), some (.int k), some x => some (.conv k x)
    | some .string, some .string, some x => some (.mvs x)
    | _, _, _ => none
  | .makeFunc (.func f) first caps => match compOpds first.toList, compOpds caps.toList with
    | some a, some b => some (.mkfn f a b)
    | _, _ => none
  | .build t parts => match P.info? t, P.underlying t with
    | some i, some (.struct fs) => match i.zero with
      | some (.agg zs) => match zs.toList.mapM compConst, fs.toList.mapM (fun f => (P.info? f.type).map fun j => (f.offset, j.size)) with
        | some zero, some pl => match parts.toList.mapM (fun p => match pl[p.1]?, compOpd p.2 with
            | some q, some x => some (⟨q.1, q.2, x⟩ : Part)
            | _, _ => none) with
          | some ps => some (.bld zero ps)
          | none => none
        | _, _ => none
      | _ => none
    | _, _ => none
  | .call c => match c.callee, c.args.toList, c.argTypes.toList with
    | .builtin .len, [x], [t] => match P.underlying t with
      | some .string => (compOpd x).map (.len true)
      | some (.slice _) => (compOpd x).map (.len false)
      | _ => none
    | .builtin .max, [x, y], _ => match compOpd x, compOpd y with
      | some x, some y => some (.mx true x y)
      | _, _ => none
    | .builtin .min, [x, y], _ => match compOpd x, compOpd y with
      | some x, some y => some (.mx false x y)
      | _, _ => none
    | _, _, _ => none
  | _ => none
end Go.Proofs.YtkdbphhekpdmhaaDoor
