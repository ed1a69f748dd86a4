/-
  A machine with a heap, second part: what an operation comes to.
-/
import Derived.Test.YtcccaomnehdlbaaDoorHpA
import Derived.Laws.MakeOwn
namespace Go.Proofs.YtcccaomnehdlbaaDoor
open Go.RowKit
set_option linter.unusedVariables false
set_option linter.unusedSimpArgs false
namespace Hm

/-- an operation that looks at no memory -/
def flat (P : Program) : Sem Next → Option Value
  | .pure (.value v) => some v
  | .program k => flat P (k P)
  | .mark _ k => flat P k
  | _ => none
theorem flat_run {P : Program} {w : World} : ∀ {s : Sem Next} {v : Value}, flat P s = some v → s.run P w = .ok (.value v) w
  | .pure x, v, h => by
    cases x <;> simp only [flat] at h <;> cases h
    rfl
  | .program k, v, h => by
    simp only [flat] at h
    show (k P).run P w = _
    exact flat_run h
  | .mark m k, v, h => by
    simp only [flat] at h
    show k.run P w = _
    exact flat_run h
  | .load .., v, h => by simp [flat] at h
  | .store .., v, h => by simp [flat] at h
  | .new .., v, h => by simp [flat] at h
  | .shape .., v, h => by simp [flat] at h
  | .freeze .., v, h => by simp [flat] at h
  | .frozen .., v, h => by simp [flat] at h
  | .getObj .., v, h => by simp [flat] at h
  | .setObj .., v, h => by simp [flat] at h
  | .choose .., v, h => by simp [flat] at h
  | .sys .., v, h => by simp [flat] at h
  | .halt .., v, h => by simp [flat] at h

def opV (T : Nat → V) : Operand → V
  | .tmp t => T t
  | .const v => .lit v
  | .global g => .lit (.pointer (some ⟨g, 0, none⟩))
  | .func f => .lit (.func (.func f) #[] #[])

/-- what an operation comes to: a value, with objects that have turned (none: ended); a call; a call at the function's end -/
inductive Eff where
  | val (v : V) (ups : List (Nat × Option Ob)) (nx : Nat)
  | call (f : FuncId) (args : List V)
  | dfr (f : FuncId) (args : List V)
  | yld (r : Nat) (args : List V)

def notSel : Op → Bool
  | .select .. => false
  | _ => true
def flatV (P : Program) (T : Nat → V) (o : Oper) : Option V :=
  if notSel o.op && o.op.operands.toList.all fun x => ((opV T x).val?).isSome then (flat P (execOp (fun x => ((opV T x).val?).getD undef) o)).map .lit else none
/-- a whole number's kind -/
def kindV : V → Option IntKind
  | .un (.int k) => some k
  | .un (.rng _ _) => some .i64
  | .lit (.int k _) => some k
  | _ => none
/-- between which whole numbers a number is -/
def rngV : V → Option (Int × Int)
  | .un (.rng lo hi) => some (lo, hi)
  | .lit (.int .i64 n) => some (n, n)
  | _ => none
def lssR (a b : Int × Int) : V := if a.2 < b.1 then .lit (.bool true) else if b.2 ≤ a.1 then .lit (.bool false) else .un .bool
def leqR (a b : Int × Int) : V := if a.2 ≤ b.1 then .lit (.bool true) else if b.2 < a.1 then .lit (.bool false) else .un .bool
def cmpR (op : BinOp) (x y : V) : V := match rngV x, rngV y with
  | some a, some b => match op with
    | .lss => lssR a b
    | .leq => leqR a b
    | .gtr => lssR b a
    | .geq => leqR b a
    | _ => .un .bool
  | _, _ => .un .bool
def minR (k : IntKind) (x y : V) : V := match rngV x, rngV y with
  | some a, some b => .un (.rng (min a.1 b.1) (min a.2 b.2))
  | _, _ => .un (.int k)
def maxR (k : IntKind) (x y : V) : V := match rngV x, rngV y with
  | some a, some b => .un (.rng (max a.1 b.1) (max a.2 b.2))
  | _, _ => .un (.int k)
def cmpOp : BinOp → Bool
  | .eql | .neq | .lss | .leq | .gtr | .geq => true
  | _ => false
/-- what is known of an operation of which not all is known -/
def unV (P : Program) (T : Nat → V) (o : Oper) : Option V := match o.op with
  | .binOp op t x y _ => match kindV (opV T x), kindV (opV T y) with
    | some k, some k' => if k = k' ∧ cmpOp op = true then some (cmpR op (opV T x) (opV T y)) else none
    | _, _ => none
  | .call c => match c.callee, c.args.toList, c.argTypes.toList with
    | .builtin .len, [x], [t] => match opV T x, P.underlying t with
      | .un .str, some .string => some (.un (.int .i64))
      | _, _ => none
    | .builtin .min, [x, y], _ => match kindV (opV T x), kindV (opV T y) with
      | some k, some _ => some (minR k (opV T x) (opV T y))
      | _, _ => none
    | .builtin .max, [x, y], _ => match kindV (opV T x), kindV (opV T y) with
      | some k, some _ => some (maxR k (opV T x) (opV T y))
      | _, _ => none
    | _, _, _ => none
  | _ => none
def flatE (P : Program) (T : Nat → V) (nx : Nat) (o : Oper) : Option Eff := match flatV P T o with
  | some v => some (.val v [] nx)
  | none => (unV P T o).map fun v => .val v [] nx

def aggT (P : Program) (t : TypeId) : Option Bool := (P.underlying t).map fun
  | .struct _ | .array .. => true
  | _ => false
def sizeT (P : Program) (t : TypeId) : Option Nat := (P.info? t).map (·.size)
def intV : V → Option Int
  | .lit (.int _ n) => some n
  | _ => none
/-- cells at a place, as a value -/
def getC (agg : Bool) (z o : Nat) (cs : List V) : Option V :=
  if agg then if o + z ≤ cs.length then some (.agg ((cs.drop o).take z)) else none else cs[o]?
def setC (o : Nat) (new cs : List V) : List V := cs.take o ++ new ++ cs.drop (o + new.length)
def oks (cs : List V) : Bool := cs.all V.one
theorem oks_known {d : V} (h : oks d.cells = true) : d.known = true := by
  cases d <;> first | rfl | (simp [oks, V.cells, V.one] at h)

def fillC (place : Nat → Option (Nat × Nat)) : List V → List (Nat × V) → Option (List V)
  | cells, [] => some cells
  | cells, (i, v) :: rest => match place i with
    | some (off, size) => if v.known && v.cells.length == size && decide (off + size ≤ cells.length) then fillC place (setC off v.cells cells) rest else none
    | none => none
def zeroC (P : Program) (t : TypeId) : Option (List V) := ((P.info? t).bind (·.zero)).map fun z => z.cells.toList.map .lit
def zeroV (P : Program) (t : TypeId) : Option (Array Value) := ((P.info? t).bind (·.zero)).map (·.cells)
def madeC (z : Array Value) (n : Nat) : List V := (madeCells z n).toList.map .lit
def buildC (P : Program) (T : Nat → V) (t : TypeId) (parts : Array (Nat × Operand)) : Option V :=
  match zeroC P t, P.underlying t with
  | some zs, some (.struct fs) => match fs.toList.mapM fun f => (sizeT P f.type).map fun n => (f.offset, n) with
    | some pl => (fillC (pl[·]?) zs (parts.toList.map fun p => (p.1, opV T p.2))).map .agg
    | none => none
  | some zs, some (.array _ e) => match sizeT P e with
    | some z => (fillC (fun i => some (i * z, z)) zs (parts.toList.map fun p => (p.1, opV T p.2))).map .agg
    | none => none
  | _, _ => none

/-- a function by its receiver's type -/
def methOf (P : Program) (t : TypeId) (name : String) : Option (FuncId × Option TypeId) :=
  match P.info? t with
  | some i => match i.methods.find? (·.name == name) with
    | some m => if m.path.isEmpty then match m.func, P.underlying t with
        | some (f, true), some (.pointer _) => some (f, none)
        | some (f, false), some (.pointer e) => some (f, some e)
        | some (f, false), some _ => some (f, none)
        | _, _ => none
      else none
    | none => none
  | none => none
/-- the receiver: what a pointer leads to, where a method wants that -/
def recvE (P : Program) (G : Nat → Option Ob) (v : V) : Option TypeId → Option V
  | none => some v
  | some e => match v, aggT P e, sizeT P e with
    | .ptr r o, some agg, some z => match G r with
      | some (.cells _ cs) => getC agg z o cs
      | _ => none
    | _, _, _ => none
/-- the numbers under which a call of yield, and a mark among what is put off, go -/
def yldId : FuncId := 1000000000
def mkId : FuncId := 1000000001
def funcOk (P : Program) (f : FuncId) : Bool := match P.funcs[f]? with
  | some fn => Nat.blt f 1000000000 && (fn.name != "runtime.NumGoroutine" && fn.body.isSome)
  | none => false

/-- an entry of a map by its key -/
def findE (kind : TypeDesc) (k : Value) : List (Value × V) → Nat → Option (Option (Nat × V))
  | [], _ => some none
  | e :: es, i => match Instr.sameNow kind k e.1 with
    | some true => some (some (i, e.2))
    | some false => findE kind k es (i + 1)
    | none => none
def keyOk : TypeDesc → Value → Bool
  | .int k, .int k' _ => k' == k
  | .string, .string _ => true
  | _, _ => false
def keyKind (P : Program) (t : TypeId) : Option TypeDesc := match P.underlying t with
  | some (.int k) => some (.int k)
  | some .string => some .string
  | _ => none

/-- do two values have one address? -/
def eqA (P : Program) (G : Nat → Option Ob) (d : Option TypeDesc) (x y : V) : Option Bool :=
  match d, x, y with
  | some (.pointer _), .ptr .., .lit (.pointer none) | some (.pointer _), .lit (.pointer none), .ptr .. => some false
  | some (.slice _), .sl r .., .lit (.slice none _ _) | some (.slice _), .lit (.slice none _ _), .sl r .. => match G r with
    | some _ => some false
    | none => none
  | some (.map ..), .mp _, .lit (.map none) | some (.map ..), .lit (.map none), .mp _ => some false
  | some (.func ..), .fn .., .lit .nilFunc | some (.func ..), .lit .nilFunc, .fn .. => some false
  | some (.interface _), .ifc .., .lit .nilIface | some (.interface _), .lit .nilIface, .ifc .. => some false
  | some (.pointer e), .ptr r o, .ptr r' o' => match G r, G r', sizeT P e with
    | some (.cells t1 cs), some (.cells t2 cs'), some (_ + 1) => if (o < cs.length ∧ o' < cs'.length) ∧ (t1.2 < 2 ∨ t2.2 < 2) then some (decide (r = r') && decide (o = o')) else none
    | _, _, _ => none
  | _, _, _ => none

/-- the cells of a slice -/
def newsOf (G : Nat → Option Ob) (z : Nat) : V → Option (List V)
  | .lit (.slice none 0 0) => some []
  | .lit (.string s) => if z = 1 then some (s.data.toList.map fun b => .lit (.int .u8 b.toNat)) else none
  | .sl r o z' len => if z' = z then match G r with
      | some (.cells _ cs) => if o + len * z ≤ cs.length then some ((cs.drop o).take (len * z)) else none
      | _ => none
    else none
  | _ => none
def appE (G : Nat → Option Ob) (nx : Nat) (e : TypeId) (z bytes : Nat) (x y : V) : Option Eff :=
  if z = 0 then none else
  match newsOf G z y with
  | none => none
  | some news =>
    let n := news.length / z
    match x with
    | .lit (.slice none 0 0) => if n = 0 then some (.val x [] nx) else if bytes * n ≤ 1000000000 && decide (n ≤ 1000000000) then some (.val (.sl nx 0 z n) [(nx, some (.cells (e, 1) news))] (nx + 1)) else none
    | .sl r o z' len => if z' = z then match G r with
        | some (.cells ty cs) => if n = 0 then some (.val x [] nx) else
          if o + len * z ≤ cs.length then
            if o + (len + n) * z ≤ cs.length then some (.val (.sl r o z (len + n)) [(r, some (.cells ty (setC (o + len * z) news cs)))] nx)
            else if bytes * (len + n) ≤ 1000000000 && decide (len + n ≤ 1000000000 ∧ (len + n) * z ≠ 1 ∧ ty.1 = e) then some (.val (.sl nx 0 z (len + n)) [(r, none), (nx, some (.cells (e, max 1 ty.2) ((cs.drop o).take (len * z) ++ news)))] (nx + 1)) else none
          else none
        | _ => none
      else none
    | _ => none

/-- as many zeros as a number says, behind nothing -/
def appZ (P : Program) (nx : Nat) (e : TypeId) (i : TypeInfo) (t' : TypeId) (x y : V) : Option Eff :=
  match P.underlying t', x, y, zeroV P e with
  | some (.int _), .lit (.slice none 0 0), .lit (.int _ n), some zs =>
    if (0 < n ∧ n ≤ 1000000) ∧ (0 < i.size ∧ i.bytes ≤ 1000000) ∧ zs.size = i.size ∧ oks ((Builtin.zeroCells zs n.toNat).toList.map .lit) = true then some (.val (.sl nx 0 i.size n.toNat) [(nx, some (.cells (e, 1) ((Builtin.zeroCells zs n.toNat).toList.map .lit)))] (nx + 1)) else none
  | _, _, _, _ => none
def clearE (P : Program) (G : Nat → Option Ob) (nx r off z len : Nat) (e : TypeId) : Option Eff :=
  if len = 0 then some (.val (.lit undef) [] nx) else
  match zeroV P e, G r with
  | some zs, some (.cells ty cs) =>
    let new := (Builtin.zeroCells zs len).toList.map V.lit
    if off + new.length ≤ cs.length ∧ oks new = true then some (.val (.lit undef) [(r, some (.cells ty (setC off new cs)))] nx) else none
  | _, _ => none
def copyE (G : Nat → Option Ob) (nx r off z len : Nat) (y : V) : Option Eff :=
  if z = 0 then none else
  match newsOf G z y, G r with
  | some news, some (.cells ty cs) =>
    let n := min (news.length / z) len
    if off + len * z ≤ cs.length then some (.val (.lit (.int .i64 n)) [(r, some (.cells ty (setC off (news.take (n * z)) cs)))] nx) else none
  | _, _ => none
def zeroOk (i : TypeInfo) : Bool := match i.zero with
  | some zv => zv.cells.size == i.size
  | none => false
def isStrT (P : Program) (t : TypeId) : Bool := match P.underlying t with
  | some .string => true
  | _ => false
def notStr : V → Bool
  | .lit (.string _) => false
  | _ => true
def callE (P : Program) (f : V) (args : List V) : Option (FuncId × List V) :=
  match f with
  | .lit (.func (.func g) a b) => if funcOk P g then some (g, a.toList.map .lit ++ args ++ b.toList.map .lit) else none
  | .fn g a b => if funcOk P g then some (g, a ++ args ++ b) else none
  | _ => none
def invT (P : Program) (G : Nat → Option Ob) (t : TypeId) (v : V) (name : String) (args : List V) : Option (FuncId × List V) := match methOf P t name with
  | some (g, d) => if funcOk P g then (recvE P G v d).map fun u => (g, u :: args) else none
  | none => none
def invE (P : Program) (G : Nat → Option Ob) (recv : V) (name : String) (args : List V) : Option (FuncId × List V) :=
  match recv with
  | .ifc t v => invT P G t v name args
  | .lit (.iface t v) => invT P G t (.lit v) name args
  | _ => none

def boundV (x : Option V) (d : Nat) : Option Nat := match x with
  | none => some d
  | some v => match intV v with
    | some n => if 0 ≤ n then some n.toNat else none
    | none => none

/-- an entry of a map is written -/
def mapUE (P : Program) (T : Nat → V) (G : Nat → Option Ob) (nx : Nat) (t : TypeId) (x k y : Operand) : Option Eff :=
  match opV T x, P.underlying t with
    | .mp r, some (.map kt et) => match G r, keyKind P kt, opV T k with
      | some (.map es), some kd, .lit kv => if !keyOk kd kv then none else match findE kd kv es 0 with
        | some (some (i, _)) => some (.val (.lit undef) [(r, some (.map (es.set i (kv, opV T y))))] nx)
        | some none => some (.val (.lit undef) [(r, some (.map (es ++ [(kv, opV T y)])))] nx)
        | none => none
      | _, _, _ => none
    | _, _ => none

/-- bytes -/
def bytesC : List V → Option (List UInt8)
  | [] => some []
  | .lit (.int .u8 n) :: l => match bytesC l, decide (0 ≤ n ∧ n < 256) with
    | some r, true => some (UInt8.ofNat n.toNat :: r)
    | _, _ => none
  | _ => none
def convE (P : Program) (T : Nat → V) (G : Nat → Option Ob) (nx : Nat) (src dst : TypeId) (x : Operand) (o : Oper) : Option Eff :=
  match opV T x, P.underlying src, P.underlying dst with
  | .lit (.string s), some .string, some (.slice e) => match P.underlying e with
    | some (.int .u8) => if s.size ≤ 1000000 then some (.val (.sl nx 0 1 s.size) [(nx, some (.cells (e, 2) (s.data.toList.map fun b => .lit (.int .u8 b.toNat))))] (nx + 1)) else none
    | _ => none
  | .sl r off z len, some (.slice e), some .string => match P.underlying e, G r with
    | some (.int .u8), some (.cells _ cs) => if z = 1 ∧ 0 < len ∧ off + len ≤ cs.length then (bytesC ((cs.drop off).take len)).map fun l => .val (.lit (.string ⟨l.toArray⟩)) [] nx else none
    | _, _ => none
  | _, _, _ => flatE P T nx o
/-- unsafe.String: the row ends -/
def unsStrE (P : Program) (G : Nat → Option Ob) (nx r off : Nat) (n : Int) (t : TypeId) : Option Eff :=
  match P.underlying t, G r with
  | some (.pointer e), some (.cells ty cs) => if (ty.1 = e ∧ P.cellsOf e = 1 ∧ off = 0) ∧ 0 < n ∧ n ≤ 1000000 ∧ n.toNat ≤ cs.length then (bytesC (cs.take n.toNat)).map fun l => .val (.lit (.string ⟨l.toArray⟩)) [(r, none)] nx else none
  | _, _ => none

/-- what an operation comes to, where slots hold T, objects G, and nx is the next name -/
def op1 (P : Program) (T : Nat → V) (G : Nat → Option Ob) (nx : Nat) (o : Oper) : Option Eff :=
  let ev := opV T
  match o.op with
  | .move x | .assign x => some (.val (ev x) [] nx)
  | .pick c x y => match ev c with
    | .lit (.bool t) => some (.val (if t then ev x else ev y) [] nx)
    | _ => none
  | .alloc t => match zeroC P t with
    | some cs => if oks cs then some (.val (.ptr nx 0) [(nx, some (.cells (t, 0) cs))] (nx + 1)) else none
    | none => none
  | .box t x => if oks (ev x).cells then some (.val (.ptr nx 0) [(nx, some (.cells (t, 0) (ev x).cells))] (nx + 1)) else none
  | .build t parts => (buildC P T t parts).map fun v => .val v [] nx
  | .buildSlice t len parts => match P.underlying t with
    | some (.slice e) => match sizeT P e, zeroV P e with
      | some z, some zs => if 0 < z ∧ len = 0 ∧ parts = #[] then some (.val (.sl nx 0 z 0) [(nx, some (.cells (e, 1) []))] (nx + 1)) else if 0 < z ∧ 0 < len ∧ len ≤ 1000000 ∧ len * z ≤ 1000000 then match fillC (fun i => some (i * z, z)) (madeC zs (len * z)) (parts.toList.map fun p => (p.1, ev p.2)) with
          | some cs => if oks cs && cs.length == len * z then some (.val (.sl nx 0 z len) [(nx, some (.cells (e, 1) cs))] (nx + 1)) else none
          | none => none
        else none
      | _, _ => none
    | _ => none
  | .load t x => match ev x, aggT P t, sizeT P t with
    | .ptr r off, some agg, some z => match G r with
      | some (.cells _ cs) => (getC agg z off cs).map fun v => .val v [] nx
      | _ => none
    | _, _, _ => none
  | .store t x y => match ev x, sizeT P t with
    | .ptr r off, some z => match G r with
      | some (.cells ty cs) => if (ev y).cells.length == z && decide (off + z ≤ cs.length) && oks (ev y).cells then some (.val (.lit undef) [(r, some (.cells ty (setC off (ev y).cells cs)))] nx) else none
      | _ => none
    | _, _ => none
  | .nilCheck x => match ev x with
    | .ptr r off => some (.val (.ptr r off) [] nx)
    | .ifc t v => some (.val (.ifc t v) [] nx)
    | .fn f a b => some (.val (.fn f a b) [] nx)
    | .sl r off z len => some (.val (.sl r off z len) [] nx)
    | .mp r => some (.val (.mp r) [] nx)
    | _ => flatE P T nx o
  | .binOp op t x y _ => match flatV P T o with
    | some v => some (.val v [] nx)
    | none => match op, eqA P G (P.underlying t) (ev x) (ev y) with
      | .eql, some b => some (.val (.lit (.bool b)) [] nx)
      | .neq, some b => some (.val (.lit (.bool !b)) [] nx)
      | _, _ => (unV P T o).map fun v => .val v [] nx
  | .fieldAddr s x f => match ev x, P.underlying s with
    | .ptr r off, some (.struct fs) => match fs[f]? with
      | some fl => match sizeT P fl.type with
        | some (_ + 1) => some (.val (.ptr r (off + fl.offset)) [] nx)
        | _ => none
      | none => none
    | _, _ => none
  | .field s x f => match ev x, P.underlying s with
    | .agg cs, some (.struct fs) => match fs[f]? with
      | some fl => match aggT P fl.type, sizeT P fl.type with
        | some agg, some z => (getC agg z fl.offset cs).map fun v => .val v [] nx
        | _, _ => none
      | none => none
    | _, _ => flatE P T nx o
  | .indexAddr t x i => match P.underlying t, ev x, intV (ev i) with
    | some (.slice e), .sl r off z len, some n => if sizeT P e = some z ∧ (0 ≤ n ∧ n < len) ∧ (G r).isSome then some (.val (.ptr r (off + n.toNat * z)) [] nx) else none
    | some (.array len e), .ptr r off, some n => match sizeT P e with
      | some (z + 1) => if 0 ≤ n ∧ n < len then some (.val (.ptr r (off + n.toNat * (z + 1))) [] nx) else none
      | _ => none
    | _, _, _ => none
  | .slice t x lo hi none => match P.underlying t, ev x with
    | some (.slice e), .sl r off z len => match boundV (lo.map ev) 0, boundV (hi.map ev) len with
      | some l, some h => if sizeT P e = some z ∧ l ≤ h ∧ h ≤ len then some (.val (.sl r (off + l * z) z (h - l)) [] nx) else none
      | _, _ => none
    | _, _ => flatE P T nx o
  | .makeMap t r => match r with
    | none => some (.val (.mp nx) [(nx, some (.map []))] (nx + 1))
    | some _ => none
  | .lookup t x k ok => match ev x, P.underlying t with
    | .mp r, some (.map kt et) => match G r, keyKind P kt, ev k, (P.info? et).bind (·.zero) with
      | some (.map es), some kd, .lit kv, some zv => if !keyOk kd kv then none else match findE kd kv es 0 with
        | some (some (_, v)) => some (.val (if ok then .tup [v, .lit (.bool true)] else v) [] nx)
        | some none => some (.val (if ok then .tup [.lit zv, .lit (.bool false)] else .lit zv) [] nx)
        | none => none
      | _, _, _, _ => none
    | _, _ => flatE P T nx o
  | .mapUpdate t x k y => mapUE P T G nx t x k y
  | .insert t x k y => mapUE P T G nx t x k y
  | .convert src dst x => convE P T G nx src dst x o
  | .makeFunc (.func f) a b => some (.val (.fn f (a.toList.map ev) (b.toList.map ev)) [] nx)
  | .makeInterface t x => match P.underlying t with
    | some (.interface _) => none
    | some _ => some (.val (match (ev x).val? with
        | some v => .lit (.iface t v)
        | none => .ifc t (ev x)) [] nx)
    | none => none
  | .makeSlice t x y => match P.underlying t, intV (ev x), intV (ev y) with
    | some (.slice e), some n, some m => match P.info? e, zeroV P e with
      | some i, some zs => if 0 ≤ n ∧ n ≤ m ∧ m ≤ 1000000 ∧ i.bytes ≤ 1000000 ∧ 0 < i.size ∧ oks (madeC zs (m.toNat * i.size)) = true then some (.val (.sl nx 0 i.size n.toNat) [(nx, some (.cells (e, 1) (madeC zs (m.toNat * i.size))))] (nx + 1)) else none
      | _, _ => none
    | _, _, _ => none
  | .extract x i => match ev x with
    | .tup vs => (vs[i]?).map fun v => .val v [] nx
    | _ => flatE P T nx o
  | .typeAssert x xt t ok => match ev x, P.underlying t with
    | .ifc d v, some (.interface want) => match P.info? d with
      | some i => match Instr.missingMethod want i.methods with
        | none => some (.val (if ok then .tup [.ifc d v, .lit (.bool true)] else .ifc d v) [] nx)
        | some _ => none
      | none => none
    | .ifc d v, some _ => if d = t then some (.val (if ok then .tup [v, .lit (.bool true)] else v) [] nx) else none
    | _, _ => flatE P T nx o
  | .call c => match c.callee, c.args.toList.map ev, c.argTypes.toList with
    | .value f, args, _ => match ev f with
      | .yl r => some (.yld r args)
      | v => (callE P v args).map fun q => .call q.1 q.2
    | .invoke f name, args, _ => (invE P G (ev f) name args).map fun q => .call q.1 q.2
    | .builtin .len, [.sl r off z len], [t] => match P.underlying t with
      | some (.slice _) => some (.val (.lit (.int .i64 len)) [] nx)
      | _ => none
    | .builtin .len, [.mp r], [t] => match P.underlying t, G r with
      | some (.map _ _), some (.map es) => some (.val (.lit (.int .i64 es.length)) [] nx)
      | _, _ => none
    | .builtin .append, [x, y], [t, t'] => match P.underlying t with
      | some (.slice e) => match P.info? e with
        | some i => if zeroOk i = true ∧ ((t = t' ∧ notStr y = true) ∨ (isStrT P t' = true ∧ notStr y = false)) then appE G nx e i.size i.bytes x y else appZ P nx e i t' x y
        | none => none
      | _ => none
    | .builtin .unsafeSliceData, [.sl r off z len], _ => if 0 < len ∧ (G r).isSome then some (.val (.ptr r off) [] nx) else none
    | .builtin .unsafeString, [.ptr r off, .lit (.int .i64 n)], [t, _] => unsStrE P G nx r off n t
    | .builtin .clear, [.sl r off z len], [t] => match P.underlying t with
      | some (.slice e) => clearE P G nx r off z len e
      | _ => none
    | .builtin .copy, [.sl r off z len, y], [t, t'] => match P.underlying t with
      | some (.slice e) => if sizeT P e = some z ∧ notStr y = true then copyE G nx r off z len y else none
      | _ => none
    | .builtin .delete, [.mp r, k], [t] => match P.underlying t with
      | some (.map kt et) => match G r, keyKind P kt, k with
        | some (.map es), some kd, .lit kv => if !keyOk kd kv then none else match findE kd kv es 0 with
          | some (some (i, _)) => some (.val (.lit undef) [(r, some (.map (es.eraseIdx i)))] nx)
          | some none => some (.val (.lit undef) [(r, some (.map es))] nx)
          | none => none
        | _, _, _ => none
      | _ => none
    | _, _, _ => flatE P T nx o
  | .defer c => match c.callee, c.args.toList.map ev with
    | .value f, args => (callE P (ev f) args).map fun q => .dfr q.1 q.2
    | _, _ => none
  | _ => flatE P T nx o
end Hm
end Go.Proofs.YtcccaomnehdlbaaDoor
