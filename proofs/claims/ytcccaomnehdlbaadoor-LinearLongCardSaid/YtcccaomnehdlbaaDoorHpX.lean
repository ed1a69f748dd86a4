/-
  A machine with a heap: what the library's functions come to, as the machine takes them: a map's keys in order.
-/
import Derived.Test.YtcccaomnehdlbaaDoorHpC
import Derived.Lib.Bytealg
namespace Go.Proofs.YtcccaomnehdlbaaDoor
open Go.RowKit
set_option linter.unusedVariables false
namespace Hm
def noX : CallF := fun _ _ _ => none
def orX (X Y : CallF) : CallF := fun f args h => match X f args h with
  | some r => some r
  | none => Y f args h
def insI (n : Int) : List Int → List Int
  | [] => [n]
  | m :: l => match decide (n ≤ m) with
    | true => n :: m :: l
    | false => m :: insI n l
def srtI : List Int → List Int
  | [] => []
  | n :: l => insI n (srtI l)
def intsE : List (Value × V) → Option (List Int)
  | [] => some []
  | (.int .i64 n, _) :: es => match intsE es, decide (-9223372036854775808 ≤ n ∧ n ≤ 9223372036854775807) with
    | some l, true => some (n :: l)
    | _, _ => none
  | _ => none
def mkI (tI : TypeId) (h : Hx) (l : List Int) : Option (V × Hx) := match Nat.blt h.nx 1000000, Nat.ble l.length 1000000, Nat.blt 0 l.length with
  | true, true, true => some (.sl h.nx 0 1 l.length, ⟨h.H.set 20 h.nx (some (.cells (tI, 1) (l.map fun n => .lit (.int .i64 n)))), h.nx + 1, h.lg⟩)
  | _, _, _ => none
/-- slices.Sorted at maps.Keys of a map whose keys are whole numbers: fS: slices.Sorted[int], fK: maps.Keys[..]$1 -/
def keysX (tI : TypeId) (fS fK : FuncId) : CallF := fun f args h => match Nat.beq f fS with
  | true => match args with
    | [.fn g [] [.ptr r 0]] => match Nat.beq g fK, h.H.get r with
      | true, some (.cells _ [.mp q]) => match h.H.get q with
        | some (.map es) => match intsE es with
          | some l => mkI tI h (srtI l)
          | none => none
        | _ => none
      | _, _ => none
    | _ => none
  | false => none
def leB : List UInt8 → List UInt8 → Bool
  | [], _ => true
  | _ :: _, [] => false
  | x :: a, y :: b => match Nat.blt x.toNat y.toNat with
    | true => true
    | false => match Nat.beq x.toNat y.toNat with
      | true => leB a b
      | false => false
def insS (n : ByteArray) : List ByteArray → List ByteArray
  | [] => [n]
  | m :: l => match leB n.data.toList m.data.toList with
    | true => n :: m :: l
    | false => m :: insS n l
def srtS : List ByteArray → List ByteArray
  | [] => []
  | n :: l => insS n (srtS l)
def keysE : List (Value × V) → Option (List ByteArray)
  | [] => some []
  | (.string n, _) :: es => match keysE es, Nat.ble n.size 1000000 with
    | some l, true => some (n :: l)
    | _, _ => none
  | _ => none
def mkS (tS : TypeId) (h : Hx) (l : List ByteArray) : Option (V × Hx) := match Nat.blt h.nx 1000000, Nat.ble l.length 1000000, Nat.blt 0 l.length with
  | true, true, true => some (.sl h.nx 0 1 l.length, ⟨h.H.set 20 h.nx (some (.cells (tS, 1) (l.map fun n => .lit (.string n)))), h.nx + 1, h.lg⟩)
  | true, true, false => some (.lit (.slice none 0 0), h)
  | _, _, _ => none
/-- slices.Sorted at maps.Keys of a map whose keys are texts -/
def keysS (tS : TypeId) (fS fK : FuncId) : CallF := fun f args h => match Nat.beq f fS with
  | true => match args with
    | [.fn g [] [.ptr r 0]] => match Nat.beq g fK, h.H.get r with
      | true, some (.cells _ [.mp q]) => match h.H.get q with
        | some (.map es) => match keysE es with
          | some l => mkS tS h (srtS l)
          | none => none
        | _ => none
      | _, _ => none
    | _ => none
  | false => none
/-- texts that a slice holds -/
def strsC : List V → Option (List ByteArray)
  | [] => some []
  | .lit (.string s) :: l => match strsC l with
    | some r => some (s :: r)
    | none => none
  | _ => none
def strsV (G : Nat → Option Ob) : V → Option (List ByteArray)
  | .sl r o z len => match Nat.beq z 1 && Nat.blt 0 len, G r with
    | true, some (.cells _ cs) => match Nat.ble (o + len) cs.length with
      | true => strsC ((cs.drop o).take len)
      | false => none
    | _, _ => none
  | _ => none
def joinB (sep : List UInt8) : List ByteArray → List UInt8
  | [] => []
  | [s] => s.data.toList
  | s :: l => s.data.toList ++ sep ++ joinB sep l
/-- strings.Join -/
def joinX (fJ : FuncId) : CallF := fun f args h => match Nat.beq f fJ with
  | true => match args with
    | [v, .lit (.string sep)] => match strsV h.H.get v with
      | some l => match Nat.ble (joinB sep.data.toList l).length 1000000 && Nat.ble l.length 1000000 with
        | true => some (.lit (.string ⟨(joinB sep.data.toList l).toArray⟩), h)
        | false => none
      | none => none
    | _ => none
  | false => none
/-- strings.Index at a text of one byte -/
def indexX (fI : FuncId) : CallF := fun f args h => match Nat.beq f fI with
  | true => match args with
    | [.lit (.string s), .lit (.string sub)] => match sub.data.toList with
      | [c] => some (.lit (.int .i64 (Lib.indexByte s.data.toList c)), h)
      | _ => none
    | _ => none
  | false => none
/-- strings.Count at a text of one byte -/
def countX (fI : FuncId) : CallF := fun f args h => match Nat.beq f fI with
  | true => match args with
    | [.lit (.string s), .lit (.string sub)] => match sub.data.toList with
      | [c] => some (.lit (.int .i64 (Lib.countByte s.data.toList c)), h)
      | _ => none
    | _ => none
  | false => none
/-- (*strings.Builder).copyCheck -/
def cckX (T : TypeId) (fC : FuncId) : CallF := fun f args h => match Nat.beq f fC with
  | true => match args with
    | [.ptr r 0] => match h.H.get r, Nat.blt r h.nx && Nat.blt r 1000000 with
      | some (.cells (T', 0) [c0, c1]), true => match Nat.beq T' T with
        | true => match c0 with
          | .lit (.pointer none) => some (.tup [], ⟨h.H.set 20 r (some (.cells (T', 0) [.ptr r 0, c1])), h.nx, r :: h.lg⟩)
          | .ptr r' 0 => match Nat.beq r' r with
            | true => some (.tup [], h)
            | false => none
          | _ => none
        | false => none
      | _, _ => none
    | _ => none
  | false => none
/-- strings.IndexByte -/
def byteX (fI : FuncId) : CallF := fun f args h => match Nat.beq f fI with
  | true => match args with
    | [.lit (.string s), .lit (.int .u8 c)] => some (.lit (.int .i64 (Lib.indexByte s.data.toList c.toNat.toUInt8)), h)
    | _ => none
  | false => none
end Hm
end Go.Proofs.YtcccaomnehdlbaaDoor
