/-
  A machine with a heap, third part: it runs.
-/
import Derived.Test.YtcccaomnehdlbaaDoorHpB
import Derived.Orders
namespace Go.Proofs.YtcccaomnehdlbaaDoor
open Go.RowKit
set_option linter.unusedVariables false
set_option linter.unusedSimpArgs false
namespace Hm

inductive Tr (α : Type) where
  | lf
  | nd (l : Tr α) (v : Option α) (r : Tr α)
def Tr.get {α : Type} : Tr α → Nat → Option α
  | .lf, _ => none
  | .nd l v r, n => match n with
    | 0 => v
    | k + 1 => match Nat.beq (k % 2) 0 with
      | true => l.get (k / 2)
      | false => r.get (k / 2)
def Tr.set {α : Type} : Nat → Tr α → Nat → Option α → Tr α
  | 0, t, _, _ => t
  | f + 1, .lf, n, x => match n with
    | 0 => .nd .lf x .lf
    | k + 1 => match Nat.beq (k % 2) 0 with
      | true => .nd (Tr.set f .lf (k / 2) x) none .lf
      | false => .nd .lf none (Tr.set f .lf (k / 2) x)
  | f + 1, .nd l v r, n, x => match n with
    | 0 => .nd l x r
    | k + 1 => match Nat.beq (k % 2) 0 with
      | true => .nd (Tr.set f l (k / 2) x) v r
      | false => .nd l v (Tr.set f r (k / 2) x)
def Tr.f (t : Tr V) (n : Nat) : V := (t.get n).getD (.lit undef)
def trOf : List V → Nat → Tr V → Tr V
  | [], _, t => t
  | v :: l, i, t => trOf l (i + 1) (t.set 10 i (some v))

/-- the heap of the machine that runs: objects, the next name, which have been written -/
structure Hx where
  H : Tr Ob
  nx : Nat
  lg : List Nat
structure Sx where
  T : Tr V
  D : List (FuncId × List V)
  h : Hx
inductive XK where
  | normal
  | exit (id : Nat)
  | ret

abbrev CallF := FuncId → List V → Hx → Option (V × Hx)

def upsX (nx nx' : Nat) : List (Nat × Option Ob) → Tr Ob → Option (Tr Ob)
  | [], t => some t
  | p :: l, t => match Nat.blt p.1 nx' && Nat.blt p.1 1000000 with
    | true => match Nat.ble nx p.1 with
      | true => upsX nx nx' l (t.set 20 p.1 p.2)
      | false => match (t.get p.1).isSome with
        | true => upsX nx nx' l (t.set 20 p.1 p.2)
        | false => none
    | false => none
def putX (N : Nat) (o : Oper) (v : V) (T : Tr V) : Option (Tr V) := match o.dst with
  | some d => match Nat.blt d N with
    | true => some (T.set 10 d (some v))
    | false => none
  | none => some T
def wantV (ops : Array Oper) (T : Nat → V) (o : Oper) : Bool := match o.guard with
  | none => true
  | some (j, want) => match (ops[j]?).bind (·.dst) with
    | none => false
    | some t => match T t with
      | .lit (.bool b) => b == want
      | _ => false
/-- is it known whether an operation is wanted? -/
def wantK (ops : Array Oper) (T : Nat → V) (o : Oper) : Bool := match o.guard with
  | none => true
  | some (j, want) => match (ops[j]?).bind (·.dst) with
    | none => true
    | some t => (T t).sure
/-- an operation's value, the calls put off, the heap behind it -/
def effX (P : Program) (C : CallF) (Tf : Nat → V) (ops : Array Oper) (o : Oper) (D : List (FuncId × List V)) (h : Hx) : Option (V × List (FuncId × List V) × Hx) :=
  match wantK ops Tf o with
  | false => none
  | true => match wantV ops Tf o with
    | true => match op1 P Tf h.H.get h.nx o with
      | some (.val v ups nx) => match upsX h.nx nx ups h.H, Nat.ble h.nx nx with
        | some H, true => some (v, D, ⟨H, nx, ups.map (·.1) ++ h.lg⟩)
        | _, _ => none
      | some (.call f args) => match C f args h with
        | some (v, h) => some (v, D, h)
        | none => none
      | some (.dfr f args) => some (.lit undef, (f, args) :: D, h)
      | some (.yld r args) => match C yldId (.yl r :: args) h with
        | some (v, h) => some (v, D, h)
        | none => none
      | none => none
    | false => some (.lit undef, D, h)
def stepX (P : Program) (C : CallF) (N : Nat) (ops : Array Oper) (o : Oper) (s : Sx) : Option Sx :=
  match effX P C s.T.f ops o s.D s.h with
  | some (v, D, h) => match putX N o v s.T with
    | some T => some ⟨T, D, h⟩
    | none => none
  | none => none
def runX (P : Program) (C : CallF) (N : Nat) (ops : Array Oper) : List Oper → Sx → Option Sx
  | [], s => some s
  | o :: l, s => match stepX P C N ops o s with
    | some s => runX P C N ops l s
    | none => none

/-! ### Regions that draw -/
def direct (o : Oper) : List Nat := o.after.toList.filterMap fun e => if Region.binds .any e then some e.on else none
def tb (m j : Nat) : Bool := Nat.beq (Nat.land 1 (Nat.shiftRight m j)) 1
def bit (j : Nat) : Nat := Nat.shiftLeft 1 j
def orT (tab : List Nat) : List Nat → Nat
  | [] => 0
  | j :: l => Nat.lor (Nat.lor (bit j) (tab.getD j 0)) (orT tab l)
def depT : List Oper → List Nat → List Nat
  | [], tab => tab
  | o :: l, tab => depT l (tab ++ [orT tab (direct o)])
def wrX : List Oper → Nat → Tr Nat → Tr Nat
  | [], _, t => t
  | o :: l, k, t => wrX l (k + 1) (match o.dst with
    | some d => t.set 10 d (some k)
    | none => t)
/-- the slots as an operation k may look at them: what it waits for has been laid, what waits for it has not -/
def maskT (W : Tr Nat) (tab : List Nat) (T : Tr V) (k : Nat) (t : Nat) : V := match W.get t with
  | some j => match tb (tab.getD k 0) j with
    | true => T.f t
    | false => match tb (tab.getD j 0) k with
      | true => T.f t
      | false => .any
  | none => T.f t
/-- an operation that must come in its place: its own number, what it wrote, which names it gave -/
structure Ld where
  k : Nat
  lg : List Nat
  a : Nat
  b : Nat
def Ld.hits (x : Ld) (r : Nat) : Bool := (Nat.ble x.a r && Nat.blt r x.b) || x.lg.any fun q => Nat.beq q r
def bad (lds : List Ld) (d nx0 n : Nat) (r : Nat) : Bool :=
  (Nat.ble nx0 r && Nat.blt r (nx0 + n) && !(tb d (r - nx0))) || lds.any fun x => !(tb d x.k) && x.hits r
def maskG (H : Tr Ob) (lds : List Ld) (d nx0 n : Nat) (r : Nat) : Option Ob := match H.get r with
  | some ob => match bad lds d nx0 n r with
    | true => none
    | false => some ob
  | none => none
def loud (o : Oper) : Bool := match o.op with
  | .store .. | .mapUpdate .. | .insert .. | .defer _ => true
  | .call c => match c.callee with
    | .builtin .len | .builtin .cap | .builtin .min | .builtin .max => false
    | _ => true
  | _ => false
structure Dx where
  T : Tr V
  D : List (FuncId × List V)
  h : Hx
  done : Nat
  lds : List Ld
def quietX (P : Program) (Tf : Nat → V) (G : Nat → Option Ob) (ops : Array Oper) (o : Oper) (r : Nat) : Option (V × Option Ob) :=
  match wantK ops Tf o with
  | false => none
  | true => match wantV ops Tf o with
    | true => match op1 P Tf G r o with
      | some (.val v [] nx) => match Nat.ble nx (r + 1) with
        | true => some (v, none)
        | false => none
      | some (.val v [(q, some ob)] nx) => match Nat.ble nx (r + 1), Nat.beq q r with
        | true, true => some (v, some ob)
        | _, _ => none
      | _ => none
    | false => some (.lit undef, none)
def stepD (P : Program) (C : CallF) (N : Nat) (ops : Array Oper) (tab : List Nat) (W : Tr Nat) (nx0 k : Nat) (c : Dx) : Option Dx :=
  match ops[k]? with
  | none => none
  | some o => match tb c.done k with
    | true => none
    | false => match loud o with
      | true => match Nat.beq c.done (tab.getD k 0) with
        | true => match effX P C (maskT W tab c.T k) ops o c.D ⟨c.h.H, c.h.nx, []⟩ with
          | some (v, D, h) => match putX N o v c.T with
            | some T => some ⟨T, D, ⟨h.H, h.nx, h.lg ++ c.h.lg⟩, Nat.lor c.done (bit k), ⟨k, h.lg, c.h.nx, h.nx⟩ :: c.lds⟩
            | none => none
          | none => none
        | false => none
      | false => match Nat.beq (Nat.land (tab.getD k 0) c.done) (tab.getD k 0) with
        | true => match quietX P (maskT W tab c.T k) (maskG c.h.H c.lds (tab.getD k 0) nx0 ops.size) ops o (nx0 + k) with
          | some (v, ob) => match putX N o v c.T with
            | some T => match ob with
              | none => some ⟨T, c.D, c.h, Nat.lor c.done (bit k), c.lds⟩
              | some ob => match Nat.blt (nx0 + k) 1000000 with
                | true => some ⟨T, c.D, ⟨c.h.H.set 20 (nx0 + k) (some ob), c.h.nx, c.h.lg⟩, Nat.lor c.done (bit k), c.lds⟩
                | false => none
            | none => none
          | none => none
        | false => none
def runD (P : Program) (C : CallF) (N : Nat) (ops : Array Oper) (tab : List Nat) (W : Tr Nat) (nx0 : Nat) : List Nat → Dx → Option Dx
  | [], c => some c
  | k :: l, c => match stepD P C N ops tab W nx0 k c with
    | some c => runD P C N ops tab W nx0 l c
    | none => none
/-- the order: ahead of what must come in its place just what it waits for -/
def ordG (tab all : List Nat) : List Nat → Nat → List Nat
  | [], done => all.filter fun j => !(tb done j)
  | l :: ls, done => (all.filter fun j => tb (tab.getD l 0) j && !(tb done j)) ++ l :: ordG tab all ls (Nat.lor done (Nat.lor (tab.getD l 0) (bit l)))
def ordL (ops : Array Oper) (tab : List Nat) : List Nat :=
  ordG tab (List.range ops.size) ((List.range ops.size).filter fun j => match ops[j]? with
    | some o => loud o
    | none => false) 0
def hedgeB : List Oper → Nat → Bool
  | [], _ => true
  | o :: l, k => (direct o).all (fun j => Nat.blt j k) && hedgeB l (k + 1)
def soleB (W : Tr Nat) : List Oper → Nat → Bool
  | [], _ => true
  | o :: l, k => (match o.dst with
    | some t => match W.get t with
      | some j => Nat.beq j k && Nat.blt t 1000
      | none => false
    | none => true) && soleB W l (k + 1)
def regD (P : Program) (C : CallF) (N : Nat) (ops : Array Oper) (s : Sx) : Option Sx :=
  let tab := depT ops.toList []
  let W := wrX ops.toList 0 .lf
  match hedgeB ops.toList 0 && soleB W ops.toList 0 with
  | true => match runD P C N ops tab W s.h.nx (ordL ops tab) ⟨s.T, s.D, ⟨s.h.H, s.h.nx + ops.size, s.h.lg⟩, 0, []⟩ with
    | some c => match Nat.beq (c.done + 1) (bit ops.size) with
      | true => some ⟨c.T, c.D, c.h⟩
      | false => none
    | none => none
  | false => none

/-! ### Code, functions -/
def loopX (F : Sx → Option (XK × Sx)) : Nat → Sx → Option (XK × Sx)
  | 0, _ => none
  | n + 1, s => match F s with
    | some (.normal, s) => loopX F n s
    | r => r
/-- the slots of a frame, as a list -/
def slotsX (T : Tr V) (N : Nat) : List V := (List.range N).map T.f
/-- a frame's slots, yield's arguments in the loop's variables -/
def parsX : List Nat → List V → Tr V → Tr V
  | t :: ps, v :: vs, T => parsX ps vs (T.set 10 t (some v))
  | _, _, T => T
def exeX (P : Program) (C : CallF) (N : Nat) : Nat → Code → Sx → Option (XK × Sx)
  | 0, _, _ => none
  | n + 1, .skip, s => some (.normal, s)
  | n + 1, .label _, s => some (.normal, s)
  | n + 1, .region id ops draw, s => match (match draw with
      | true => regD P C N ops s
      | false => runX P C N ops ops.toList s) with
    | some s => some (.normal, s)
    | none => none
  | n + 1, .seq a b, s => match exeX P C N n a s with
    | some (.normal, s) => exeX P C N n b s
    | r => r
  | n + 1, .cond c a b, s => match opV s.T.f c with
    | .lit (.bool true) => exeX P C N n a s
    | .lit (.bool false) => exeX P C N n b s
    | _ => none
  | n + 1, .block id b, s => match exeX P C N n b s with
    | some (.exit j, s) => match Nat.beq j id with
      | true => some (.normal, s)
      | false => some (.exit j, s)
    | r => r
  | n + 1, .loop b, s => loopX (exeX P C N n b) n s
  | n + 1, .exit id, s => some (.exit id, s)
  | n + 1, .ret, s => some (.ret, s)
  | n + 1, .rangeFunc g ps asg bd, s => match Nat.blt (s.h.nx + 1) 1000000, callE P (opV s.T.f g) [.yl (s.h.nx + 1)] with
    | true, some (f, args) => match C f args ⟨(s.h.H.set 20 s.h.nx (some .defd)).set 20 (s.h.nx + 1) (some (.loop (slotsX s.T N) ps.toList asg bd false)), s.h.nx + 2, s.h.lg⟩ with
      | some (_, h) => match h.H.get (s.h.nx + 1) with
        | some (.loop _ _ _ _ false) => some (.normal, ⟨s.T, (mkId, [.yl s.h.nx]) :: s.D, ⟨h.H.set 20 (s.h.nx + 1) none, h.nx, (s.h.nx + 1) :: h.lg⟩⟩)
        | _ => none
      | none => none
    | _, _ => none
  | n + 1, _, s => none
def resX (P : Program) (T : Tr V) (H : Tr Ob) : ResultVar → Option V
  | .tmp t => some (T.f t)
  | .cell a t => match T.f a, aggT P t, sizeT P t with
    | .ptr r o, some agg, some z => match H.get r with
      | some (.cells _ cs) => getC agg z o cs
      | _ => none
    | _, _, _ => none
def ressX (P : Program) (T : Tr V) (H : Tr Ob) : List ResultVar → Option (List V)
  | [] => some []
  | r :: l => match resX P T H r, ressX P T H l with
    | some v, some vs => some (v :: vs)
    | _, _ => none
def dfrX (F : FuncId → List V → Hx → Option Hx) : List (FuncId × List V) → Hx → Option Hx
  | [], h => some h
  | d :: l, h => match Nat.beq d.1 mkId with
    | true => match d.2 with
      | [.yl r] => match h.H.get r, Nat.blt r 1000000 && Nat.blt r h.nx with
        | some .defd, true => dfrX F l ⟨h.H.set 20 r none, h.nx, r :: h.lg⟩
        | _, _ => none
      | _ => none
    | false => match F d.1 d.2 h with
      | some h => dfrX F l h
      | none => none
/-- does code put off no call? -/
def noDfr (o : Oper) : Bool := match o.op with
  | .defer _ => false
  | _ => true
def noDfrC : Code → Bool
  | .region _ ops _ => ops.toList.all noDfr
  | .seq a b => noDfrC a && noDfrC b
  | .cond _ a b => noDfrC a && noDfrC b
  | .block _ b => noDfrC b
  | .loop b => noDfrC b
  | .rangeFunc .. => false
  | _ => true
/-- a round of a range over a function -/
def rndX (P : Program) (C : CallF) (n : Nat) (args : List V) (h : Hx) : Option (V × Hx) := match args with
  | .yl r :: vs => match h.H.get r with
    | some (.loop ts ps asg bd false) => match (Nat.beq vs.length ps.length && (ps.all fun t => Nat.blt t ts.length)) && (Nat.ble ts.length 1000 && ((Nat.blt r 1000000 && Nat.blt r h.nx) && (noDfrC asg && noDfrC bd))) with
      | true => match exeX P C ts.length n asg ⟨parsX ps vs (trOf ts 0 .lf), [], h⟩ with
        | some (.normal, s1) => match s1.h.H.get r with
          | some (.loop ts2 ps2 as2 bd2 false) => match exeX P C ts.length n bd ⟨s1.T, s1.D, ⟨s1.h.H.set 20 r (some (.loop ts2 ps2 as2 bd2 true)), s1.h.nx, r :: s1.h.lg⟩⟩ with
            | some (.normal, s2) => match s2.h.H.get r with
              | some (.loop ts3 ps3 as3 bd3 true) => some (.lit (.bool true), ⟨s2.h.H.set 20 r (some (.loop ts3 ps3 as3 bd3 false)), s2.h.nx, r :: s2.h.lg⟩)
              | _ => none
            | _ => none
          | _ => none
        | _ => none
      | false => none
    | _ => none
  | _ => none
def bodyX (P : Program) (C : CallF) (n : Nat) (f : FuncId) (args : List V) (h : Hx) : Option (Func × Sx) :=
  match P.funcs[f]? with
  | some fn => match fn.body with
    | some c => match Nat.ble args.length fn.ntmps && (Nat.ble fn.ntmps 1000 && Nat.ble fn.results.size 3) with
      | true => match exeX P C fn.ntmps n c ⟨trOf args 0 .lf, [], h⟩ with
        | some (.normal, s) => some (fn, s)
        | some (.ret, s) => some (fn, s)
        | _ => none
      | false => none
    | none => none
  | none => none
def dcallX (P : Program) (C : CallF) (n : Nat) (f : FuncId) (args : List V) (h : Hx) : Option Hx := match funcOk P f with
  | true => match bodyX P C n f args h with
    | some (fn, s) => match s.D, ressX P s.T s.h.H fn.results.toList with
      | [], some _ => some s.h
      | _, _ => none
    | none => none
  | false => none
def tupX : List V → V
  | [v] => v
  | vs => .tup vs
def callX (P : Program) (X : CallF) : Nat → CallF
  | 0, _, _, _ => none
  | n + 1, f, args, h => match Nat.beq f yldId with
   | true => rndX P (callX P X n) n args h
   | false => match X f args h with
    | some r => some r
    | none => match bodyX P (callX P X n) n f args ⟨h.H, h.nx, []⟩ with
      | some (fn, s) => match dfrX (dcallX P (callX P X n) n) s.D s.h with
        | some h' => match ressX P s.T h'.H fn.results.toList with
          | some vs => some (tupX vs, ⟨h'.H, h'.nx, (h'.lg.filter fun q => Nat.blt q h.nx) ++ h.lg⟩)
          | none => none
        | none => none
      | none => none
end Hm
end Go.Proofs.YtcccaomnehdlbaaDoor
