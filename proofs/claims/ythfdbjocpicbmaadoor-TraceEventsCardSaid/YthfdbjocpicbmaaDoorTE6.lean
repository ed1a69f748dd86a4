/-
  Part 6 of a proof: AmR, Glue, NdA, Shelf.
-/
import Derived.SizedLaws
import Derived.OpenShut
import Derived.IntWalk
import Derived.Shelf.Strings.Builder1
import Derived.Shelf.Strings.Builder2
import Derived.Shelf.Strings.OnBuilder
import Derived.Shelf.Small.Strs
import Derived.Shelf.Strings.BuilderF
import Derived.Shelf.Strings.BuilderK
import Derived.Shelf.Utf8.RuneCount
import Derived.Shelf.Strconv.Itoa0
import Derived.Shelf.Strconv.Itoa1
import Derived.Shelf.LaysM
import Derived.Shelf.Strconv.Itoa2
import Derived.Shelf.Strconv.Itoa3
import Derived.Shelf.Strings.Search1
import Derived.Shelf.Strings.Search2
import Derived.Shelf.Strings.Search3
import Derived.Shelf.Strings.Cut
import Derived.Shelf.Strings.Count
import Derived.Shelf.Strings.Shaped
import Derived.Shelf.Strings.Split
import Derived.Shelf.Bits.Mul64
import Derived.Shelf.Unicode.DecodeSlow
import Derived.Shelf.Unicode.DecodeAny
import Derived.Test.YthfdbjocpicbmaaDoorProg
import Derived.Test.YthfdbjocpicbmaaDoorTE5
section
/-
  The plain machine, eighteenth part: its rules in few theorems.
-/
namespace Go.Proofs.YthfdbjocpicbmaaDoor
set_option linter.unusedVariables false
theorem ev0 :
  (∀ (C : FuncId → List AV → AV → Prop) (Q : XK → St → Prop) (σ : St), run C .skip Q σ = Q .normal σ) ∧
  (∀ (C : FuncId → List AV → AV → Prop) (g : Reg) (Q : XK → St → Prop) (σ : St), run C (.reg g) Q σ = runReg C g σ (Q .normal)) ∧
  (∀ (C : FuncId → List AV → AV → Prop) (x y : IR) (Q : XK → St → Prop) (σ : St), run C (.seq x y) Q σ = run C x (thenQ (run C y Q) Q) σ) ∧
  (∀ (C : FuncId → List AV → AV → Prop) (c : IOpd) (x y : IR) (Q : XK → St → Prop) (σ : St), run C (.cond c x y) Q σ = ((σ.get c).isB = true ∧ if (σ.get c).bv = true then run C x Q σ else run C y Q σ)) ∧
  (∀ (C : FuncId → List AV → AV → Prop) (id : Nat) (b : IR) (Q : XK → St → Prop) (σ : St), run C (.block id b) Q σ = run C b (blockQ id Q) σ) ∧
  (∀ (C : FuncId → List AV → AV → Prop) (b : IR) (Q : XK → St → Prop) (σ : St), run C (.loop b) Q σ = awp C (.loop b) Q σ) ∧
  (∀ (C : FuncId → List AV → AV → Prop) (id : Nat) (Q : XK → St → Prop) (σ : St), run C (.exit id) Q σ = Q (.exit id) σ) ∧
  (∀ (C : FuncId → List AV → AV → Prop) (Q : XK → St → Prop) (σ : St), run C .ret Q σ = Q .ret σ) ∧
  (∀ (C : FuncId → List AV → AV → Prop) (σ : St) (K : St → Prop), runOps C [] σ K = K σ) ∧
  (∀ (C : FuncId → List AV → AV → Prop) (io : IOp) (d : Nat) (hid wr : List Nat) (l : List ROp) (σ : St) (K : St → Prop), runOps C (⟨io, some d, none, hid, wr⟩ :: l) σ K = runOp C (runOps C l) K σ d hid io) ∧
  (∀ (C : FuncId → List AV → AV → Prop) (z : Nat) (p x : IOpd) (hid wr : List Nat) (l : List ROp) (σ : St) (K : St → Prop), runOps C (⟨.store z p x, none, none, hid, wr⟩ :: l) σ K = (stOk σ z (σ.get x) (σ.get p) ∧ runOps C l (stSt σ z (σ.get x) (σ.get p)) K)) ∧
  (∀ (C : FuncId → List AV → AV → Prop) (io : IOp) (d t : Nat) (w : Bool) (hid wr : List Nat) (l : List ROp) (σ : St) (K : St → Prop), runOps C (⟨io, some d, some (t, w), hid, wr⟩ :: l) σ K = (gB (σ.T t) = true ∧ if gIs w (σ.T t) = true then runOp C (runOps C l) K (σ.set t (.bool w)) d hid io else runOps C l ((if (σ.T t).isB then σ.set t (.bool (!w)) else σ).set d (.tup [])) K)) :=
  ⟨run_skip, run_reg, run_seq, run_cond, run_block, run_loop', run_exit, run_ret, runOps_nil, runOps_op, runOps_st, runOps_g⟩
theorem ev1 :
  (∀ (C : FuncId → List AV → AV → Prop) (F0 : List Nat) (tl : List ROp) (σ : St) (K : St → Prop), runHead C F0 tl [] σ K = runOps C tl σ K) ∧
  (∀ (C : FuncId → List AV → AV → Prop) (F0 : List Nat) (tl : List ROp) (io : IOp) (d : Nat) (hid wr : List Nat) (l : List ROp) (σ : St) (K : St → Prop), runHead C F0 tl (⟨io, some d, none, hid, wr⟩ :: l) σ K = headOp C F0 (runHead C F0 tl l) K σ d hid io) ∧
  (∀ (C : FuncId → List AV → AV → Prop) (F0 : List Nat) (tl : List ROp) (io : IOp) (d t : Nat) (w : Bool) (hid wr : List Nat) (l : List ROp) (σ : St) (K : St → Prop), runHead C F0 tl (⟨io, some d, some (t, w), hid, wr⟩ :: l) σ K = (gB (σ.T t) = true ∧ if gIs w (σ.T t) = true then headOp C F0 (runHead C F0 tl l) K (σ.set t (.bool w)) d hid io else runHead C F0 tl l ((if (σ.T t).isB then σ.set t (.bool (!w)) else σ).set d (.tup [])) K)) ∧
  (∀ (C : FuncId → List AV → AV → Prop) (F0 : List Nat) (tl : List ROp) (z : Nat) (p x : IOpd) (hid wr : List Nat) (l : List ROp) (σ : St) (K : St → Prop), runHead C F0 tl (⟨.store z p x, none, none, hid, wr⟩ :: l) σ K = (stHOk F0 hid wr σ z (σ.get x) (σ.get p) ∧ runHead C F0 tl l (stHSt σ z (σ.get x) (σ.get p)) K)) ∧
  (∀ (σ : St), σ.kills [] = σ) ∧
  (∀ (σ : St) (r : Nat) (l : List Nat), σ.kills (r :: l) = (σ.kill r).kills l) ∧
  (∀ (σ : St) (r t : Nat), (σ.kill r).T t = if (σ.T t).name = some r then .und else σ.T t) ∧
  (∀ (σ : St) (r s : Nat), (σ.kill r).H s = if s = r then none else σ.H s) ∧
  (∀ (σ : St), σ.fzs [] = σ) ∧
  (∀ (σ : St) (r : Nat) (l : List Nat), σ.fzs (r :: l) = (σ.fz r).fzs l) ∧
  (∀ (σ : St) (r t : Nat), (σ.fz r).T t = σ.T t) ∧
  (∀ (σ : St) (r s : Nat), (σ.fz r).H s = if s = r then (σ.H r).map Arr.freeze else σ.H s) :=
  ⟨runHead_nil, runHead_op, runHead_g, runHead_st, kills_nil, kills_cons, kill_T, kill_H, fzs_nil, fzs_cons, fz_T', fz_H'⟩
theorem ev2 :
  (∀ (σ : St) (t : Nat), σ.get (.t t) = σ.T t) ∧
  (∀ (σ : St) (v : AV), σ.get (.c v) = v) ∧
  (∀ (σ : St) (t s : Nat) (v : AV) (o : Option Arr), (σ.made t v o).T s = if s = t then v else σ.T s) ∧
  (∀ (σ : St) (t s : Nat) (v : AV), (σ.made t v none).H s = σ.H s) ∧
  (∀ (σ : St) (t s : Nat) (v : AV) (arr : Arr), (σ.made t v (some arr)).H s = if s = t then some arr else σ.H s) ∧
  (∀ (σ : St) (t s : Nat) (v : AV), (σ.set t v).T s = if s = t then v else σ.T s) ∧
  (∀ (σ : St) (t : Nat) (v : AV), (σ.set t v).H = σ.H) ∧
  (∀ (T : Nat → AV) (r t : Nat), sweep T r t = if (T t).name = some r then .und else T t) ∧
  (∀ (args : List AV) (t : Nat), (initSt args).T t = args.getD t .und) ∧
  (∀ (args : List AV) (t : Nat), (initSt args).H t = none) ∧
  (∀ (K : St → Prop) (Q : XK → St → Prop) (σ : St), thenQ K Q .normal σ = K σ) ∧
  (∀ (K : St → Prop) (Q : XK → St → Prop) (σ : St), thenQ K Q .ret σ = Q .ret σ) :=
  ⟨get_t, get_c, made_T, made_H_none, made_H_some, set_T, set_H, sweep_at, init_T, init_H, thenQ_normal, thenQ_ret⟩
theorem ev3 :
  (∀ (K : St → Prop) (Q : XK → St → Prop) (i : Nat) (σ : St), thenQ K Q (.exit i) σ = Q (.exit i) σ) ∧
  (∀ (i : Nat) (Q : XK → St → Prop) (σ : St), blockQ i Q .normal σ = Q .normal σ) ∧
  (∀ (i : Nat) (Q : XK → St → Prop) (σ : St), blockQ i Q .ret σ = Q .ret σ) ∧
  (∀ (i j : Nat) (Q : XK → St → Prop) (σ : St), blockQ i Q (.exit j) σ = if j = i then Q .normal σ else Q (.exit j) σ) ∧
  (∀ (ds : List RDesc) (r : AV) (σ : St), endQ ds r .ret σ = retV ds r σ) ∧
  (∀ (ds : List RDesc) (r : AV) (σ : St), endQ ds r .normal σ = retV ds r σ) ∧
  (∀ (hid : List Nat) (r i f : Nat), nameOk hid (.ptr r i f) = !hid.contains r) ∧
  (∀ (hid : List Nat) (r i f : Nat), nameOk hid (.rs r i f) = !hid.contains r) ∧
  (∀ (z ty : Nat) (l : List AV) (p : Nat), Arr.freeze ⟨z, ty, l, p⟩ = ⟨z, ty, l, l.length⟩) ∧
  (∀ (σ : St) (z ty bytes : Nat) (v : AV) (r len : Nat), apOk σ z ty bytes v (.rs r 0 len) = (byOk [] σ v ∧ (byVal σ v).isSl = true ∧ (σ.H r).isSome = true ∧ objZ (σ.H r) = z ∧ objTy' (σ.H r) = ty ∧ objProt ((σ.fzs (byFz v)).H r) ≤ len ∧ fitsV (len + (slOf (byVal σ v)).length) bytes ∧ r < 1000 ∧ ∀ d, d ∈ slOf (byVal σ v) → d.cells.length = z ∧ d.cells.all AV.one = true)) :=
  ⟨thenQ_exit, blockQ_normal, blockQ_ret, blockQ_exit, endQ_ret, endQ_normal, nameOk_ptr', nameOk_rs', freeze_mk, apOk_rs⟩
theorem ev4 :
  (∀ (C : FuncId → List AV → AV → Prop) (P : Program) (l : List XOp) (Q : XK → St → Prop) (σ : St), run C (.regx P l) Q σ = runXs P C l σ (Q .normal)) ∧
  (∀ (P : Program) (C : FuncId → List AV → AV → Prop) (σ : St) (K : St → Prop), runXs P C [] σ K = K σ) ∧
  (∀ (P : Program) (C : FuncId → List AV → AV → Prop) (k : List Nat) (r : ROp) (l : List XOp) (σ : St) (K : St → Prop), runXs P C (.op k r :: l) σ K = runOps C [r] (σ.kills k) fun σ' => runXs P C l σ' K) ∧
  (∀ (P : Program) (C : FuncId → List AV → AV → Prop) (d : Nat) (x : IOpd) (l : List XOp) (σ : St) (K : St → Prop), runXs P C (.nilck d x none :: l) σ K = (ckOk σ (σ.get x) ∧ runXs P C l (σ.set d (σ.get x)) K)) ∧
  (∀ (P : Program) (C : FuncId → List AV → AV → Prop) (d : Nat) (x : IOpd) (t : Nat) (w : Bool) (l : List XOp) (σ : St) (K : St → Prop), runXs P C (.nilck d x (some (t, w)) :: l) σ K = (gB (σ.T t) = true ∧ if gIs w (σ.T t) = true then ckOk (σ.set t (.bool w)) ((σ.set t (.bool w)).get x) ∧ runXs P C l ((σ.set t (.bool w)).set d ((σ.set t (.bool w)).get x)) K else runXs P C l ((if (σ.T t).isB then σ.set t (.bool (!w)) else σ).set d (.tup [])) K)) ∧
  (∀ (P : Program) (C : FuncId → List AV → AV → Prop) (d : Nat) (f : FuncId) (x : IOpd) (l : List XOp) (σ : St) (K : St → Prop), runXs P C (.mkclo d f x :: l) σ K = (cloOk σ (σ.get x) ∧ runXs P C l (σ.set d (.clom f (ptrAt (σ.get x)))) K)) ∧
  (∀ (P : Program) (C : FuncId → List AV → AV → Prop) (d : Nat) (fx : IOpd) (xs : List IOpd) (l : List XOp) (σ : St) (K : St → Prop), runXs P C (.mcall d fx xs :: l) σ K = (mOks σ (xs.map σ.get) ∧ mCalOk (σ.fzs (mFzs (xs.map σ.get))) (σ.get fx) ∧ MCalling P (mFn (σ.get fx)) (mArgs (mVals σ (xs.map σ.get)) (σ.get fx)) σ.T (σ.fzs (mFzs (xs.map σ.get))).H d (runXs P C l) K)) ∧
  (∀ (hid : List Nat) (f : FuncId) (r : Nat), nameOk hid (.clom f r) = !hid.contains r) ∧
  (∀ (args : List AV) (H : Nat → Option Arr) (t : Nat), (initM args H).T t = sh (args.getD t .und)) ∧
  (∀ (args : List AV) (H : Nat → Option Arr), (initM args H).H = shH H) ∧
  (∀ (H : Nat → Option Arr) (r : Nat), shH H (r + 1000) = H r) ∧
  (∀ (ds : List RDesc) (r : AV) (H' : Nat → Option Arr) (σ : St), endM ds r H' .ret σ = retM ds r H' σ) ∧
  (∀ (ds : List RDesc) (r : AV) (H' : Nat → Option Arr) (σ : St), endM ds r H' .normal σ = retM ds r H' σ) ∧
  (∀ (f : FuncId) (r : Nat), (AV.clom f r).name = some r) ∧
  (∀ (f : FuncId) (r : Nat), (AV.clom f r).isC = false) :=
  ⟨run_regx, runXs_nil, runXs_op, runXs_nilck, runXs_nilckg, runXs_mkclo, runXs_mcall, nameOk_clom, initM_T, initM_H, shH_big, endM_ret, endM_normal, fun _ _ => rfl, fun _ _ => rfl⟩
theorem evA :
  (∀ (k : IntKind) (n : Int), (AV.int k n).isI = true) ∧
  (∀ (k : IntKind) (n : Int), (AV.int k n).isB = false) ∧
  (∀ (k : IntKind) (n : Int), (AV.int k n).isS = false) ∧
  (∀ (k : IntKind) (n : Int), (AV.int k n).isA = false) ∧
  (∀ (k : IntKind) (n : Int), (AV.int k n).isTu = false) ∧
  (∀ (k : IntKind) (n : Int), (AV.int k n).isC = false) ∧
  (∀ (b : Bool), (AV.bool b).isI = false) ∧
  (∀ (b : Bool), (AV.bool b).isB = true) ∧
  (∀ (b : Bool), (AV.bool b).isS = false) ∧
  (∀ (b : Bool), (AV.bool b).isA = false) ∧
  (∀ (b : Bool), (AV.bool b).isTu = false) ∧
  (∀ (b : Bool), (AV.bool b).isC = false) ∧
  (∀ (s : ByteArray), (AV.str s).isI = false) ∧
  (∀ (s : ByteArray), (AV.str s).isB = false) ∧
  (∀ (s : ByteArray), (AV.str s).isS = true) ∧
  (∀ (s : ByteArray), (AV.str s).isA = false) ∧
  (∀ (s : ByteArray), (AV.str s).isTu = false) ∧
  (∀ (s : ByteArray), (AV.str s).isC = false) ∧
  (∀ (l : List AV), (AV.agg l).isI = false) ∧
  (∀ (l : List AV), (AV.agg l).isB = false) ∧
  (∀ (l : List AV), (AV.agg l).isS = false) ∧
  (∀ (l : List AV), (AV.agg l).isA = true) ∧
  (∀ (l : List AV), (AV.agg l).isTu = false) ∧
  (∀ (l : List AV), (AV.agg l).isC = false) ∧
  (∀ (l : List AV), (AV.tup l).isI = false) ∧
  (∀ (l : List AV), (AV.tup l).isB = false) ∧
  (∀ (l : List AV), (AV.tup l).isS = false) ∧
  (∀ (l : List AV), (AV.tup l).isA = false) ∧
  (∀ (l : List AV), (AV.tup l).isTu = true) ∧
  (∀ (l : List AV), (AV.tup l).isC = false) ∧
  (∀ (f : FuncId) (x y : List AV), (AV.clo f x y).isI = false) ∧
  (∀ (f : FuncId) (x y : List AV), (AV.clo f x y).isB = false) ∧
  (∀ (f : FuncId) (x y : List AV), (AV.clo f x y).isS = false) ∧
  (∀ (f : FuncId) (x y : List AV), (AV.clo f x y).isA = false) ∧
  (∀ (f : FuncId) (x y : List AV), (AV.clo f x y).isTu = false) ∧
  (∀ (f : FuncId) (x y : List AV), (AV.clo f x y).isC = true) ∧
  (∀ (k : IntKind) (n : Int), (AV.int k n).iv = n) ∧
  (∀ (k : IntKind) (n : Int), (AV.int k n).ik = k) ∧
  (∀ b : Bool, (AV.bool b).bv = b) ∧
  (∀ s : ByteArray, (AV.str s).sv = s) ∧
  (∀ l : List AV, (AV.agg l).av = l) ∧
  (∀ l : List AV, (AV.tup l).tv = l) ∧
  (∀ (f : FuncId) (x y : List AV), (AV.clo f x y).cf = f) ∧
  (∀ (f : FuncId) (x y : List AV), (AV.clo f x y).c1 = x) ∧
  (∀ (f : FuncId) (x y : List AV), (AV.clo f x y).c2 = y) ∧
  (∀ l : List AV, (AV.agg l).cells = l) ∧
  (∀ (k : IntKind) (n : Int), (AV.int k n).cells = [.int k n]) ∧
  (∀ (k : IntKind) (n : Int), (AV.int k n).one = true) ∧
  (∀ (b : Bool), (AV.bool b).cells = [.bool b]) ∧
  (∀ (b : Bool), (AV.bool b).one = true) ∧
  (∀ (s : ByteArray), (AV.str s).cells = [.str s]) ∧
  (∀ (s : ByteArray), (AV.str s).one = true) ∧
  (∀ (l : List AV), (AV.sl l).cells = [.sl l]) ∧
  (∀ (l : List AV), (AV.sl l).one = true) ∧
  (∀ (l : List AV), (AV.rp l).cells = [.rp l]) ∧
  (∀ (l : List AV), (AV.rp l).one = true) ∧
  (∀ (f : FuncId) (x y : List AV), (AV.clo f x y).cells = [.clo f x y]) ∧
  (∀ (f : FuncId) (x y : List AV), (AV.clo f x y).one = true) ∧
  (∀ (v : Value), (AV.cst v).cells = [.cst v]) ∧
  (∀ (v : Value), (AV.cst v).one = true) ∧
  (AV.nilp.cells = [.nilp]) ∧
  (AV.nilp.one = true) ∧
  (∀ r i f : Nat, (AV.ptr r i f).name = some r) ∧
  (∀ r i f : Nat, (AV.rs r i f).name = some r) ∧
  (∀ (k : IntKind) (n : Int), (AV.int k n).name = none) ∧
  (∀ (b : Bool), (AV.bool b).name = none) ∧
  (∀ (s : ByteArray), (AV.str s).name = none) ∧
  (∀ (l : List AV), (AV.sl l).name = none) ∧
  (∀ (l : List AV), (AV.rp l).name = none) ∧
  (∀ (l : List AV), (AV.agg l).name = none) ∧
  (∀ (l : List AV), (AV.tup l).name = none) ∧
  (∀ (f : FuncId) (x y : List AV), (AV.clo f x y).name = none) ∧
  (∀ (v : Value), (AV.cst v).name = none) ∧
  (AV.und.name = none) ∧
  (AV.nilp.name = none) := by
  repeat' apply And.intro
  all_goals (intros; rfl)
theorem evM :
  (∀ (P : Program) (C : FuncId → List AV → AV → Prop) (d : Nat) (ty : TypeId) (l : List XOp) (σ : St) (K : St → Prop), runXs P C (.mkmap d ty :: l) σ K = runXs P C l ((σ.kill d).made d (.mp d []) (some ⟨1, ty, [], 0⟩)) K) ∧
  (∀ (P : Program) (C : FuncId → List AV → AV → Prop) (d : Nat) (ok : Bool) (m k : IOpd) (z : AV) (l : List XOp) (σ : St) (K : St → Prop), runXs P C (.mlook d ok m k z none :: l) σ K = (entOk σ (σ.get m) ∧ kI (σ.get k) = true ∧ runXs P C l (σ.set d (lkV ok z (lkp (ents (σ.get m)) (σ.get k).iv))) K)) ∧
  (∀ (P : Program) (C : FuncId → List AV → AV → Prop) (d : Nat) (ok : Bool) (m k : IOpd) (z : AV) (t : Nat) (w : Bool) (l : List XOp) (σ : St) (K : St → Prop), runXs P C (.mlook d ok m k z (some (t, w)) :: l) σ K = (gB (σ.T t) = true ∧ if gIs w (σ.T t) = true then entOk (σ.set t (.bool w)) ((σ.set t (.bool w)).get m) ∧ kI ((σ.set t (.bool w)).get k) = true ∧ runXs P C l ((σ.set t (.bool w)).set d (lkV ok z (lkp (ents ((σ.set t (.bool w)).get m)) ((σ.set t (.bool w)).get k).iv))) K else runXs P C l ((if (σ.T t).isB then σ.set t (.bool (!w)) else σ).set d (.tup [])) K)) ∧
  (∀ (P : Program) (C : FuncId → List AV → AV → Prop) (m k x : IOpd) (l : List XOp) (σ : St) (K : St → Prop), runXs P C (.mupd m k x :: l) σ K = (mpOk σ (σ.get m) ∧ kI (σ.get k) = true ∧ byOk [] σ (σ.get x) ∧ runXs P C l ⟨remT (mpR (σ.get m)) (upk (ents (σ.get m)) (σ.get k).iv (byVal σ (σ.get x))) σ.T, (σ.fzs (byFz (σ.get x))).H⟩ K)) ∧
  (∀ (hid : List Nat) (r : Nat) (es : List (Int × AV)), nameOk hid (.mp r es) = !hid.contains r) ∧
  (∀ (r : Nat) (es : List (Int × AV)), (AV.mp r es).name = some r) ∧
  (∀ es : List (Int × AV), (AV.mv es).name = none) ∧
  (∀ es : List (Int × AV), (AV.mv es).cells = [.mv es]) ∧
  (∀ es : List (Int × AV), (AV.mv es).one = true) ∧
  (∀ (r : Nat) (es : List (Int × AV)) (T : Nat → AV) (t : Nat), remT r es T t = remp r es (T t)) ∧
  (∀ (r s : Nat) (es l : List (Int × AV)), remp r es (.mp s l) = if s = r then .mp r es else .mp s l) :=
  ⟨runXs_mkmap, runXs_mlook, runXs_mlookg, runXs_mupd, nameOk_mp, fun _ _ => rfl, fun _ => rfl, fun _ => rfl, fun _ => rfl, fun _ _ _ _ => rfl, fun _ _ _ _ => rfl⟩
theorem evP :
  (∀ (C : FuncId → List AV → AV → Prop) (l : List GIni) (Q : XK → St → Prop) (σ : St), run C (.gini l) Q σ = giniV l σ (Q .normal)) ∧
  (∀ (σ : St) (K : St → Prop), giniV [] σ K = K σ) ∧
  (∀ (r j q z : Nat) (ty : TypeId) (l : List GIni) (σ : St) (K : St → Prop), giniV (⟨r, j, q, z, ty⟩ :: l) σ K = (q < 1000 ∧ 0 < z ∧ giniV l ⟨upd (σ.kill q).T (vt r j) (.vrs q 0 0 (.slice none 0 0)), upd (σ.kill q).H q (some ⟨z, ty, [], 0⟩)⟩ K)) ∧
  (∀ (C : FuncId → List AV → AV → Prop) (z : Nat) (p x : IOpd) (hid wr : List Nat) (l : List ROp) (σ : St) (K : St → Prop), runOps C (⟨.storep z p x, none, none, hid, wr⟩ :: l) σ K = (stpOk σ z (σ.get x) (σ.get p) ∧ anyCell fun u => runOps C l (stpSt σ u (σ.get x) (σ.get p)) K)) ∧
  (∀ (r o : Nat), vt r o = 1000 + 100 * r + o) ∧
  (∀ (r off len : Nat) (u : Value), (AV.vrs r off len u).name = some r) ∧
  (∀ (hid : List Nat) (r off len : Nat) (u : Value), nameOk hid (.vrs r off len u) = !hid.contains r) ∧
  (∀ (v : Value), (AV.cst v).cells = [.cst v]) ∧
  (∀ (v : Value), (AV.cst v).one = true) ∧
  (nilV (.slice none 0 0) = .sl []) ∧
  (∀ (r i f : Nat), pRt (.ptr r i f) = r) ∧
  (∀ (σ : St) (r i f : Nat), pOf σ (.ptr r i f) = i * objZ (σ.H r) + f) ∧
  (∀ (r i f : Nat), isPtr (.ptr r i f) = true) :=
  ⟨run_gini, giniV_nil, giniV_cons, runOps_stp, fun _ _ => rfl, fun _ _ _ _ => rfl, fun _ _ _ _ _ => rfl, fun _ => rfl, fun _ => rfl, rfl, fun _ _ _ => rfl, fun _ _ _ _ => rfl, fun _ _ _ => rfl⟩
end Go.Proofs.YthfdbjocpicbmaaDoor
end
section
/-
  Data that came in, of whatever type of ints, bools, texts, slices, structs and arrays, reads on the plain machine.
-/
namespace Go.Proofs.YthfdbjocpicbmaaDoor
open Go.ChangeShapes Go.WideShapes Go.ChangeAt Go.RowKit Go.Deep
set_option linter.unusedVariables false
set_option linter.unusedSimpArgs false
/-- types of plain data -/
inductive Ty where
  | int (k : IntKind)
  | str
  | bool
  | sl (e : Ty)
  | st (fs : List Ty)
/-- places one behind the other -/
def laidAt (P : Program) : List (Nat × TypeId) → Nat → Option Nat
  | [], o => some o
  | (f, t) :: l, o => if f = o then laidAt P l (o + P.cellsOf t) else none
def optAll {α β : Type} (f : α → Option β) : List α → Option (List β)
  | [] => some []
  | a :: l => match f a, optAll f l with
    | some b, some r => some (b :: r)
    | _, _ => none
def placesOf (m z : Nat) (e : TypeId) : Nat → List (Nat × TypeId)
  | 0 => []
  | k + 1 => ((m - (k + 1)) * z, e) :: placesOf m z e k
def dtyOf (P : Program) : Nat → TypeId → Option Ty
  | 0, _ => none
  | n + 1, t => match P.underlying t with
    | some (.int k) => some (.int k)
    | some .string => some .str
    | some .bool => some .bool
    | some (.slice e) => if 1 ≤ P.bytesOf e ∧ 1 ≤ P.cellsOf e then (dtyOf P n e).map .sl else none
    | some (.struct fs) => if laidAt P (fs.toList.map fun f => (f.offset, f.type)) 0 = some (P.cellsOf t) then (optAll (dtyOf P n) (fs.toList.map (·.type))).map .st else none
    | some (.array m e) => if laidAt P (placesOf m (P.cellsOf e) e m) 0 = some (P.cellsOf t) then (optAll (dtyOf P n) (List.replicate m e)).map .st else none
    | _ => none
def packT : Ty → List AV → AV
  | .st _, cs => .agg cs
  | _, cs => cs.headD .und
/-- cells that are of a type -/
inductive TypedC : Ty → List AV → Prop
  | int (k : IntKind) (n : Int) (h : (Lit.int k n).wf = true) : TypedC (.int k) [.int k n]
  | str (s : ByteArray) (h : s.size ≤ 281474976710656) : TypedC .str [.str s]
  | bool (b : Bool) : TypedC .bool [.bool b]
  | sl (T : Ty) (ls : List (List AV)) (hlen : ls.length ≤ 281474976710656) (h : ∀ c, c ∈ ls → TypedC T c) : TypedC (.sl T) [.sl (ls.map (packT T))]
  | nil : TypedC (.st []) []
  | cons {T : Ty} {fs : List Ty} {c r : List AV} (h : TypedC T c) (hr : TypedC (.st fs) r) : TypedC (.st (T :: fs)) (c ++ r)
theorem packT_cells {T : Ty} {c : List AV} (h : TypedC T c) : (packT T c).cells = c := by
  cases h <;> rfl
theorem laidAt_le {P : Program} : ∀ {l : List (Nat × TypeId)} {o tot : Nat}, laidAt P l o = some tot → o ≤ tot
  | [], o, tot, h => by cases h; exact Nat.le_refl _
  | (f, t) :: l, o, tot, h => by
    rw [laidAt] at h
    split at h
    · have := laidAt_le h; omega
    · cases h
section
variable {H : Type} {enc : TypeId × Value → H} {P : Program} {w : World} {sp : Nat → Bool} {held : Bool}
/-- it reads, and is of the type -/
def ReadsAs (w : World) (T : Ty) (cs : List Value) (ds : List AV) : Prop :=
  TypedC T ds ∧ ds.length = cs.length ∧ ∀ (j : Nat) (d : AV) (v : Value), ds[j]? = some d → cs[j]? = some v → VR (fun b _ => b < w.heap.size) w d v
theorem typed_parts {n m : Nat} (ih : ∀ {t : TypeId} {T : Ty} {fuel : Nat} {cs : List Value} {x : DataW H × List MemPlace}, dtyOf P n t = some T → (x.1.weights P t).all (· ≤ reachBytes) = true → DataW.trod enc P w 0 sp held fuel t cs = some x → ∃ ds, ReadsAs w T cs ds)
    {cs : List Value} : ∀ (pl : List (Nat × TypeId)) (o : Nat) (Ts : List Ty) (xs : List (DataW H × List MemPlace)), laidAt P pl o = some cs.length → optAll (dtyOf P n) (pl.map (·.2)) = some Ts → xs.length = pl.length →
      (∀ (i : Nat) (f : Nat × TypeId), pl[i]? = some f → DataW.trod enc P w 0 sp held m f.2 ((cs.drop f.1).take (P.cellsOf f.2)) = xs[i]?) →
      (DataW.weightsEach P (pl.map (·.2)) (xs.map (·.1))).all (· ≤ reachBytes) = true → ∃ ds, ReadsAs w (.st Ts) (cs.drop o) ds
  | [], o, Ts, xs, hl, ho, hx, ht, hw => by
    cases hl; cases ho
    exact ⟨[], .nil, by simp, fun j d v h => by simp at h⟩
  | (f, t) :: pl, o, Ts, xs, hl, ho, hx, ht, hw => by
    rw [laidAt] at hl
    split at hl
    case isFalse => cases hl
    rename_i hf
    subst hf
    rw [List.map_cons, optAll] at ho
    split at ho
    case h_2 => cases ho
    rename_i T Ts' h1 h2
    cases ho
    cases xs with
    | nil => simp at hx
    | cons x xs =>
      rw [List.map_cons, List.map_cons, DataW.weightsEach, List.all_append, Bool.and_eq_true] at hw
      obtain ⟨d0, t0, l0, v0⟩ := ih h1 hw.1 (ht 0 _ rfl)
      obtain ⟨dr, tr, lr, vr⟩ := typed_parts ih pl (f + P.cellsOf t) Ts' xs hl h2 (by simpa using hx) (fun i g hg => ht (i + 1) g (by simpa using hg)) hw.2
      have hle := laidAt_le hl
      have hz : d0.length = P.cellsOf t := by
        rw [l0, List.length_take, List.length_drop]; show min (P.cellsOf t) (cs.length - f) = _; omega
      refine ⟨d0 ++ dr, .cons t0 tr, ?_, fun j d v hd hv => ?_⟩
      · rw [List.length_append, hz, lr, List.length_drop, List.length_drop]; omega
      · rw [List.getElem?_drop] at hv
        rcases Nat.lt_or_ge j d0.length with hj | hj
        · rw [List.getElem?_append_left hj] at hd
          refine v0 j d v hd ?_
          show (List.take (P.cellsOf t) (List.drop f cs))[j]? = _
          rw [List.getElem?_take, if_pos (by omega), List.getElem?_drop]
          exact hv
        · rw [List.getElem?_append_right hj] at hd
          refine vr _ d v hd ?_
          rw [List.getElem?_drop, hz, show f + P.cellsOf t + (j - P.cellsOf t) = f + j by omega]
          exact hv
theorem weights_rep {e : TypeId} : ∀ {m : Nat} {l : List (DataW H)}, l.length = m → (DataW.weightsAll P e l).all (· ≤ reachBytes) = true → (DataW.weightsEach P (List.replicate m e) l).all (· ≤ reachBytes) = true
  | 0, [], _, _ => rfl
  | m + 1, x :: l, hl, h => by
    simp only [DataW.weightsAll, List.all_append, Bool.and_eq_true] at h
    rw [List.replicate_succ, DataW.weightsEach, List.all_append, Bool.and_eq_true]
    exact ⟨h.1, weights_rep (by simpa using hl) h.2⟩
theorem placesOf_get (m z : Nat) (e : TypeId) : ∀ (k i : Nat) (f : Nat × TypeId), k ≤ m → (placesOf m z e k)[i]? = some f → i < k ∧ f = ((m - k + i) * z, e) := by
  intro k
  induction k with
  | zero => intro i f _ h; simp [placesOf] at h
  | succ k ih =>
    intro i f hk h
    cases i with
    | zero => simp [placesOf] at h; exact ⟨by omega, h.symm⟩
    | succ i =>
      obtain ⟨h1, rfl⟩ := ih i f (by omega) (by simpa [placesOf] using h)
      exact ⟨by omega, by rw [show m - k + i = m - (k + 1) + (i + 1) by omega]⟩
theorem typed_in : ∀ (n : Nat) {t : TypeId} {T : Ty} {fuel : Nat} {cs : List Value} {x : DataW H × List MemPlace}, dtyOf P n t = some T → (x.1.weights P t).all (· ≤ reachBytes) = true → DataW.trod enc P w 0 sp held fuel t cs = some x → ∃ ds, ReadsAs w T cs ds
  | 0, t, T, fuel, cs, x, ht, hw, h => by cases ht
  | n + 1, t, T, fuel, cs, x, ht, hw, h => by
    rw [dtyOf] at ht
    split at ht
    · rename_i k hu
      cases ht
      obtain ⟨m, rfl, rfl, hb⟩ := DataW.trod_int hu h
      exact ⟨[.int k m], .int k m hb, rfl, fun j d v hd hv => by
        cases j with
        | zero => cases hd; cases hv; exact .int _ _
        | succ j => simp at hd⟩
    · rename_i hu
      cases ht
      obtain ⟨s, rfl, rfl, hb⟩ := DataW.trod_string hu h
      exact ⟨[.str s], .str s (str_reach hw), rfl, fun j d v hd hv => by
        cases j with
        | zero => cases hd; cases hv; exact .str _
        | succ j => simp at hd⟩
    · rename_i hu
      cases ht
      obtain ⟨b, rfl, rfl⟩ := DataW.trod_bool hu h
      exact ⟨[.bool b], .bool b, rfl, fun j d v hd hv => by
        cases j with
        | zero => cases hd; cases hv; exact .bool _
        | succ j => simp at hd⟩
    · rename_i e hu
      split at ht
      case isFalse => cases ht
      rename_i hz
      obtain ⟨Te, hTe, rfl⟩ := Option.map_eq_some_iff.1 ht
      rcases open_slice hu h with ⟨hv, _⟩ | ⟨a, len, cap, m, n', D, Pl, hv, _, hl, hm, hmm, hx, hi⟩
      · subst hv
        refine ⟨[.sl []], .sl Te [] (by simp) (fun c hc => by cases hc), rfl, fun j d v hd hv => ?_⟩
        cases j with
        | zero =>
          cases hd; cases hv
          exact .sl [] none 0 1 (fun _ _ => .bool false) (by simp) (by simp) (fun h => by simp at h) (fun i d j c hi => by simp at hi)
        | succ j => simp at hd
      · subst hv
        have hlm : len ≤ m := by rw [hmm]; split <;> omega
        rw [hx] at hw
        simp only [DataW.weights, hu, List.all_cons, Bool.and_eq_true, decide_eq_true_eq, List.length_map, List.length_range, List.all_append] at hw
        have hlr : len ≤ reachBytes := Nat.le_trans (Nat.le_trans (Nat.le_add_right len (m - len)) (Nat.le_mul_of_pos_right _ hz.1)) hw.1
        have hwi : ∀ i, i < len → ((D i).weights P e).all (· ≤ reachBytes) = true := fun i hil => weightsAll_mem hw.2.1 (List.mem_map.2 ⟨i, List.mem_range.2 hil, rfl⟩)
        have each : ∀ i, i < len → ∃ y : List Value × List AV, w.cells? 0 (a.add (i * P.cellsOf e)) (P.cellsOf e) = some y.1 ∧ ReadsAs w Te y.1 y.2 := fun i him => by
          obtain ⟨cs', h1, h2⟩ := hi i (by omega)
          obtain ⟨ds, hd⟩ := typed_in n hTe (hwi i him) h2
          exact ⟨(cs', ds), h1, hd⟩
        obtain ⟨S, hS⟩ := choose_lt each
        have hL : ((List.range len).map fun i => (S i).2).length = len := by simp
        have hcell : ∀ i, i < len → ∀ (j : Nat) (u : Value), ((S i).1)[j]? = some u → w.cell? (a.add (i * P.cellsOf e + j)) = some u := by
          intro i hil j u hj
          obtain ⟨_, hlen, hat⟩ := World.cells?_some (hS i hil).1
          have hjl : j < P.cellsOf e := by rw [← hlen]; exact (List.getElem?_eq_some_iff.1 hj).1
          rw [← Go.Deep.add_add, hat j hjl, hj]
        refine ⟨[.sl (((List.range len).map fun i => (S i).2).map (packT Te))], .sl Te _ (by rw [hL]; exact Nat.le_trans hlr (by decide)) (fun c hc => ?_), rfl, fun j d v hd hv => ?_⟩
        · obtain ⟨i, hir, rfl⟩ := List.mem_map.1 hc
          exact (hS i (List.mem_range.1 hir)).2.1
        · cases j with
          | succ j => simp at hd
          | zero =>
            cases hd; cases hv
            have hL2 : (((List.range len).map fun i => (S i).2).map (packT Te)).length = len := by simp
            have hget : ∀ (i : Nat) (d : AV), (((List.range len).map fun i => (S i).2).map (packT Te))[i]? = some d → i < len ∧ d = packT Te (S i).2 := by
              intro i d hd
              rw [List.getElem?_map, List.getElem?_map] at hd
              by_cases hlt : i < len
              · rw [List.getElem?_range hlt] at hd; simp at hd
                exact ⟨hlt, hd.symm⟩
              · rw [List.getElem?_eq_none (by simp; omega)] at hd; cases hd
            have key : VR (fun b _ => b < w.heap.size) w (.sl (((List.range len).map fun i => (S i).2).map (packT Te))) (.slice (some a) (((List.range len).map fun i => (S i).2).map (packT Te)).length cap) := by
              refine .sl _ (some a) cap (P.cellsOf e) (fun i j => ((S i).1).getD j (.bool false)) (by rw [hL2]; omega) hm (fun h0 => ?_) (fun i d j c hi hj => ?_)
              · rw [hL2] at h0
                obtain ⟨ab, ao, asp⟩ := a
                obtain ⟨_, hlen, _⟩ := World.cells?_some (hS 0 h0).1
                have hu0 : ((S 0).1)[0]? = some (((S 0).1)[0]'(by omega)) := List.getElem?_eq_getElem _
                have hc0 := hcell 0 h0 0 _ hu0
                have e0 : (⟨ab, ao, asp⟩ : Addr).add (0 * P.cellsOf e + 0) = ⟨ab, ao, asp⟩ := by simp [Addr.add]
                rw [e0] at hc0
                have hsp : asp = none := by
                  cases asp with
                  | none => rfl
                  | some k =>
                    simp only [World.cell?] at hc0
                    split at hc0
                    · simp at hc0
                    · cases hc0
                subst hsp
                have hlt := block_lt_of_cell hc0
                refine ⟨ab, ao, rfl, hlt, fun d hd => ?_, fun i j hi hj => ⟨hlt, ?_⟩⟩
                · obtain ⟨c, hc, rfl⟩ := List.mem_map.1 hd
                  obtain ⟨i, hir, rfl⟩ := List.mem_map.1 hc
                  have h2 := (hS i (List.mem_range.1 hir)).2
                  obtain ⟨_, hlen, _⟩ := World.cells?_some (hS i (List.mem_range.1 hir)).1
                  rw [packT_cells h2.1, h2.2.1, hlen]
                · rw [hL2] at hi
                  obtain ⟨_, hlen, _⟩ := World.cells?_some (hS i hi).1
                  have hv : ((S i).1)[j]? = some (((S i).1).getD j (.bool false)) := by
                    rw [List.getD_eq_getElem?_getD, List.getElem?_eq_getElem (by omega)]; rfl
                  have := hcell i hi j _ hv
                  have e : (⟨ab, ao, none⟩ : Addr).add (i * P.cellsOf e + j) = ⟨ab, ao + (i * P.cellsOf e + j), none⟩ := by
                    unfold Addr.add; split
                    · rename_i h; rw [h]; rfl
                    · rfl
                  rwa [e] at this
              · obtain ⟨hlt, rfl⟩ := hget i d hi
                obtain ⟨q1, q2, q3⟩ := (hS i hlt).2
                rw [packT_cells q1] at hj
                have hjl := (List.getElem?_eq_some_iff.1 hj).1
                refine q3 j c _ hj ?_
                rw [List.getD_eq_getElem?_getD, List.getElem?_eq_getElem (by omega)]; rfl
            rw [hL2] at key
            exact key
    · rename_i fs hu
      split at ht
      case isFalse => cases ht
      rename_i hoff
      obtain ⟨Ts, hTs, rfl⟩ := Option.map_eq_some_iff.1 ht
      obtain ⟨xs, m, _, rfl, hl, hxs, hf⟩ := DataW.trod_struct hu h
      simp only [DataW.weights, hu] at hw
      have := typed_parts (n := n) (m := m) (fun h1 h2 h3 => typed_in n h1 h2 h3) (cs := cs) (fs.toList.map fun f => (f.offset, f.type)) 0 Ts xs (by rw [hl]; exact hoff) (by rw [List.map_map]; exact hTs) (by simpa using hxs)
        (fun i f hfi => by
          rw [List.getElem?_map, Option.map_eq_some_iff] at hfi
          obtain ⟨g, hg, rfl⟩ := hfi
          exact hf i g (by simpa using hg)) (by rw [List.map_map]; exact hw)
      simpa using this
    · rename_i k e hu
      split at ht
      case isFalse => cases ht
      rename_i hoff
      obtain ⟨Ts, hTs, rfl⟩ := Option.map_eq_some_iff.1 ht
      obtain ⟨xs, m, _, rfl, hl, hxs, hf⟩ := DataW.trod_array hu h
      simp only [DataW.weights, hu] at hw
      have hm : (placesOf k (P.cellsOf e) e k).map (·.2) = List.replicate k e := by
        have : ∀ j, (placesOf k (P.cellsOf e) e j).map (·.2) = List.replicate j e := by
          intro j
          induction j with
          | zero => rfl
          | succ j ih => rw [placesOf, List.map_cons, ih, List.replicate_succ]
        exact this k
      have hlen : (placesOf k (P.cellsOf e) e k).length = k := by
        have := congrArg List.length hm
        simpa using this
      have := typed_parts (n := n) (m := m) (fun h1 h2 h3 => typed_in n h1 h2 h3) (cs := cs) (placesOf k (P.cellsOf e) e k) 0 Ts xs (by rw [hl]; exact hoff) (by rw [hm]; exact hTs) (by rw [hlen, hxs])
        (fun i f hfi => by
          obtain ⟨h1, rfl⟩ := placesOf_get _ _ _ _ _ _ (Nat.le_refl _) hfi
          rw [Nat.sub_self, Nat.zero_add]
          exact hf i h1) (by rw [hm]; exact weights_rep (by rw [List.length_map, hxs]) hw)
      simpa using this
    · cases ht
end
end Go.Proofs.YthfdbjocpicbmaaDoor
end
section
/-
  The data of the trees: messages, pairs, nodes, latches; and that what came in of their types is such.
-/
namespace Go.Proofs.YthfdbjocpicbmaaDoor
open Go.RowKit
set_option linter.unusedVariables false
set_option linter.unusedSimpArgs false
set_option maxRecDepth 100000
theorem st_cons {T : Ty} {fs : List Ty} {ds : List AV} (h : TypedC (.st (T :: fs)) ds) : ∃ c r, ds = c ++ r ∧ TypedC T c ∧ TypedC (.st fs) r := by
  cases h with
  | cons h1 h2 => exact ⟨_, _, rfl, h1, h2⟩
theorem st_nil {ds : List AV} (h : TypedC (.st []) ds) : ds = [] := by cases h; rfl
theorem int_inv {ds : List AV} (h : TypedC (.int .i64) ds) : ∃ n, ds = [.int .i64 n] ∧ -9223372036854775808 ≤ n ∧ n ≤ 9223372036854775807 := by
  cases h with
  | int k n h => exact ⟨n, rfl, bounds_i64 h⟩
theorem str_inv {ds : List AV} (h : TypedC .str ds) : ∃ s, ds = [.str s] ∧ s.size ≤ 281474976710656 := by
  cases h with
  | str s h => exact ⟨s, rfl, h⟩
theorem bool_inv {ds : List AV} (h : TypedC .bool ds) : ∃ b, ds = [.bool b] := by
  cases h with
  | bool b => exact ⟨b, rfl⟩
theorem sl_of {α : Type} (f : α → AV) (ok : α → Prop) {T : Ty} {ds : List AV} (h : TypedC (.sl T) ds) (hel : ∀ c, TypedC T c → ∃ a, packT T c = f a ∧ ok a) : ∃ l : List α, ds = [.sl (l.map f)] ∧ l.length ≤ 281474976710656 ∧ ∀ a, a ∈ l → ok a := by
  cases h with
  | sl T ls hlen h =>
    have : ∃ l : List α, ls.map (packT T) = l.map f ∧ l.length = ls.length ∧ ∀ a, a ∈ l → ok a := by
      clear hlen
      induction ls with
      | nil => exact ⟨[], rfl, rfl, fun a ha => by cases ha⟩
      | cons c ls ih =>
        obtain ⟨l, h1, h2, h3⟩ := ih fun x hx => h x (List.mem_cons_of_mem _ hx)
        obtain ⟨a, ha, hok⟩ := hel c (h c (List.mem_cons_self ..))
        refine ⟨a :: l, by rw [List.map_cons, List.map_cons, h1, ha], by rw [List.length_cons, List.length_cons, h2], fun b hb => ?_⟩
        rcases List.mem_cons.1 hb with rfl | hb
        · exact hok
        · exact h3 b hb
    obtain ⟨l, h1, h2, h3⟩ := this
    exact ⟨l, by rw [h1], by omega, h3⟩
structure Msg where
  stamp : Int
  kind : Int
  key : ByteArray
  hi : ByteArray
  op : Bool
  val : ByteArray
def Msg.a (x : Msg) : AV := .agg [.int .i64 x.stamp, .int .i64 x.kind, .str x.key, .str x.hi, .bool x.op, .str x.val]
structure Msg.ok (x : Msg) : Prop where
  stamp : (-9223372036854775808 ≤ x.stamp ∧ x.stamp ≤ 9223372036854775807)
  kind : (-9223372036854775808 ≤ x.kind ∧ x.kind ≤ 9223372036854775807)
  key : x.key.size ≤ 281474976710656
  hi : x.hi.size ≤ 281474976710656
  op : True
  val : x.val.size ≤ 281474976710656
def MsgT : Ty := .st [.int .i64, .int .i64, .str, .str, .bool, .str]
theorem Msg.of {c : List AV} (h : TypedC MsgT c) : ∃ x : Msg, AV.agg c = x.a ∧ x.ok := by
  obtain ⟨c0, r0, rfl, h0, h⟩ := st_cons h
  obtain ⟨c1, r1, rfl, h1, h⟩ := st_cons h
  obtain ⟨c2, r2, rfl, h2, h⟩ := st_cons h
  obtain ⟨c3, r3, rfl, h3, h⟩ := st_cons h
  obtain ⟨c4, r4, rfl, h4, h⟩ := st_cons h
  obtain ⟨c5, r5, rfl, h5, h⟩ := st_cons h
  obtain rfl := st_nil h
  obtain ⟨v0, rfl, b0⟩ := int_inv h0
  obtain ⟨v1, rfl, b1⟩ := int_inv h1
  obtain ⟨v2, rfl, b2⟩ := str_inv h2
  obtain ⟨v3, rfl, b3⟩ := str_inv h3
  obtain ⟨v4, rfl⟩ := bool_inv h4
  have b4 := True.intro
  obtain ⟨v5, rfl, b5⟩ := str_inv h5
  exact ⟨⟨v0, v1, v2, v3, v4, v5⟩, rfl, ⟨b0, b1, b2, b3, b4, b5⟩⟩
structure Par where
  key : ByteArray
  val : ByteArray
def Par.a (x : Par) : AV := .agg [.str x.key, .str x.val]
structure Par.ok (x : Par) : Prop where
  key : x.key.size ≤ 281474976710656
  val : x.val.size ≤ 281474976710656
def ParT : Ty := .st [.str, .str]
theorem Par.of {c : List AV} (h : TypedC ParT c) : ∃ x : Par, AV.agg c = x.a ∧ x.ok := by
  obtain ⟨c0, r0, rfl, h0, h⟩ := st_cons h
  obtain ⟨c1, r1, rfl, h1, h⟩ := st_cons h
  obtain rfl := st_nil h
  obtain ⟨v0, rfl, b0⟩ := str_inv h0
  obtain ⟨v1, rfl, b1⟩ := str_inv h1
  exact ⟨⟨v0, v1⟩, rfl, ⟨b0, b1⟩⟩
structure Nd where
  slot : Int
  level : Int
  pivots : List ByteArray
  kids : List Int
  high : ByteArray
  top : Bool
  right : Int
  seen : Int
  msgs : List Msg
  rows : List Par
def Nd.a (x : Nd) : AV := .agg [.int .i64 x.slot, .int .i64 x.level, .sl (x.pivots.map AV.str), .sl (x.kids.map (AV.int .i64)), .str x.high, .bool x.top, .int .i64 x.right, .int .i64 x.seen, .sl (x.msgs.map Msg.a), .sl (x.rows.map Par.a)]
structure Nd.ok (x : Nd) : Prop where
  slot : (-9223372036854775808 ≤ x.slot ∧ x.slot ≤ 9223372036854775807)
  level : (-9223372036854775808 ≤ x.level ∧ x.level ≤ 9223372036854775807)
  pivots : (x.pivots.length ≤ 281474976710656 ∧ ∀ z, z ∈ x.pivots → z.size ≤ 281474976710656)
  kids : (x.kids.length ≤ 281474976710656 ∧ ∀ z, z ∈ x.kids → (-9223372036854775808 ≤ z ∧ z ≤ 9223372036854775807))
  high : x.high.size ≤ 281474976710656
  top : True
  right : (-9223372036854775808 ≤ x.right ∧ x.right ≤ 9223372036854775807)
  seen : (-9223372036854775808 ≤ x.seen ∧ x.seen ≤ 9223372036854775807)
  msgs : (x.msgs.length ≤ 281474976710656 ∧ ∀ z, z ∈ x.msgs → z.ok)
  rows : (x.rows.length ≤ 281474976710656 ∧ ∀ z, z ∈ x.rows → z.ok)
def NdT : Ty := .st [.int .i64, .int .i64, .sl (.str), .sl (.int .i64), .str, .bool, .int .i64, .int .i64, .sl MsgT, .sl ParT]
theorem Nd.of {c : List AV} (h : TypedC NdT c) : ∃ x : Nd, AV.agg c = x.a ∧ x.ok := by
  obtain ⟨c0, r0, rfl, h0, h⟩ := st_cons h
  obtain ⟨c1, r1, rfl, h1, h⟩ := st_cons h
  obtain ⟨c2, r2, rfl, h2, h⟩ := st_cons h
  obtain ⟨c3, r3, rfl, h3, h⟩ := st_cons h
  obtain ⟨c4, r4, rfl, h4, h⟩ := st_cons h
  obtain ⟨c5, r5, rfl, h5, h⟩ := st_cons h
  obtain ⟨c6, r6, rfl, h6, h⟩ := st_cons h
  obtain ⟨c7, r7, rfl, h7, h⟩ := st_cons h
  obtain ⟨c8, r8, rfl, h8, h⟩ := st_cons h
  obtain ⟨c9, r9, rfl, h9, h⟩ := st_cons h
  obtain rfl := st_nil h
  obtain ⟨v0, rfl, b0⟩ := int_inv h0
  obtain ⟨v1, rfl, b1⟩ := int_inv h1
  obtain ⟨v2, rfl, b2⟩ := sl_of AV.str (fun z : ByteArray => z.size ≤ 281474976710656) h2 (fun c hc => by obtain ⟨v, rfl, b⟩ := str_inv hc; exact ⟨v, rfl, b⟩)
  obtain ⟨v3, rfl, b3⟩ := sl_of (AV.int .i64) (fun z : Int => -9223372036854775808 ≤ z ∧ z ≤ 9223372036854775807) h3 (fun c hc => by obtain ⟨v, rfl, b⟩ := int_inv hc; exact ⟨v, rfl, b⟩)
  obtain ⟨v4, rfl, b4⟩ := str_inv h4
  obtain ⟨v5, rfl⟩ := bool_inv h5
  have b5 := True.intro
  obtain ⟨v6, rfl, b6⟩ := int_inv h6
  obtain ⟨v7, rfl, b7⟩ := int_inv h7
  obtain ⟨v8, rfl, b8⟩ := sl_of Msg.a Msg.ok h8 (fun c hc => Msg.of hc)
  obtain ⟨v9, rfl, b9⟩ := sl_of Par.a Par.ok h9 (fun c hc => Par.of hc)
  exact ⟨⟨v0, v1, v2, v3, v4, v5, v6, v7, v8, v9⟩, rfl, ⟨b0, b1, b2, b3, b4, b5, b6, b7, b8, b9⟩⟩
structure Hld where
  thread : Int
  slot : Int
  wr : Bool
def Hld.a (x : Hld) : AV := .agg [.int .i64 x.thread, .int .i64 x.slot, .bool x.wr]
structure Hld.ok (x : Hld) : Prop where
  thread : (-9223372036854775808 ≤ x.thread ∧ x.thread ≤ 9223372036854775807)
  slot : (-9223372036854775808 ≤ x.slot ∧ x.slot ≤ 9223372036854775807)
  wr : True
def HldT : Ty := .st [.int .i64, .int .i64, .bool]
theorem Hld.of {c : List AV} (h : TypedC HldT c) : ∃ x : Hld, AV.agg c = x.a ∧ x.ok := by
  obtain ⟨c0, r0, rfl, h0, h⟩ := st_cons h
  obtain ⟨c1, r1, rfl, h1, h⟩ := st_cons h
  obtain ⟨c2, r2, rfl, h2, h⟩ := st_cons h
  obtain rfl := st_nil h
  obtain ⟨v0, rfl, b0⟩ := int_inv h0
  obtain ⟨v1, rfl, b1⟩ := int_inv h1
  obtain ⟨v2, rfl⟩ := bool_inv h2
  have b2 := True.intro
  exact ⟨⟨v0, v1, v2⟩, rfl, ⟨b0, b1, b2⟩⟩
structure Cfg where
  fanout : Int
  leaf : Int
  budget : Int
  slots : Int
  restarts : Int
def Cfg.a (x : Cfg) : AV := .agg [.int .i64 x.fanout, .int .i64 x.leaf, .int .i64 x.budget, .int .i64 x.slots, .int .i64 x.restarts]
structure Cfg.ok (x : Cfg) : Prop where
  fanout : (-9223372036854775808 ≤ x.fanout ∧ x.fanout ≤ 9223372036854775807)
  leaf : (-9223372036854775808 ≤ x.leaf ∧ x.leaf ≤ 9223372036854775807)
  budget : (-9223372036854775808 ≤ x.budget ∧ x.budget ≤ 9223372036854775807)
  slots : (-9223372036854775808 ≤ x.slots ∧ x.slots ≤ 9223372036854775807)
  restarts : (-9223372036854775808 ≤ x.restarts ∧ x.restarts ≤ 9223372036854775807)
def CfgT : Ty := .st [.int .i64, .int .i64, .int .i64, .int .i64, .int .i64]
theorem Cfg.of {c : List AV} (h : TypedC CfgT c) : ∃ x : Cfg, AV.agg c = x.a ∧ x.ok := by
  obtain ⟨c0, r0, rfl, h0, h⟩ := st_cons h
  obtain ⟨c1, r1, rfl, h1, h⟩ := st_cons h
  obtain ⟨c2, r2, rfl, h2, h⟩ := st_cons h
  obtain ⟨c3, r3, rfl, h3, h⟩ := st_cons h
  obtain ⟨c4, r4, rfl, h4, h⟩ := st_cons h
  obtain rfl := st_nil h
  obtain ⟨v0, rfl, b0⟩ := int_inv h0
  obtain ⟨v1, rfl, b1⟩ := int_inv h1
  obtain ⟨v2, rfl, b2⟩ := int_inv h2
  obtain ⟨v3, rfl, b3⟩ := int_inv h3
  obtain ⟨v4, rfl, b4⟩ := int_inv h4
  exact ⟨⟨v0, v1, v2, v3, v4⟩, rfl, ⟨b0, b1, b2, b3, b4⟩⟩
structure Gau where
  nodes : Int
  leaves : Int
  height : Int
  rows : Int
  msgs : Int
  bytes : Int
  empty : Int
  levels : List Int
  waits : List Int
def Gau.a (x : Gau) : AV := .agg [.int .i64 x.nodes, .int .i64 x.leaves, .int .i64 x.height, .int .i64 x.rows, .int .i64 x.msgs, .int .i64 x.bytes, .int .i64 x.empty, .sl (x.levels.map (AV.int .i64)), .sl (x.waits.map (AV.int .i64))]
structure Gau.ok (x : Gau) : Prop where
  nodes : (-9223372036854775808 ≤ x.nodes ∧ x.nodes ≤ 9223372036854775807)
  leaves : (-9223372036854775808 ≤ x.leaves ∧ x.leaves ≤ 9223372036854775807)
  height : (-9223372036854775808 ≤ x.height ∧ x.height ≤ 9223372036854775807)
  rows : (-9223372036854775808 ≤ x.rows ∧ x.rows ≤ 9223372036854775807)
  msgs : (-9223372036854775808 ≤ x.msgs ∧ x.msgs ≤ 9223372036854775807)
  bytes : (-9223372036854775808 ≤ x.bytes ∧ x.bytes ≤ 9223372036854775807)
  empty : (-9223372036854775808 ≤ x.empty ∧ x.empty ≤ 9223372036854775807)
  levels : (x.levels.length ≤ 281474976710656 ∧ ∀ z, z ∈ x.levels → (-9223372036854775808 ≤ z ∧ z ≤ 9223372036854775807))
  waits : (x.waits.length ≤ 281474976710656 ∧ ∀ z, z ∈ x.waits → (-9223372036854775808 ≤ z ∧ z ≤ 9223372036854775807))
def GauT : Ty := .st [.int .i64, .int .i64, .int .i64, .int .i64, .int .i64, .int .i64, .int .i64, .sl (.int .i64), .sl (.int .i64)]
theorem Gau.of {c : List AV} (h : TypedC GauT c) : ∃ x : Gau, AV.agg c = x.a ∧ x.ok := by
  obtain ⟨c0, r0, rfl, h0, h⟩ := st_cons h
  obtain ⟨c1, r1, rfl, h1, h⟩ := st_cons h
  obtain ⟨c2, r2, rfl, h2, h⟩ := st_cons h
  obtain ⟨c3, r3, rfl, h3, h⟩ := st_cons h
  obtain ⟨c4, r4, rfl, h4, h⟩ := st_cons h
  obtain ⟨c5, r5, rfl, h5, h⟩ := st_cons h
  obtain ⟨c6, r6, rfl, h6, h⟩ := st_cons h
  obtain ⟨c7, r7, rfl, h7, h⟩ := st_cons h
  obtain ⟨c8, r8, rfl, h8, h⟩ := st_cons h
  obtain rfl := st_nil h
  obtain ⟨v0, rfl, b0⟩ := int_inv h0
  obtain ⟨v1, rfl, b1⟩ := int_inv h1
  obtain ⟨v2, rfl, b2⟩ := int_inv h2
  obtain ⟨v3, rfl, b3⟩ := int_inv h3
  obtain ⟨v4, rfl, b4⟩ := int_inv h4
  obtain ⟨v5, rfl, b5⟩ := int_inv h5
  obtain ⟨v6, rfl, b6⟩ := int_inv h6
  obtain ⟨v7, rfl, b7⟩ := sl_of (AV.int .i64) (fun z : Int => -9223372036854775808 ≤ z ∧ z ≤ 9223372036854775807) h7 (fun c hc => by obtain ⟨v, rfl, b⟩ := int_inv hc; exact ⟨v, rfl, b⟩)
  obtain ⟨v8, rfl, b8⟩ := sl_of (AV.int .i64) (fun z : Int => -9223372036854775808 ≤ z ∧ z ≤ 9223372036854775807) h8 (fun c hc => by obtain ⟨v, rfl, b⟩ := int_inv hc; exact ⟨v, rfl, b⟩)
  exact ⟨⟨v0, v1, v2, v3, v4, v5, v6, v7, v8⟩, rfl, ⟨b0, b1, b2, b3, b4, b5, b6, b7, b8⟩⟩
/-- an element's place, a number's next -/
theorem at_map {α : Type} {f : α → AV} {l : List α} {j : Nat} {x : α} (h : l[j]? = some x) : (l.map f).getD j .und = f x := by
  rw [List.getD_eq_getElem?_getD, List.getElem?_map, h]; rfl
theorem get_lt {α : Type} {l : List α} {j : Nat} (h : j < l.length) : ∃ x, l[j]? = some x := ⟨_, List.getElem?_eq_getElem h⟩
theorem wrapS {j : Nat} (h : j ≤ 1000000000000000) : IntKind.i64.wrap ((j : Int) + 1) = ((j + 1 : Nat) : Int) := by rw [IntWalk.i64_in _ (by omega)]; rfl
theorem drop_at {α : Type} {l : List α} {j : Nat} {x : α} (h : l[j]? = some x) : l.drop j = x :: l.drop (j + 1) := by
  obtain ⟨hlt, e⟩ := List.getElem?_eq_some_iff.1 h
  rw [List.drop_eq_getElem_cons hlt, e]
theorem take_at {α : Type} {l : List α} {j : Nat} {x : α} (h : l[j]? = some x) : l.take (j + 1) = l.take j ++ [x] := by
  rw [List.take_add_one, h]; rfl
end Go.Proofs.YthfdbjocpicbmaaDoor
end
section
/-
  Contracts of the functions of the library that this program has.
-/
namespace Go.Proofs
open Go.Shelf
def Tryd.lays169_ren : Go.Shelf.Ren := ⟨fun | 169 => 88 | n => n, fun | 70 => 125 | 9 => 9 | 0 => 0 | 72 => 127 | 37 => 113 | 127 => 163 | 3 => 3 | 5 => 5 | n => n, fun | n => n⟩
theorem Tryd.lays169 : Go.Proofs.Lays.n169 Tryd.prog Tryd.lays169_ren := {
  mixed := by kernel_rfl
  f169 := Tryd.func88.trans (congrArg some (by kernel_rfl))
  t0 := Tryd.underlying0
  a0 := Tryd.isAgg0
  z0 := Tryd.sizeOf0
  v0 := Tryd.zeroValue0
  t3 := Tryd.underlying3
  a3 := Tryd.isAgg3
  z3 := Tryd.sizeOf3
  v3 := Tryd.zeroValue3
  t9 := Tryd.underlying9
  a9 := Tryd.isAgg9
  z9 := Tryd.sizeOf9
  v9 := Tryd.zeroValue9
  t37 := Tryd.underlying113
  a37 := Tryd.isAgg113
  z37 := Tryd.sizeOf113
  v37 := Tryd.zeroValue113
  t70 := Tryd.underlying125
  a70 := Tryd.isAgg125
  z70 := Tryd.sizeOf125
  v70 := Tryd.zeroValue125
  t72 := Tryd.underlying127
  a72 := Tryd.isAgg127
  z72 := Tryd.sizeOf127
  v72 := Tryd.zeroValue127
  t127 := Tryd.underlying163
  a127 := Tryd.isAgg163
  z127 := Tryd.sizeOf163
  v127 := Tryd.zeroValue163 }
theorem Tryd.Builder_Extra_169 : Builder.Extra Tryd.prog Tryd.lays169_ren := {
  sizeBuilder := by kernel_rfl
  liesBuilder := by kernel_rfl
  t5 := Tryd.underlying5
  a5 := Tryd.isAgg5
  z5 := Tryd.sizeOf5
  v5 := Tryd.zeroValue5
  infoByte := by kernel_rfl
  cellsByte := by kernel_rfl
  sizeByte := by kernel_rfl
  neB5 := by decide }
open Go.RowKit in
theorem Tryd.Builder_String_any (B b : Nat) (l : List UInt8) (w : World) (h : Lib.IsBuilder 127 5 B b (Lib.byteCells l) w) (hBw : B ≤ w.heap.size) :
    Calls Tryd.prog 88 #[.pointer (some ⟨b, 0, none⟩)] w fun e w' => e = .returned (.string ⟨l.toArray⟩) ∧ Below B w w' := Any.Builder_String_any Tryd.lays169 Tryd.Builder_Extra_169 B b l w h hBw
def Tryd.lays156_ren : Go.Shelf.Ren := ⟨fun | 156 => 47 | 165 => 86 | 166 => 87 | 169 => 88 | 240 => 121 | 241 => 122 | 276 => 143 | 277 => 144 | n => n, fun | 31 => 29 | 9 => 9 | 3 => 3 | 4 => 4 | 0 => 0 | 20 => 20 | 72 => 127 | 76 => 131 | 70 => 125 | 37 => 113 | 75 => 130 | 127 => 163 | 164 => 182 | 5 => 5 | 80 => 133 | n => n, fun | n => n⟩
theorem Tryd.lays156 : Go.Proofs.Lays.n156 Tryd.prog Tryd.lays156_ren := {
  mixed := by kernel_rfl
  f156 := Tryd.func47.trans (congrArg some (by kernel_rfl))
  f165 := Tryd.func86.trans (congrArg some (by kernel_rfl))
  f166 := Tryd.func87.trans (congrArg some (by kernel_rfl))
  f169 := Tryd.func88.trans (congrArg some (by kernel_rfl))
  f240 := Tryd.func121.trans (congrArg some (by kernel_rfl))
  f241 := Tryd.func122.trans (congrArg some (by kernel_rfl))
  f276 := Tryd.func143.trans (congrArg some (by kernel_rfl))
  f277 := Tryd.func144.trans (congrArg some (by kernel_rfl))
  t0 := Tryd.underlying0
  a0 := Tryd.isAgg0
  z0 := Tryd.sizeOf0
  v0 := Tryd.zeroValue0
  t3 := Tryd.underlying3
  a3 := Tryd.isAgg3
  z3 := Tryd.sizeOf3
  v3 := Tryd.zeroValue3
  t4 := Tryd.underlying4
  a4 := Tryd.isAgg4
  z4 := Tryd.sizeOf4
  v4 := Tryd.zeroValue4
  t9 := Tryd.underlying9
  a9 := Tryd.isAgg9
  z9 := Tryd.sizeOf9
  v9 := Tryd.zeroValue9
  t20 := Tryd.underlying20
  a20 := Tryd.isAgg20
  z20 := Tryd.sizeOf20
  v20 := Tryd.zeroValue20
  t31 := Tryd.underlying29
  a31 := Tryd.isAgg29
  z31 := Tryd.sizeOf29
  v31 := Tryd.zeroValue29
  t37 := Tryd.underlying113
  a37 := Tryd.isAgg113
  z37 := Tryd.sizeOf113
  v37 := Tryd.zeroValue113
  t70 := Tryd.underlying125
  a70 := Tryd.isAgg125
  z70 := Tryd.sizeOf125
  v70 := Tryd.zeroValue125
  t72 := Tryd.underlying127
  a72 := Tryd.isAgg127
  z72 := Tryd.sizeOf127
  v72 := Tryd.zeroValue127
  t75 := Tryd.underlying130
  a75 := Tryd.isAgg130
  z75 := Tryd.sizeOf130
  v75 := Tryd.zeroValue130
  t76 := Tryd.underlying131
  a76 := Tryd.isAgg131
  z76 := Tryd.sizeOf131
  v76 := Tryd.zeroValue131
  t127 := Tryd.underlying163
  a127 := Tryd.isAgg163
  z127 := Tryd.sizeOf163
  v127 := Tryd.zeroValue163
  t164 := Tryd.underlying182
  a164 := Tryd.isAgg182
  z164 := Tryd.sizeOf182
  v164 := Tryd.zeroValue182 }
theorem Tryd.Builder_Extra_156 : Builder.Extra Tryd.prog Tryd.lays156_ren := {
  sizeBuilder := by kernel_rfl
  liesBuilder := by kernel_rfl
  t5 := Tryd.underlying5
  a5 := Tryd.isAgg5
  z5 := Tryd.sizeOf5
  v5 := Tryd.zeroValue5
  infoByte := by kernel_rfl
  cellsByte := by kernel_rfl
  sizeByte := by kernel_rfl
  neB5 := by decide }
open Go.RowKit in
theorem Tryd.strings_Join_none (a : Option Addr) (c : Nat) (sep : ByteArray) (w : World) :
    Calls Tryd.prog 47 #[.slice a 0 c, .string sep] w fun e w' => e = .returned (.string ⟨#[]⟩) ∧ w' = w := Any.strings_Join_none Tryd.lays156 Tryd.Builder_Extra_156 a c sep w
open Go.RowKit in
theorem Tryd.strings_Join (bk o c : Nat) (xs : List ByteArray) (sep : ByteArray) (w : World) (hcells : ∀ (j : Nat) x, xs[j]? = some x → w.cell? ⟨bk, o + j, none⟩ = some (.string x)) (hbk : bk < w.heap.size) (hN : xs.length ≤ 140737488355328) (hcap : xs.length ≤ c) (hlen : (Lib.join (xs.map (·.data.toList)) sep.data.toList).length ≤ 140737488355328) :
    Calls Tryd.prog 47 #[.slice (some ⟨bk, o, none⟩) xs.length c, .string sep] w fun e w' => e = .returned (.string ⟨(Lib.join (xs.map (·.data.toList)) sep.data.toList).toArray⟩) ∧ Below w.heap.size w w' := Any.strings_Join Tryd.lays156 Tryd.Builder_Extra_156 bk o c xs sep w hcells hbk hN hcap hlen
def Tryd.lays137_ren : Go.Shelf.Ren := ⟨fun | 137 => 150 | 217 => 160 | 266 => 170 | n => n, fun | 9 => 9 | 5 => 5 | 3 => 3 | n => n, fun | n => n⟩
theorem Tryd.lays137 : Go.Proofs.Lays.n137 Tryd.prog Tryd.lays137_ren := {
  mixed := by kernel_rfl
  f137 := Tryd.func150.trans (congrArg some (by kernel_rfl))
  f217 := Tryd.func160.trans (congrArg some (by kernel_rfl))
  f266 := Tryd.func170.trans (congrArg some (by kernel_rfl))
  t3 := Tryd.underlying3
  a3 := Tryd.isAgg3
  z3 := Tryd.sizeOf3
  v3 := Tryd.zeroValue3
  t5 := Tryd.underlying5
  a5 := Tryd.isAgg5
  z5 := Tryd.sizeOf5
  v5 := Tryd.zeroValue5
  t9 := Tryd.underlying9
  a9 := Tryd.isAgg9
  z9 := Tryd.sizeOf9
  v9 := Tryd.zeroValue9 }
open Go.RowKit in
theorem Tryd.strings_IndexByte (s : ByteArray) (c : Int) (w : World) :
    Calls Tryd.prog 150 #[.string s, .int .u8 c] w fun e w' => e = .returned (.int .i64 (Lib.indexByte s.data.toList c.toNat.toUInt8)) ∧ w' = w := Any.strings_IndexByte Tryd.lays137 s c w
def Tryd.laysM171_ren : Go.Shelf.Ren := ⟨fun | 171 => 85 | 243 => 120 | 246 => 142 | 283 => 154 | 284 => 155 | 285 => 156 | 286 => 157 | 129 => 166 | 317 => 165 | 318 => 167 | 319 => 168 | 320 => 169 | 337 => 172 | 338 => 173 | n => n, fun | 3 => 3 | 9 => 9 | 2 => 2 | 4 => 4 | 171 => 192 | 0 => 0 | 53 => 174 | 37 => 113 | 5 => 5 | 173 => 195 | 212 => 200 | 51 => 171 | 20 => 20 | 213 => 201 | 46 => 146 | 232 => 209 | 233 => 210 | n => n, fun | 17 => 1 | 18 => 4 | 19 => 5 | n => n⟩
theorem Tryd.laysM171 : Go.Proofs.LaysM.n171 Tryd.prog Tryd.laysM171_ren := {
  mixed := by kernel_rfl
  f129 := Tryd.func166.trans (congrArg some (by kernel_rfl))
  f171 := Tryd.func85.trans (congrArg some (by kernel_rfl))
  f243 := Tryd.func120.trans (congrArg some (by kernel_rfl))
  f246 := Tryd.func142.trans (congrArg some (by kernel_rfl))
  f283 := Tryd.func154.trans (congrArg some (by kernel_rfl))
  f284 := Tryd.func155.trans (congrArg some (by kernel_rfl))
  f285 := Tryd.func156.trans (congrArg some (by kernel_rfl))
  f286 := Tryd.func157.trans (congrArg some (by kernel_rfl))
  f317 := Tryd.func165.trans (congrArg some (by kernel_rfl))
  f318 := Tryd.func167.trans (congrArg some (by kernel_rfl))
  f319 := Tryd.func168.trans (congrArg some (by kernel_rfl))
  f320 := Tryd.func169.trans (congrArg some (by kernel_rfl))
  f337 := Tryd.func172.trans (congrArg some (by kernel_rfl))
  f338 := Tryd.func173.trans (congrArg some (by kernel_rfl))
  t0 := Tryd.underlying0
  a0 := Tryd.isAgg0
  z0 := Tryd.sizeOf0
  v0 := Tryd.zeroValue0
  t2 := Tryd.underlying2
  a2 := Tryd.isAgg2
  z2 := Tryd.sizeOf2
  v2 := Tryd.zeroValue2
  t3 := Tryd.underlying3
  a3 := Tryd.isAgg3
  z3 := Tryd.sizeOf3
  v3 := Tryd.zeroValue3
  t4 := Tryd.underlying4
  a4 := Tryd.isAgg4
  z4 := Tryd.sizeOf4
  v4 := Tryd.zeroValue4
  t5 := Tryd.underlying5
  a5 := Tryd.isAgg5
  z5 := Tryd.sizeOf5
  v5 := Tryd.zeroValue5
  t9 := Tryd.underlying9
  a9 := Tryd.isAgg9
  z9 := Tryd.sizeOf9
  v9 := Tryd.zeroValue9
  t20 := Tryd.underlying20
  a20 := Tryd.isAgg20
  z20 := Tryd.sizeOf20
  v20 := Tryd.zeroValue20
  t37 := Tryd.underlying113
  a37 := Tryd.isAgg113
  z37 := Tryd.sizeOf113
  v37 := Tryd.zeroValue113
  t46 := Tryd.underlying146
  a46 := Tryd.isAgg146
  z46 := Tryd.sizeOf146
  v46 := Tryd.zeroValue146
  t51 := Tryd.underlying171
  a51 := Tryd.isAgg171
  z51 := Tryd.sizeOf171
  v51 := Tryd.zeroValue171
  t53 := Tryd.underlying174
  a53 := Tryd.isAgg174
  z53 := Tryd.sizeOf174
  v53 := Tryd.zeroValue174
  t171 := Tryd.underlying192
  a171 := Tryd.isAgg192
  z171 := Tryd.sizeOf192
  v171 := Tryd.zeroValue192
  t173 := Tryd.underlying195
  a173 := Tryd.isAgg195
  z173 := Tryd.sizeOf195
  v173 := Tryd.zeroValue195
  t212 := Tryd.underlying200
  a212 := Tryd.isAgg200
  z212 := Tryd.sizeOf200
  v212 := Tryd.zeroValue200
  t213 := Tryd.underlying201
  a213 := Tryd.isAgg201
  z213 := Tryd.sizeOf201
  t232 := Tryd.underlying209
  a232 := Tryd.isAgg209
  z232 := Tryd.sizeOf209
  v232 := Tryd.zeroValue209
  t233 := Tryd.underlying210
  a233 := Tryd.isAgg210
  z233 := Tryd.sizeOf210
  v233 := Tryd.zeroValue210
  g17 := by kernel_rfl
  g18 := by kernel_rfl
  g19 := by kernel_rfl
  i0 := by kernel_rfl
  i2 := by kernel_rfl
  i3 := by kernel_rfl
  i4 := by kernel_rfl
  i5 := by kernel_rfl
  i9 := by kernel_rfl
  i20 := by kernel_rfl
  i37 := by kernel_rfl
  i46 := by kernel_rfl
  i51 := by kernel_rfl
  i53 := by kernel_rfl
  i171 := by kernel_rfl
  i173 := by kernel_rfl
  i212 := by kernel_rfl
  i232 := by kernel_rfl
  i233 := by kernel_rfl
  m17 := by kernel_rfl
  m18 := by kernel_rfl
  m19 := by kernel_rfl }
open Go.RowKit Go.Sort Go.Lib in
theorem Tryd.strconv_Itoa (n : Int) (h0 : -9223372036854775808 ≤ n) (h1 : n ≤ 9223372036854775807) (w : World) (htab : Lib.TabIs Tryd.prog w "internal/strconv.uint64pow10" .u64 Lib.pow10Tab) :
    Calls Tryd.prog 85 #[.int .i64 n] w fun e w' => e = .returned (.string ⟨(Lib.itoa n).toArray⟩) ∧ ∃ k os, w' = grow (w.drewN k) os := Any.strconv_Itoa Tryd.laysM171 n h0 h1 w htab
def Tryd.lays145_ren : Go.Shelf.Ren := ⟨fun | 145 => 130 | 220 => 151 | 219 => 149 | 217 => 160 | 225 => 161 | 224 => 162 | 267 => 163 | 266 => 170 | 314 => 171 | n => n, fun | 9 => 9 | 4 => 4 | 59 => 168 | 3 => 3 | 5 => 5 | 46 => 146 | 146 => 172 | 51 => 171 | n => n, fun | 1 => 0 | n => n⟩
theorem Tryd.lays145 : Go.Proofs.Lays.n145 Tryd.prog Tryd.lays145_ren := {
  mixed := by kernel_rfl
  f145 := Tryd.func130.trans (congrArg some (by kernel_rfl))
  f217 := Tryd.func160.trans (congrArg some (by kernel_rfl))
  f219 := Tryd.func149.trans (congrArg some (by kernel_rfl))
  f220 := Tryd.func151.trans (congrArg some (by kernel_rfl))
  f224 := Tryd.func162.trans (congrArg some (by kernel_rfl))
  f225 := Tryd.func161.trans (congrArg some (by kernel_rfl))
  f266 := Tryd.func170.trans (congrArg some (by kernel_rfl))
  f267 := Tryd.func163.trans (congrArg some (by kernel_rfl))
  f314 := Tryd.func171.trans (congrArg some (by kernel_rfl))
  t3 := Tryd.underlying3
  a3 := Tryd.isAgg3
  z3 := Tryd.sizeOf3
  v3 := Tryd.zeroValue3
  t4 := Tryd.underlying4
  a4 := Tryd.isAgg4
  z4 := Tryd.sizeOf4
  v4 := Tryd.zeroValue4
  t5 := Tryd.underlying5
  a5 := Tryd.isAgg5
  z5 := Tryd.sizeOf5
  v5 := Tryd.zeroValue5
  t9 := Tryd.underlying9
  a9 := Tryd.isAgg9
  z9 := Tryd.sizeOf9
  v9 := Tryd.zeroValue9
  t46 := Tryd.underlying146
  a46 := Tryd.isAgg146
  z46 := Tryd.sizeOf146
  v46 := Tryd.zeroValue146
  t51 := Tryd.underlying171
  a51 := Tryd.isAgg171
  z51 := Tryd.sizeOf171
  v51 := Tryd.zeroValue171
  t59 := Tryd.underlying168
  a59 := Tryd.isAgg168
  z59 := Tryd.sizeOf168
  v59 := Tryd.zeroValue168
  t146 := Tryd.underlying172
  a146 := Tryd.isAgg172
  z146 := Tryd.sizeOf172
  v146 := Tryd.zeroValue172
  g1 := by kernel_rfl }
open Go.RowKit Go.Lib in
theorem Tryd.strings_Cut (s sep : ByteArray) (m : Int) (w : World) (hs : s.size < 4294967281) (hm : w.cell? ⟨0, 0, none⟩ = some (.int .i64 m)) :
    Calls Tryd.prog 130 #[.string s, .string sep] w fun e w' => e = .returned (.tuple #[.string ⟨(Lib.cut s.data.toList sep.data.toList).1.toArray⟩, .string ⟨(Lib.cut s.data.toList sep.data.toList).2.1.toArray⟩, .bool (Lib.cut s.data.toList sep.data.toList).2.2]) ∧ ∃ n, w' = w.drewN n := Any.strings_Cut Tryd.lays145 s sep m w hs hm
def Tryd.lays146_ren : Go.Shelf.Ren := ⟨fun | 146 => 55 | 221 => 95 | 268 => 126 | 138 => 127 | 143 => 128 | 195 => 146 | 197 => 147 | 218 => 148 | 219 => 149 | 260 => 159 | 217 => 160 | 225 => 161 | 224 => 162 | 267 => 163 | 266 => 170 | 314 => 171 | n => n, fun | 9 => 9 | 31 => 29 | 3 => 3 | 4 => 4 | 0 => 0 | 105 => 187 | 21 => 21 | 5 => 5 | 46 => 146 | 119 => 203 | 139 => 206 | 138 => 205 | 146 => 172 | 51 => 171 | n => n, fun | 1 => 0 | 3 => 2 | 4 => 3 | n => n⟩
theorem Tryd.lays146 : Go.Proofs.Lays.n146 Tryd.prog Tryd.lays146_ren := {
  mixed := by kernel_rfl
  f138 := Tryd.func127.trans (congrArg some (by kernel_rfl))
  f143 := Tryd.func128.trans (congrArg some (by kernel_rfl))
  f146 := Tryd.func55.trans (congrArg some (by kernel_rfl))
  f195 := Tryd.func146.trans (congrArg some (by kernel_rfl))
  f197 := Tryd.func147.trans (congrArg some (by kernel_rfl))
  f217 := Tryd.func160.trans (congrArg some (by kernel_rfl))
  f218 := Tryd.func148.trans (congrArg some (by kernel_rfl))
  f219 := Tryd.func149.trans (congrArg some (by kernel_rfl))
  f221 := Tryd.func95.trans (congrArg some (by kernel_rfl))
  f224 := Tryd.func162.trans (congrArg some (by kernel_rfl))
  f225 := Tryd.func161.trans (congrArg some (by kernel_rfl))
  f260 := Tryd.func159.trans (congrArg some (by kernel_rfl))
  f266 := Tryd.func170.trans (congrArg some (by kernel_rfl))
  f267 := Tryd.func163.trans (congrArg some (by kernel_rfl))
  f268 := Tryd.func126.trans (congrArg some (by kernel_rfl))
  f314 := Tryd.func171.trans (congrArg some (by kernel_rfl))
  t0 := Tryd.underlying0
  a0 := Tryd.isAgg0
  z0 := Tryd.sizeOf0
  v0 := Tryd.zeroValue0
  t3 := Tryd.underlying3
  a3 := Tryd.isAgg3
  z3 := Tryd.sizeOf3
  v3 := Tryd.zeroValue3
  t4 := Tryd.underlying4
  a4 := Tryd.isAgg4
  z4 := Tryd.sizeOf4
  v4 := Tryd.zeroValue4
  t5 := Tryd.underlying5
  a5 := Tryd.isAgg5
  z5 := Tryd.sizeOf5
  v5 := Tryd.zeroValue5
  t9 := Tryd.underlying9
  a9 := Tryd.isAgg9
  z9 := Tryd.sizeOf9
  v9 := Tryd.zeroValue9
  t21 := Tryd.underlying21
  a21 := Tryd.isAgg21
  z21 := Tryd.sizeOf21
  v21 := Tryd.zeroValue21
  t31 := Tryd.underlying29
  a31 := Tryd.isAgg29
  z31 := Tryd.sizeOf29
  v31 := Tryd.zeroValue29
  t46 := Tryd.underlying146
  a46 := Tryd.isAgg146
  z46 := Tryd.sizeOf146
  v46 := Tryd.zeroValue146
  t51 := Tryd.underlying171
  a51 := Tryd.isAgg171
  z51 := Tryd.sizeOf171
  v51 := Tryd.zeroValue171
  t105 := Tryd.underlying187
  a105 := Tryd.isAgg187
  z105 := Tryd.sizeOf187
  v105 := Tryd.zeroValue187
  t119 := Tryd.underlying203
  a119 := Tryd.isAgg203
  z119 := Tryd.sizeOf203
  t138 := Tryd.underlying205
  a138 := Tryd.isAgg205
  z138 := Tryd.sizeOf205
  v138 := Tryd.zeroValue205
  t139 := Tryd.underlying206
  a139 := Tryd.isAgg206
  z139 := Tryd.sizeOf206
  v139 := Tryd.zeroValue206
  t146 := Tryd.underlying172
  a146 := Tryd.isAgg172
  z146 := Tryd.sizeOf172
  v146 := Tryd.zeroValue172
  g1 := by kernel_rfl
  g3 := by kernel_rfl
  g4 := by kernel_rfl }
open Go.RowKit Go.Lib in
theorem Tryd.strings_Split (s sep : ByteArray) (m : Int) (w : World) (hs : s.size < 4294967281) (hm : w.cell? ⟨0, 0, none⟩ = some (.int .i64 m)) (h1 : 1 ≤ sep.size) :
    Calls Tryd.prog 55 #[.string s, .string sep] w fun e w' =>
      e = .returned (.slice (some ⟨w.heap.size, 0, none⟩) (Lib.countB s sep + 1) (Lib.countB s sep + 1)) ∧ w' = w.alloc (.cells ((Lib.splitB sep 0 (Lib.countB s sep) s).map Value.string).toArray 9) := Any.strings_Split Tryd.lays146 (by kernel_rfl) s sep m w hs hm h1
end Go.Proofs
end
