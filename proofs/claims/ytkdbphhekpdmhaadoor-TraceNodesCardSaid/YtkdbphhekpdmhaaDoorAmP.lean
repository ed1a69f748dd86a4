/-
  The plain machine, sixteenth part: rules of evaluation: whether an operation can be done, and what its value is, as functions; loops.
-/
import Derived.Test.YtkdbphhekpdmhaaDoorAmO
namespace Go.Proofs.YtkdbphhekpdmhaaDoor
open Go.RowKit
set_option linter.unusedVariables false
set_option linter.unusedSimpArgs false

/-- A LOOP: what holds at each round's head, and a number that goes down -/
theorem loop_inv {C : FuncId → List AV → AV → Prop} {b : IR} {Q : XK → St → Prop} (I : Nat → St → Prop) {σ : St} {k : Nat} (h0 : I k σ)
    (hstep : ∀ k σ, I k σ → awp C b (thenQ (fun σ' => ∃ m, m < k ∧ I m σ') Q) σ) : awp C (.loop b) Q σ := by
  have mono : ∀ (n m : Nat) (σ : St), n ≤ m → iter (awp C b) Q n σ → iter (awp C b) Q m σ := by
    intro n
    induction n with
    | zero => intro m σ _ h; exact h.elim
    | succ n ih =>
      intro m σ hm h
      cases m with
      | zero => omega
      | succ m =>
        refine awp_mono b (fun e σ' hq => ?_) σ h
        cases e with
        | normal => exact ih m σ' (by omega) hq
        | exit id => exact hq
        | ret => exact hq
  have key : ∀ (k : Nat) (σ : St), I k σ → iter (awp C b) Q (k + 1) σ := by
    intro k
    induction k using Nat.strongRecOn with
    | ind k ih =>
      intro σ hI
      refine awp_mono b (fun e σ' hq => ?_) σ (hstep k σ hI)
      cases e with
      | normal =>
        obtain ⟨m, hm, hI'⟩ := hq
        exact mono (m + 1) k σ' (by omega) (ih m hm σ' hI')
      | exit id => exact hq
      | ret => exact hq
  exact ⟨k + 1, key k σ h0⟩

/-! ### What a value is -/
def AV.isI : AV → Bool | .int .. => true | _ => false
def AV.ik : AV → IntKind | .int k _ => k | _ => .i64
def AV.iv : AV → Int | .int _ n => n | _ => 0
def AV.isB : AV → Bool | .bool _ => true | _ => false
def AV.bv : AV → Bool | .bool b => b | _ => false
def AV.isS : AV → Bool | .str _ => true | _ => false
def AV.sv : AV → ByteArray | .str s => s | _ => ⟨#[]⟩
def AV.isA : AV → Bool | .agg _ => true | _ => false
def AV.av : AV → List AV | .agg l => l | _ => []
def AV.isTu : AV → Bool | .tup _ => true | _ => false
def AV.tv : AV → List AV | .tup l => l | _ => []
def AV.isC : AV → Bool | .clo .. => true | _ => false
def AV.cf : AV → FuncId | .clo f _ _ => f | _ => 0
def AV.c1 : AV → List AV | .clo _ l _ => l | _ => []
def AV.c2 : AV → List AV | .clo _ _ l => l | _ => []

def binIok (op : BinOp) (b : Int) : Prop := match op with
  | .quo | .rem => b ≠ 0
  | .shl | .shr => False
  | _ => True
def andI (k : IntKind) (a b : Int) : Int := (BitVec.ofInt k.bits a &&& BitVec.ofInt k.bits b).toNat
def orI (k : IntKind) (a b : Int) : Int := (BitVec.ofInt k.bits a ||| BitVec.ofInt k.bits b).toNat
def xorI (k : IntKind) (a b : Int) : Int := (BitVec.ofInt k.bits a ^^^ BitVec.ofInt k.bits b).toNat
def andNotI (k : IntKind) (a b : Int) : Int := (BitVec.ofInt k.bits a &&& ~~~ BitVec.ofInt k.bits b).toNat
def binIV (op : BinOp) (k : IntKind) (a b : Int) : AV := match op with
  | .add => .int k (k.wrap (a + b))
  | .sub => .int k (k.wrap (a - b))
  | .mul => .int k (k.wrap (a * b))
  | .quo => .int k (k.wrap (a.tdiv b))
  | .rem => .int k (a.tmod b)
  | .and => .int k (k.wrap (andI k a b))
  | .or => .int k (k.wrap (orI k a b))
  | .xor => .int k (k.wrap (xorI k a b))
  | .andNot => .int k (k.wrap (andNotI k a b))
  | .eql => .bool (a == b)
  | .neq => .bool (a != b)
  | .lss => .bool (decide (a < b))
  | .leq => .bool (decide (a ≤ b))
  | .gtr => .bool (decide (a > b))
  | .geq => .bool (decide (a ≥ b))
  | _ => .und
theorem binI_ok {op : BinOp} {k : IntKind} {a b : Int} {K : AV → Prop} : binI op k a b K = (binIok op b ∧ K (binIV op k a b)) := by
  cases op <;> simp [binI, binIok, binIV, andI, orI, xorI, andNotI]

def binSok (op : BinOp) (x y : ByteArray) : Prop := match op with
  | .add => x.size + y.size ≤ 9223372036854775807
  | .eql | .neq | .lss | .leq | .gtr | .geq => True
  | _ => False
def binSV (op : BinOp) (x y : ByteArray) : AV := match op with
  | .add => .str (x ++ y)
  | .eql => .bool (x.toList == y.toList)
  | .neq => .bool (!(x.toList == y.toList))
  | .lss => .bool (Op.bytesLess x.toList y.toList)
  | .leq => .bool (Op.bytesLess x.toList y.toList || x.toList == y.toList)
  | .gtr => .bool (!(Op.bytesLess x.toList y.toList || x.toList == y.toList))
  | .geq => .bool (!(Op.bytesLess x.toList y.toList))
  | _ => .und
theorem binS_ok {op : BinOp} {a b : ByteArray} {K : AV → Prop} : binS op a b K = (binSok op a b ∧ K (binSV op a b)) := by
  cases op <;> simp [binS, binSok, binSV]

def cellsOk (agg : Bool) (z : Nat) (cs : List AV) : Prop := match agg with
  | true => z ≤ cs.length
  | false => 0 < cs.length
def cellsVal (agg : Bool) (z : Nat) (cs : List AV) : AV := match agg with
  | true => .agg (cs.take z)
  | false => cs.headD .und
theorem cellsV_ok {agg : Bool} {z : Nat} {cs : List AV} {K : AV → Prop} : cellsV agg z cs K = (cellsOk agg z cs ∧ K (cellsVal agg z cs)) := by
  cases agg
  · cases cs <;> simp [cellsV, cellsOk, cellsVal]
  · simp [cellsV, cellsOk, cellsVal]

/-- an object's elements -/
def objCells : Option Arr → List AV | some a => a.cells | none => []
def objZ : Option Arr → Nat | some a => a.z | none => 0
def objProt : Option Arr → Nat | some a => a.prot | none => 0

/-- the cells that a pointer leads to -/
def ptrOk (hid : List Nat) (σ : St) : AV → Prop
  | .rp _ => True
  | .ptr r i _ => hid.contains r = false ∧ i < (objCells (σ.H r)).length
  | _ => False
def ptrCells (σ : St) : AV → List AV
  | .rp cs => cs
  | .ptr r i f => ((objCells (σ.H r)).getD i .und).cells.drop f
  | _ => []

def lenOk (hid : List Nat) (σ : St) : Bool → AV → Prop
  | false, .sl _ => True
  | false, .rs r _ _ => hid.contains r = false ∧ (σ.H r).isSome = true
  | true, .str _ => True
  | _, _ => False
def lenVal : AV → AV
  | .sl l => .int .i64 l.length
  | .rs _ _ len => .int .i64 len
  | .str s => .int .i64 s.size
  | _ => .und

def faOk (hid : List Nat) (σ : St) : AV → Prop
  | .rp _ => True
  | .ptr r _ _ => hid.contains r = false ∧ (σ.H r).isSome = true
  | _ => False
def faVal (off : Nat) : AV → AV
  | .rp cs => .rp (cs.drop off)
  | .ptr r i f => .ptr r i (f + off)
  | _ => .und

def iaOk (hid : List Nat) (σ : St) (z : Nat) (n : Int) : AV → Prop
  | .sl l => (0 ≤ n ∧ n < l.length) ∧ (l.getD n.toNat .und).cells.length = z
  | .rs r _ len => hid.contains r = false ∧ (0 ≤ n ∧ n < len) ∧ (σ.H r).isSome = true ∧ objZ (σ.H r) = z
  | _ => False
def iaVal (n : Int) : AV → AV
  | .sl l => .rp (l.getD n.toNat .und).cells
  | .rs r off _ => .ptr r (off + n.toNat) 0
  | _ => .und

def slcLen : AV → Nat
  | .str s => s.size
  | .sl l => l.length
  | .rs _ _ len => len
  | _ => 0
def bdOk (σ : St) : Option IOpd → Prop
  | none => True
  | some x => (σ.get x).isI = true ∧ 0 ≤ (σ.get x).iv
def bdVal (σ : St) (d : Nat) : Option IOpd → Nat
  | none => d
  | some x => (σ.get x).iv.toNat
def slcOk (hid : List Nat) (σ : St) (z : Nat) : Bool → AV → Prop
  | true, .str _ => True
  | false, .sl l => ∀ d, d ∈ l → d.cells.length = z
  | false, .rs r _ _ => hid.contains r = false ∧ (σ.H r).isSome = true ∧ objZ (σ.H r) = z
  | _, _ => False
def slcVal (σ : St) (lo : Bool) (m h : Nat) : AV → AV
  | .str s => .str (s.extract m h)
  | .sl l => .sl ((l.take h).drop m)
  | .rs r off _ => if lo then .sl (((objCells (σ.H r)).drop (off + m)).take (h - m)) else .rs r off h
  | _ => .und
def slcFz (lo : Bool) : AV → List Nat
  | .rs r _ _ => if lo then [r] else []
  | _ => []

/-- by itself -/
def byOk (hid : List Nat) (σ : St) : AV → Prop
  | .rs r _ _ => hid.contains r = false ∧ (σ.H r).isSome = true
  | .ptr r i _ => hid.contains r = false ∧ i < (objCells (σ.H r)).length
  | .und => False
  | .own .. => False
  | .clom .. => False
  | .mp .. => False
  | _ => True
def byVal (σ : St) : AV → AV
  | .rs r off len => .sl (((objCells (σ.H r)).drop off).take len)
  | .ptr r i f => .rp (((objCells (σ.H r)).getD i .und).cells.drop f)
  | v => v
def byFz : AV → List Nat
  | .rs r _ _ => [r]
  | .ptr r _ _ => [r]
  | _ => []

theorem byval_ok {hid : List Nat} {σ : St} {v : AV} : (byOk hid σ v → σ.byval hid v = some (byVal σ v, byFz v)) ∧ (¬ byOk hid σ v → σ.byval hid v = none) := by
  cases v with
  | rs r off len =>
    simp only [byOk, St.byval, byVal, byFz]
    cases hc : hid.contains r with
    | true => simp
    | false =>
      cases ha : σ.H r with
      | none => simp
      | some arr => simp [objCells]
  | ptr r i f =>
    simp only [byOk, St.byval, byVal, byFz]
    cases hc : hid.contains r with
    | true => simp
    | false =>
      cases ha : σ.H r with
      | none => simp [objCells]
      | some arr =>
        simp only [objCells, true_and, Bool.false_eq_true, if_false]
        rcases Nat.lt_or_ge i arr.cells.length with h | h
        · simp [h, List.getElem?_eq_getElem h]
        · simp [show ¬ i < arr.cells.length by omega, List.getElem?_eq_none h]
  | _ => simp [byOk, St.byval, byVal, byFz]

def byOks (hid : List Nat) (σ : St) : List AV → Prop
  | [] => True
  | v :: l => byOk hid σ v ∧ byOks hid σ l
def byVals (σ : St) : List AV → List AV
  | [] => []
  | v :: l => byVal σ v :: byVals σ l
def byFzs : List AV → List Nat
  | [] => []
  | v :: l => byFz v ++ byFzs l
theorem byvals_ok {hid : List Nat} {σ : St} : ∀ {l : List AV}, (byOks hid σ l → σ.byvals hid l = some (byVals σ l, byFzs l)) ∧ (¬ byOks hid σ l → σ.byvals hid l = none)
  | [] => by simp [byOks, St.byvals, byVals, byFzs]
  | v :: l => by
    obtain ⟨h1, h2⟩ := byval_ok (hid := hid) (σ := σ) (v := v)
    obtain ⟨h3, h4⟩ := byvals_ok (hid := hid) (σ := σ) (l := l)
    simp only [byOks, St.byvals, byVals, byFzs]
    by_cases a : byOk hid σ v
    · rw [h1 a]
      by_cases b : byOks hid σ l
      · rw [h3 b]; simp [a, b]
      · rw [h4 b]; simp [a, b]
    · rw [h2 a]; simp [a]

/-- parts laid over cells -/
def mxOk (y : AV) : AV → Prop
  | .int _ _ => y.isI = true
  | .str _ => y.isS = true
  | _ => False
def mxVal (isMax : Bool) (y : AV) : AV → AV
  | .int k a => .int k (if isMax then (if y.iv > a then y.iv else a) else (if y.iv < a then y.iv else a))
  | .str a => .str (if isMax then mxS a y.sv else mnS a y.sv)
  | _ => .und
def okBld (n : Nat) : List Part → List AV → Prop
  | p :: ps, v :: vs => v.cells.length = p.z ∧ p.off + p.z ≤ n ∧ okBld n ps vs
  | [], [] => True
  | _, _ => False
def valBld : List AV → List Part → List AV → List AV
  | cs, p :: ps, v :: vs => valBld (cs.take p.off ++ v.cells ++ cs.drop (p.off + p.z)) ps vs
  | cs, _, _ => cs
theorem fillV_ok : ∀ {ps : List Part} {vs : List AV} {cs : List AV}, okBld cs.length ps vs → fillV cs ((ps.zip vs).map fun q => (q.1.off, q.1.z, q.2)) = some (valBld cs ps vs)
  | [], [], cs, _ => rfl
  | p :: ps, v :: vs, cs, h => by
    obtain ⟨h1, h2, h3⟩ := h
    simp only [List.zip_cons_cons, List.map_cons, fillV, valBld]
    rw [if_pos ⟨h1, h2⟩]
    refine fillV_ok ?_
    have e : (cs.take p.off ++ v.cells ++ cs.drop (p.off + p.z)).length = cs.length := by
      rw [List.length_append, List.length_append, List.length_take, List.length_drop, h1]; omega
    rw [e]; exact h3
  | [], _ :: _, cs, h => h.elim
  | _ :: _, [], cs, h => h.elim

/-- can an operation of the value kind be done? -/
def okV (hid : List Nat) (σ : St) : IOp → Prop
  | .mv x => True
  | .mvs x => (σ.get x).isS = true
  | .pick c x y => (σ.get c).isB = true
  | .bin op x y => if (σ.get x).isI then (σ.get y).isI = true ∧ (σ.get x).ik = (σ.get y).ik ∧ binIok op (σ.get y).iv else (σ.get x).isS = true ∧ (σ.get y).isS = true ∧ binSok op (σ.get x).sv (σ.get y).sv
  | .beq _ x y => (σ.get x).isB = true ∧ (σ.get y).isB = true
  | .feq _ sh x y => (σ.get x).isA = true ∧ (σ.get y).isA = true ∧ okF (σ.get x).av (σ.get y).av sh
  | .bld zero ps => byOks hid σ (ps.map fun p => σ.get p.x) ∧ okBld zero.length ps (byVals σ (ps.map fun p => σ.get p.x))
  | .un .not x => (σ.get x).isB = true
  | .un .neg x => (σ.get x).isI = true
  | .ext i x => (σ.get x).isTu = true ∧ i < (σ.get x).tv.length
  | .load z agg p => ptrOk hid σ (σ.get p) ∧ cellsOk agg z (ptrCells σ (σ.get p))
  | .faddr _ p => faOk hid σ (σ.get p)
  | .fld off z agg x => (σ.get x).isA = true ∧ cellsOk agg z ((σ.get x).av.drop off)
  | .iaddr z x i => (σ.get i).isI = true ∧ iaOk hid σ z (σ.get i).iv (σ.get x)
  | .idx x i => (σ.get i).isI = true ∧ (σ.get x).isS = true ∧ 0 ≤ (σ.get i).iv ∧ (σ.get i).iv < (σ.get x).sv.size
  | .idxA len z agg x i => (σ.get i).isI = true ∧ (σ.get x).isA = true ∧ (0 ≤ (σ.get i).iv ∧ (σ.get i).iv < len) ∧ cellsOk agg z ((σ.get x).av.drop ((σ.get i).iv.toNat * z))
  | .slc str z x lo hi => slcOk hid σ z str (σ.get x) ∧ bdOk σ hi ∧ bdOk σ lo ∧ bdVal σ (slcLen (σ.get x)) hi ≤ slcLen (σ.get x) ∧ bdVal σ 0 lo ≤ bdVal σ (slcLen (σ.get x)) hi
  | .len str x => lenOk hid σ str (σ.get x)
  | .mx _ x y => mxOk (σ.get y) (σ.get x)
  | .conv _ x => (σ.get x).isI = true
  | .mkfn _ first caps => byOks hid σ (first.map σ.get) ∧ byOks hid σ (caps.map σ.get)
  | _ => False

def valV (σ : St) : IOp → AV
  | .mv x => σ.get x
  | .mvs x => σ.get x
  | .pick c x y => if (σ.get c).bv then σ.get x else σ.get y
  | .bin op x y => if (σ.get x).isI then binIV op (σ.get x).ik (σ.get x).iv (σ.get y).iv else binSV op (σ.get x).sv (σ.get y).sv
  | .beq neq x y => .bool (if neq then !((σ.get x).bv == (σ.get y).bv) else (σ.get x).bv == (σ.get y).bv)
  | .feq neq sh x y => .bool (if neq then !(valF (σ.get x).av (σ.get y).av sh) else valF (σ.get x).av (σ.get y).av sh)
  | .bld zero ps => .agg (valBld zero ps (byVals σ (ps.map fun p => σ.get p.x)))
  | .un .not x => .bool (!(σ.get x).bv)
  | .un .neg x => .int (σ.get x).ik ((σ.get x).ik.wrap (0 - (σ.get x).iv))
  | .ext i x => (σ.get x).tv.getD i .und
  | .load z agg p => cellsVal agg z (ptrCells σ (σ.get p))
  | .faddr off p => faVal off (σ.get p)
  | .fld off z agg x => cellsVal agg z ((σ.get x).av.drop off)
  | .iaddr z x i => iaVal (σ.get i).iv (σ.get x)
  | .idx x i => .int .u8 ((σ.get x).sv.data.toList.getD (σ.get i).iv.toNat 0).toNat
  | .idxA len z agg x i => cellsVal agg z ((σ.get x).av.drop ((σ.get i).iv.toNat * z))
  | .slc str z x lo hi => slcVal σ lo.isSome (bdVal σ 0 lo) (bdVal σ (slcLen (σ.get x)) hi) (σ.get x)
  | .len _ x => lenVal (σ.get x)
  | .mx isMax x y => mxVal isMax (σ.get y) (σ.get x)
  | .conv k x => .int k (k.wrap (σ.get x).iv)
  | .mkfn f first caps => .clo f (byVals σ (first.map σ.get)) (byVals σ (caps.map σ.get))
  | _ => .und

def fzV (σ : St) : IOp → List Nat
  | .slc _ _ x lo _ => slcFz lo.isSome (σ.get x)
  | .mkfn _ first caps => byFzs (first.map σ.get) ++ byFzs (caps.map σ.get)
  | .bld _ ps => byFzs (ps.map fun p => σ.get p.x)
  | _ => []

theorem bound_ok {σ : St} {x : Option IOpd} {d : Nat} {K : Nat → Prop} : bound σ x d K = (bdOk σ x ∧ K (bdVal σ d x)) := by
  cases x with
  | none => simp [bound, bdOk, bdVal]
  | some x =>
    simp only [bound, bdOk, bdVal]
    cases hx : σ.get x <;> simp [AV.isI, AV.iv]

theorem evalV_ok {hid : List Nat} {σ : St} {K : AV → List Nat → Prop} {io : IOp} (h : okV hid σ io ∧ K (valV σ io) (fzV σ io)) : evalV hid σ K io := by
  obtain ⟨h1, h2⟩ := h
  cases io with
  | mv x => exact h2
  | mvs x =>
    simp only [okV, valV, fzV, evalV] at *
    cases hx : σ.get x <;> simp_all [AV.isS]
  | pick c x y =>
    simp only [okV, valV, fzV, evalV] at *
    cases hc : σ.get c <;> rw [hc] at h1 h2 <;> simp [AV.isB] at h1
    rename_i b
    cases b <;> simpa [AV.bv] using h2
  | bin op x y =>
    simp only [okV, valV, fzV, evalV] at *
    cases hx : σ.get x <;> rw [hx] at h1 h2 <;> simp [AV.isI, AV.isS] at h1
    · cases hy : σ.get y <;> rw [hy] at h1 h2 <;> simp [AV.isI] at h1
      simp only [binI_ok]
      exact ⟨by simpa [AV.ik] using h1.1, by simpa [AV.iv] using h1.2, by simpa [AV.isI, AV.ik, AV.iv] using h2⟩
    · cases hy : σ.get y <;> rw [hy] at h1 h2 <;> simp [AV.isS] at h1
      simp only [binS_ok]
      exact ⟨by simpa [AV.sv] using h1, by simpa [AV.isI, AV.sv] using h2⟩
  | beq neq x y =>
    simp only [okV, valV, fzV, evalV] at *
    cases hx : σ.get x <;> rw [hx] at h1 h2 <;> simp [AV.isB] at h1
    cases hy : σ.get y <;> rw [hy] at h1 h2 <;> simp [AV.isB] at h1
    exact h2
  | feq neq sh x y =>
    simp only [okV, valV, fzV, evalV] at *
    cases hx : σ.get x <;> rw [hx] at h1 h2 <;> simp only [AV.isA, Bool.false_eq_true, false_and] at h1
    cases hy : σ.get y <;> rw [hy] at h1 h2 <;> simp only [AV.isA, Bool.false_eq_true, false_and, and_false] at h1
    exact ⟨h1.2.2, h2⟩
  | bld zero ps =>
    simp only [okV, valV, fzV, evalV] at *
    rw [byvals_ok.1 h1.1]
    simp only [fillV_ok h1.2]
    exact h2
  | un op x =>
    cases op <;> simp only [okV, valV, fzV, evalV] at *
    · cases hx : σ.get x <;> rw [hx] at h1 h2 <;> simp [AV.isI] at h1
      exact h2
    · cases hx : σ.get x <;> rw [hx] at h1 h2 <;> simp [AV.isB] at h1
      exact h2
  | ext i x =>
    simp only [okV, valV, fzV, evalV] at *
    cases hx : σ.get x <;> rw [hx] at h1 h2 <;> simp [AV.isTu, AV.tv] at h1
    rename_i vs
    simp only [AV.tv] at h2
    rw [List.getD_eq_getElem?_getD, List.getElem?_eq_getElem h1] at h2
    simp only [List.getElem?_eq_getElem h1]
    exact h2
  | load z agg p =>
    simp only [okV, valV, fzV, evalV] at *
    cases hp : σ.get p <;> rw [hp] at h1 h2 <;> simp only [ptrOk, ptrCells, false_and] at h1 h2 <;> try exact h1.elim
    · simp only [cellsV_ok]; exact ⟨h1.2, h2⟩
    · rename_i r i f
      obtain ⟨⟨g1, g2⟩, g3⟩ := h1
      refine ⟨g1, ?_⟩
      cases ha : σ.H r with
      | none => rw [ha] at g2; simp [objCells] at g2
      | some arr =>
        rw [ha] at g2 g3 h2
        simp only [objCells] at g2 g3 h2
        rw [List.getD_eq_getElem?_getD, List.getElem?_eq_getElem g2] at g3 h2
        simp only [List.getElem?_eq_getElem g2, cellsV_ok]
        exact ⟨g3, h2⟩
  | faddr off p =>
    simp only [okV, valV, fzV, evalV] at *
    cases hp : σ.get p <;> rw [hp] at h1 h2 <;> simp only [faOk, faVal] at h1 h2 <;> try exact h1.elim
    · exact h2
    · rename_i r i f
      refine ⟨h1.1, ?_⟩
      cases ha : σ.H r with
      | none => rw [ha] at h1; cases h1.2
      | some arr => exact h2
  | fld off z agg x =>
    simp only [okV, valV, fzV, evalV] at *
    cases hx : σ.get x <;> rw [hx] at h1 h2 <;> simp only [AV.isA, AV.av, Bool.false_eq_true, false_and] at h1 h2
    simp only [cellsV_ok]
    exact ⟨h1.2, h2⟩
  | iaddr z x i =>
    simp only [okV, valV, fzV, evalV] at *
    cases hi : σ.get i <;> rw [hi] at h1 h2 <;> simp only [AV.isI, AV.iv, Bool.false_eq_true, false_and] at h1 h2
    cases hx : σ.get x <;> rw [hx] at h1 h2 <;> simp only [iaOk, iaVal, and_false] at h1 h2
    · exact ⟨h1.2.1, h1.2.2, h2⟩
    · rename_i r off len
      obtain ⟨-, g1, g2, g3, g4⟩ := h1
      refine ⟨g1, g2, ?_⟩
      cases ha : σ.H r with
      | none => rw [ha] at g3; cases g3
      | some arr => rw [ha] at g4; exact ⟨g4, h2⟩
  | idx x i =>
    simp only [okV, valV, fzV, evalV] at *
    cases hi : σ.get i <;> rw [hi] at h1 h2 <;> simp only [AV.isI, AV.iv, Bool.false_eq_true, false_and] at h1 h2
    cases hx : σ.get x <;> rw [hx] at h1 h2 <;> simp only [AV.isS, AV.sv, Bool.false_eq_true, false_and, and_false] at h1 h2
    exact ⟨h1.2.2, h2⟩
  | idxA len z agg x i =>
    simp only [okV, valV, fzV, evalV] at *
    cases hi : σ.get i <;> rw [hi] at h1 h2 <;> simp only [AV.isI, AV.iv, Bool.false_eq_true, false_and] at h1 h2
    cases hx : σ.get x <;> rw [hx] at h1 h2 <;> simp only [AV.isA, AV.av, Bool.false_eq_true, false_and, and_false] at h1 h2
    simp only [cellsV_ok]
    exact ⟨h1.2.2.1, h1.2.2.2, h2⟩
  | slc str z x lo hi =>
    simp only [okV, valV, fzV, evalV] at *
    obtain ⟨g1, g2, g3, g4, g5⟩ := h1
    cases str
    · cases hx : σ.get x <;> rw [hx] at g1 g4 g5 h2 <;> simp only [slcOk, slcLen, slcVal, slcFz] at g1 g4 g5 h2 <;> try exact g1.elim
      · simp only [bound_ok]
        exact ⟨g2, g4, g3, g5, g1, h2⟩
      · rename_i r off len
        refine ⟨g1.1, ?_⟩
        cases ha : σ.H r with
        | none => rw [ha] at g1; cases g1.2.1
        | some arr =>
          rw [ha] at g1 h2
          refine ⟨g1.2.2, ?_⟩
          rw [bound_ok]
          refine ⟨g2, g4, ?_⟩
          cases lo with
          | none => simpa [slcEnd] using h2
          | some lo =>
            simp only [slcEnd, bound_ok]
            exact ⟨g3, g5, by simpa [objCells] using h2⟩
    · cases hx : σ.get x <;> rw [hx] at g1 g4 g5 h2 <;> simp only [slcOk, slcLen, slcVal, slcFz] at g1 g4 g5 h2 <;> try exact g1.elim
      simp only [bound_ok]
      exact ⟨g2, g4, g3, g5, h2⟩
  | len str x =>
    simp only [okV, valV, fzV, evalV] at *
    cases str
    · cases hx : σ.get x <;> rw [hx] at h1 h2 <;> simp only [lenOk, lenVal] at h1 h2 <;> try exact h1.elim
      · exact h2
      · rename_i r off len
        refine ⟨h1.1, ?_⟩
        cases ha : σ.H r with
        | none => rw [ha] at h1; cases h1.2
        | some arr => exact h2
    · cases hx : σ.get x <;> rw [hx] at h1 h2 <;> simp only [lenOk, lenVal] at h1 h2 <;> try exact h1.elim
      exact h2
  | mx b x y =>
    simp only [okV, valV, fzV, evalV] at *
    cases hx : σ.get x <;> rw [hx] at h1 h2 <;> simp only [mxOk, Bool.false_eq_true] at h1
    · cases hy : σ.get y <;> rw [hy] at h1 h2 <;> simp only [AV.isI, Bool.false_eq_true, and_false] at h1
      exact h2
    · cases hy : σ.get y <;> rw [hy] at h1 h2 <;> simp only [AV.isS, Bool.false_eq_true, and_false] at h1
      exact h2
  | conv k x =>
    simp only [okV, valV, fzV, evalV] at *
    cases hx : σ.get x <;> rw [hx] at h1 h2 <;> simp only [AV.isI, Bool.false_eq_true] at h1
    exact h2
  | mkfn f first caps =>
    simp only [okV, valV, fzV, evalV] at *
    rw [byvals_ok.1 h1.1, byvals_ok.1 h1.2]
    exact h2
  | _ => exact h1.elim
end Go.Proofs.YtkdbphhekpdmhaaDoor
