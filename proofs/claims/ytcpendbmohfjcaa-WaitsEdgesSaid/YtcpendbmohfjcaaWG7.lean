/-
  Part 7 of a proof: AmQ, AmR, WaA, WbA, WaB, WaC, Glue.
-/
import Derived.SizedLaws
import Derived.OpenShut
import Derived.Test.YtcpendbmohfjcaaWG6
section
/-
  The plain machine, seventeenth part: the same evaluation in a form that simp can do.
-/
namespace Go.Proofs.Ytcpendbmohfjcaa
open Go.RowKit
set_option linter.unusedVariables false
set_option linter.unusedSimpArgs false
def oneObj (z : Nat) (ty : TypeId) (d : AV) : Option Arr := some ⟨z, ty, [d], 0⟩
def allOne (z : Nat) : List AV → Prop
  | [] => True
  | d :: l => (d.cells.length = z ∧ d.cells.all AV.one = true) ∧ allOne z l
theorem allOne_mem {z : Nat} : ∀ {l : List AV}, allOne z l → ∀ d, d ∈ l → d.cells.length = z ∧ d.cells.all AV.one = true
  | d :: l, h, x, hx => by
    rcases List.mem_cons.1 hx with e | e
    · subst e; exact h.1
    · exact allOne_mem h.2 x e
/-- behind a call -/
def resSt (σ : St) (d : Nat) (fz : List Nat) : AV → St
  | .own z ty l => (σ.fzs fz).made d (.rs d 0 l.length) (some ⟨z, ty, l, 0⟩)
  | r => if r.flatB then σ.made d r none else (σ.fzs fz).made d r none
def resName (hid : List Nat) (d : Nat) : AV → Bool
  | .own .. => !hid.contains d
  | r => nameOk hid r
/-- a store -/
def stOk (σ : St) (z : Nat) (v : AV) : AV → Prop
  | .ptr r i f => byOk [] σ v ∧ i < (objCells (σ.H r)).length ∧ (byVal σ v).cells.length = z ∧ f + z ≤ ((objCells (σ.H r)).getD i .und).cells.length ∧ objProt ((σ.fzs (byFz v)).H r) ≤ i ∧ (byVal σ v).cells.all AV.one = true
  | _ => False
def stArr (σ : St) (z : Nat) (v : AV) (i f : Nat) : Option Arr → Option Arr
  | some a => some ⟨a.z, a.ty, a.cells.set i ((a.cells.getD i .und).patch f z (byVal σ v)), a.prot⟩
  | none => none
def stSt (σ : St) (z : Nat) (v : AV) : AV → St
  | .ptr r i f => ⟨σ.T, upd (σ.fzs (byFz v)).H r (stArr σ z v i f ((σ.fzs (byFz v)).H r))⟩
  | _ => σ
/-- a store of an own slice into a cell -/
def stpOk (σ : St) (z : Nat) : AV → AV → Prop
  | .rs q _ _, .ptr r i f => z = 1 ∧ i < (objCells (σ.H r)).length ∧ f + 1 ≤ ((objCells (σ.H r)).getD i .und).cells.length ∧ objProt (σ.H r) ≤ i ∧ (σ.H q).isSome = true
  | .sl _, .ptr r i f => z = 1 ∧ i < (objCells (σ.H r)).length ∧ f + 1 ≤ ((objCells (σ.H r)).getD i .und).cells.length ∧ objProt (σ.H r) ≤ i
  | _, _ => False
def stpArr (c : AV) (i f : Nat) : Option Arr → Option Arr
  | some a => some ⟨a.z, a.ty, a.cells.set i ((a.cells.getD i .und).patch f 1 c), a.prot⟩
  | none => none
def stpSt (σ : St) (u : Value) : AV → AV → St
  | .rs q off len, .ptr r i f => ⟨upd σ.T (vt r (i * objZ (σ.H r) + f)) (.vrs q off len u), upd σ.H r (stpArr (.cst u) i f (σ.H r))⟩
  | .sl l, .ptr r i f => ⟨σ.T, upd σ.H r (stpArr (.sl l) i f (σ.H r))⟩
  | _, _ => σ
/-- the exact value that a cell holds is some value -/
def anyCell (p : Value → Prop) : Prop := ∀ u : Value, u.oneCell' = true → p u
theorem anyCell.intro {p : Value → Prop} (h : ∀ u : Value, u.oneCell' = true → p u) : anyCell p := h
/-- an own slice's elements are made zero -/
def clOk (σ : St) (z : Nat) (d : AV) : AV → Prop
  | .rs r off len => (σ.H r).isSome = true ∧ objZ (σ.H r) = z ∧ objProt (σ.H r) ≤ off ∧ d.cells.length = z ∧ d.cells.all AV.one = true
  | _ => False
def clArr (d : AV) (off len : Nat) : Option Arr → Option Arr
  | some a => some ⟨a.z, a.ty, a.cells.take off ++ List.replicate len d ++ a.cells.drop (off + len), a.prot⟩
  | none => none
def clSt (σ : St) (d : AV) : AV → St
  | .rs r off len => ⟨σ.T, upd σ.H r (clArr d off len (σ.H r))⟩
  | _ => σ
/-- a store of a head -/
def stHOk (F0 hid wr : List Nat) (σ : St) (z : Nat) (v : AV) : AV → Prop
  | .ptr r i f => wr.contains r = true ∧ hid.contains r = false ∧ F0.contains r = false ∧ byOk hid σ v ∧ (byFz v).all F0.contains = true ∧ i < (objCells (σ.H r)).length ∧ (byVal σ v).cells.length = z ∧ f + z ≤ ((objCells (σ.H r)).getD i .und).cells.length ∧ objProt (σ.H r) ≤ i ∧ (byVal σ v).cells.all AV.one = true
  | _ => False
def stHSt (σ : St) (z : Nat) (v : AV) : AV → St
  | .ptr r i f => ⟨σ.T, upd σ.H r (stArr σ z v i f (σ.H r))⟩
  | _ => σ
/-- an append -/
def apOk (σ : St) (z ty bytes : Nat) (v : AV) : AV → Prop
  | .rs r off len => byOk [] σ v ∧ (∃ l, byVal σ v = .sl l ∧ (σ.H r).isSome = true ∧ objZ (σ.H r) = z ∧ (objTy (σ.H r) = ty) ∧ objProt ((σ.fzs (byFz v)).H r) ≤ off + len ∧ fitsV (len + l.length) bytes ∧ r < 1000 ∧ ∀ d, d ∈ l → d.cells.length = z ∧ d.cells.all AV.one = true)
  | _ => False
where objTy : Option Arr → Nat | some a => a.ty | none => 0
def slOf : AV → List AV | .sl l => l | _ => []
def apArr (l : List AV) (len : Nat) : Option Arr → Option Arr
  | some a => some ⟨a.z, a.ty, a.cells.take len ++ l, a.prot⟩
  | none => none
def apSt (σ : St) (d : Nat) (v : AV) : AV → St
  | .rs r off len => ⟨upd (sweep σ.T r) d (.rs r off (len + (slOf (byVal σ v)).length)), upd (σ.fzs (byFz v)).H r (apArr (slOf (byVal σ v)) (off + len) ((σ.fzs (byFz v)).H r))⟩
  | _ => σ
/-- an append to a tail may lay it anew -/
def apTwo : AV → Prop
  | .rs _ 0 _ => False
  | .rs _ (_ + 1) _ => True
  | _ => False
def apArr2 (l : List AV) (off len : Nat) : Option Arr → Option Arr
  | some a => some ⟨a.z, a.ty, (a.cells.drop off).take len ++ l, 0⟩
  | none => none
def apSt2 (σ : St) (d : Nat) (v : AV) : AV → St
  | .rs r off len => ⟨upd (sweep σ.T r) d (.rs r 0 (len + (slOf (byVal σ v)).length)), upd (σ.fzs (byFz v)).H r (apArr2 (slOf (byVal σ v)) off len ((σ.fzs (byFz v)).H r))⟩
  | _ => σ
/-- is it nil? -/
def nilOk (σ : St) : AV → Prop
  | .sl _ => True
  | .rs r _ _ => (σ.H r).isSome = true
  | _ => False
def nilMay : AV → Prop
  | .sl l => l.isEmpty = true
  | .rs _ _ len => len = 0
  | _ => False
/-- a call: what it answers, and then the rest -/
def Calling (C : FuncId → List AV → AV → Prop) (f : FuncId) (args : List AV) (hid : List Nat) (d : Nat) (fz : List Nat) (σ : St) (R : St → (St → Prop) → Prop) (K : St → Prop) : Prop :=
  ∃ r, C f args r ∧ resName hid d r = true ∧ R (resSt σ d fz r) K
/-- an operation; R is the rest, K what follows behind it -/
def runOp (C : FuncId → List AV → AV → Prop) (R : St → (St → Prop) → Prop) (K : St → Prop) (σ : St) (d : Nat) (hid : List Nat) : IOp → Prop
  | .alloc z ty zero => zero.cells.length = z ∧ 0 < z ∧ zero.cells.all AV.one = true ∧ hid.contains d = false ∧ R (σ.made d (.ptr d 0 0) (oneObj z ty zero)) K
  | .box z ty x => byOk hid σ (σ.get x) ∧ (byVal σ (σ.get x)).cells.length = z ∧ 0 < z ∧ (byVal σ (σ.get x)).cells.all AV.one = true ∧ hid.contains d = false ∧ R ((σ.fzs (byFz (σ.get x))).made d (.ptr d 0 0) (oneObj z ty (byVal σ (σ.get x)))) K
  | .mknil z ty => 0 < z ∧ hid.contains d = false ∧ R (σ.made d (.rs d 0 0) (some ⟨z, ty, [], 0⟩)) K
  | .bsl z ty xs => byOks hid σ (xs.map σ.get) ∧ 0 < z ∧ allOne z (byVals σ (xs.map σ.get)) ∧ hid.contains d = false ∧ R ((σ.fzs (byFzs (xs.map σ.get))).made d (.rs d 0 (byVals σ (xs.map σ.get)).length) (some ⟨z, ty, byVals σ (xs.map σ.get), 0⟩)) K
  | .callv fx xs => (σ.get fx).isC = true ∧ byOks hid σ (xs.map σ.get) ∧ Calling C (σ.get fx).cf ((σ.get fx).c1 ++ byVals σ (xs.map σ.get) ++ (σ.get fx).c2) hid d (byFzs (xs.map σ.get)) σ R K
  | .call p xs => byOks hid σ (xs.map σ.get) ∧ primOk p (byVals σ (xs.map σ.get)) ∧ resName hid d (primVal p (byVals σ (xs.map σ.get))) = true ∧ R (resSt σ d (byFzs (xs.map σ.get)) (primVal p (byVals σ (xs.map σ.get)))) K
  | .append z ty bytes x y => apOk σ z ty bytes (σ.get y) (σ.get x) ∧ R (apSt σ d (σ.get y) (σ.get x)) K ∧ (apTwo (σ.get x) → R (apSt2 σ d (σ.get y) (σ.get x)) K)
  | .nileq neq x => nilOk σ (σ.get x) ∧ (nilMay (σ.get x) → R (σ.set d (.bool (!neq))) K) ∧ R (σ.set d (.bool neq)) K
  | io => okV hid σ io ∧ nameOk hid (valV σ io) = true ∧ R ((σ.fzs (fzV σ io)).made d (valV σ io) none) K
/-- how a guard stands -/
def gB : AV → Bool | .bool _ => true | .tup [] => true | _ => false
def gIs : Bool → AV → Bool | true, .bool b => b | false, .bool b => !b | _, _ => false
def runOps (C : FuncId → List AV → AV → Prop) : List ROp → St → (St → Prop) → Prop
  | [], σ, K => K σ
  | ⟨io, some d, none, hid, wr⟩ :: l, σ, K => runOp C (runOps C l) K σ d hid io
  | ⟨io, none, none, _, _⟩ :: l, σ, K => (match io with
    | .store z p x => stOk σ z (σ.get x) (σ.get p) ∧ runOps C l (stSt σ z (σ.get x) (σ.get p)) K
    | .storep z p x => stpOk σ z (σ.get x) (σ.get p) ∧ anyCell fun u => runOps C l (stpSt σ u (σ.get x) (σ.get p)) K
    | .copy z x (.c d) => clOk σ z d (σ.get x) ∧ runOps C l (clSt σ d (σ.get x)) K
    | _ => False)
  | ⟨io, some d, some (t, w), hid, wr⟩ :: l, σ, K => gB (σ.T t) = true ∧ (gIs w (σ.T t) = true → runOp C (runOps C l) K (σ.set t (.bool w)) d hid io) ∧
      (gIs w (σ.T t) = false → runOps C l ((if (σ.T t).isB then σ.set t (.bool (!w)) else σ).set d (.tup [])) K)
  | _ :: _, _, _ => False
theorem nameOk_ptr {hid : List Nat} {d : Nat} (h : hid.contains d = false) {i f : Nat} : nameOk hid (.ptr d i f) = true := by simp only [nameOk, AV.name]; rw [h]; rfl
theorem nameOk_rs {hid : List Nat} {d : Nat} (h : hid.contains d = false) {i f : Nat} : nameOk hid (.rs d i f) = true := by simp only [nameOk, AV.name]; rw [h]; rfl
theorem runOp_M {C : FuncId → List AV → AV → Prop} {σ : St} {d : Nat} {hid : List Nat} {R : St → (St → Prop) → Prop} {K : St → Prop} {io : IOp} (hm : io.isMut = false) (h : runOp C R K σ d hid io) : evalM C d hid σ (fun v s fz => nameOk hid v = true ∧ R ((σ.fzs fz).made d v s) K) io := by
  cases io with
  | alloc z ty zero => exact ⟨h.1, h.2.1, h.2.2.1, nameOk_ptr h.2.2.2.1, h.2.2.2.2⟩
  | box z ty x =>
    simp only [runOp, evalM] at *
    rw [byval_ok.1 h.1]
    exact ⟨h.2.1, h.2.2.1, h.2.2.2.1, nameOk_ptr h.2.2.2.2.1, h.2.2.2.2.2⟩
  | mknil z ty => exact ⟨h.1, nameOk_rs h.2.1, h.2.2⟩
  | bsl z ty xs =>
    simp only [runOp, evalM] at *
    rw [byvals_ok.1 h.1]
    exact ⟨h.2.1, allOne_mem h.2.2.1, nameOk_rs h.2.2.2.1, h.2.2.2.2⟩
  | callv fx xs =>
    simp only [runOp, evalM, Calling] at *
    obtain ⟨h1, h2, r, h3, h4, h5⟩ := h
    cases hf : σ.get fx <;> rw [hf] at h1 h3 <;> simp only [AV.isC, Bool.false_eq_true] at h1
    rw [byvals_ok.1 h2]
    refine ⟨r, h3, ?_⟩
    cases r with
    | own z ty l => exact ⟨nameOk_rs (by simpa [resName] using h4), h5⟩
    | _ =>
      simp only [takeRes]
      simp only [resSt] at h5
      simp only [resName] at h4
      split
      · rename_i hb; rw [if_pos hb] at h5; exact ⟨h4, h5⟩
      · rename_i hb; rw [if_neg hb] at h5; exact ⟨h4, h5⟩
  | call p xs =>
    simp only [runOp, evalM] at *
    obtain ⟨h2, h3, h4, h5⟩ := h
    rw [byvals_ok.1 h2]
    refine ⟨h3, ?_⟩
    generalize primVal p (byVals σ (xs.map σ.get)) = r at h4 h5
    cases r with
    | own z ty l => exact ⟨nameOk_rs (by simpa [resName] using h4), h5⟩
    | _ =>
      simp only [takeRes]
      simp only [resSt] at h5
      simp only [resName] at h4
      split
      · rename_i hb; rw [if_pos hb] at h5; exact ⟨h4, h5⟩
      · rename_i hb; rw [if_neg hb] at h5; exact ⟨h4, h5⟩
  | store z p x => cases hm
  | append z ty b x y => cases hm
  | nileq neq x => cases hm
  | storep z p x => cases hm
  | copy z x y => cases hm
  | _ => exact evalV_ok (K := fun v fz => nameOk hid v = true ∧ R ((σ.fzs fz).made d v none) K) h
theorem fzs_some {σ : St} {fz : List Nat} {r : Nat} (h : (σ.H r).isSome = true) : ∃ arr arr', σ.H r = some arr ∧ (σ.fzs fz).H r = some arr' ∧ arr'.cells = arr.cells ∧ arr'.z = arr.z ∧ arr'.ty = arr.ty := by
  obtain ⟨arr, ha⟩ := Option.isSome_iff_exists.1 h
  obtain ⟨a', q1, q2, _⟩ := fzs_H (l := fz) ha
  exact ⟨arr, a', ha, q1, q2.cells, q2.z, q2.ty⟩
theorem run_store {σ : St} {K : St → Prop} {z : Nat} {p x : IOpd} (h : stOk σ z (σ.get x) (σ.get p) ∧ K (stSt σ z (σ.get x) (σ.get p))) : evalT σ none K (.store z p x) := by
  obtain ⟨h1, h2⟩ := h
  simp only [evalT]
  cases hp : σ.get p <;> rw [hp] at h1 h2 <;> simp only [stOk, stSt] at h1 h2
  rename_i r i f
  obtain ⟨g1, g2, g3, g4, g5, g6⟩ := h1
  rw [byval_ok.1 g1]
  have hs : (σ.H r).isSome = true := by
    cases ha : σ.H r with
    | none => rw [ha] at g2; simp [objCells] at g2
    | some arr => rfl
  obtain ⟨arr, arr', q1, q2, q3, q4, q5⟩ := fzs_some (fz := byFz (σ.get x)) hs
  rw [q1] at g2 g4
  rw [q2] at g5 h2
  simp only [objCells, objProt] at g2 g4 g5
  simp only [q2, q3]
  rw [List.getD_eq_getElem?_getD, List.getElem?_eq_getElem g2] at g4
  rw [List.getElem?_eq_getElem g2]
  refine ⟨g3, g4, g5, g6, ?_⟩
  simp only [stArr, q3] at h2
  rw [List.getD_eq_getElem?_getD, List.getElem?_eq_getElem g2] at h2
  exact h2
theorem run_storep {σ : St} {K : St → Prop} {z : Nat} {p x : IOpd} (h : stpOk σ z (σ.get x) (σ.get p) ∧ anyCell fun u => K (stpSt σ u (σ.get x) (σ.get p))) : evalT σ none K (.storep z p x) := by
  obtain ⟨h1, h2⟩ := h
  simp only [evalT]
  cases hx : σ.get x <;> rw [hx] at h1 h2 <;> try exact h1.elim
  · cases hp : σ.get p <;> rw [hp] at h1 h2 <;> try exact h1.elim
    rename_i l r i f
    obtain ⟨g1, g2, g3, g4⟩ := h1
    cases ha : σ.H r with
    | none => rw [ha] at g2; simp [objCells] at g2
    | some arr =>
      simp only [ha, objCells, objProt] at g2 g3 g4
      rw [List.getD_eq_getElem?_getD, List.getElem?_eq_getElem g2] at g3
      simp only [ha, List.getElem?_eq_getElem g2]
      refine ⟨g1, g3, g4, ?_⟩
      have := h2 (.bool true) rfl
      simp only [stpSt, stpArr, ha, List.getD_eq_getElem?_getD, List.getElem?_eq_getElem g2, Option.getD_some] at this
      exact this
  · cases hp : σ.get p <;> rw [hp] at h1 h2 <;> try exact h1.elim
    rename_i q off len r i f
    obtain ⟨g1, g2, g3, g4, g5⟩ := h1
    cases ha : σ.H r with
    | none => rw [ha] at g2; simp [objCells] at g2
    | some arr =>
      simp only [ha, objCells, objProt] at g2 g3 g4
      rw [List.getD_eq_getElem?_getD, List.getElem?_eq_getElem g2] at g3
      simp only [ha, List.getElem?_eq_getElem g2]
      refine ⟨g1, g3, g4, g5, fun u hu => ?_⟩
      have := h2 u hu
      simp only [stpSt, stpArr, objZ, ha, List.getD_eq_getElem?_getD, List.getElem?_eq_getElem g2, Option.getD_some] at this
      exact this
theorem run_clr {σ : St} {K : St → Prop} {z : Nat} {x : IOpd} {d : AV} (h : clOk σ z d (σ.get x) ∧ K (clSt σ d (σ.get x))) : evalT σ none K (.copy z x (.c d)) := by
  obtain ⟨h1, h2⟩ := h
  simp only [evalT]
  cases hx : σ.get x <;> rw [hx] at h1 h2 <;> simp only [clOk, clSt] at h1 h2
  rename_i r off len
  obtain ⟨g1, g2, g3, g4, g5⟩ := h1
  obtain ⟨arr, ha⟩ := Option.isSome_iff_exists.1 g1
  simp only [ha, objZ, objProt, clArr] at g2 g3 h2 ⊢
  exact ⟨g2, g3, g4, g5, trivial, h2⟩
theorem run_append {σ : St} {K : St → Prop} {z ty bytes d : Nat} {x y : IOpd} (h : apOk σ z ty bytes (σ.get y) (σ.get x) ∧ K (apSt σ d (σ.get y) (σ.get x)) ∧ (apTwo (σ.get x) → K (apSt2 σ d (σ.get y) (σ.get x)))) : evalT σ (some d) K (.append z ty bytes x y) := by
  obtain ⟨h1, h2, h3⟩ := h
  simp only [evalT]
  cases hx : σ.get x <;> rw [hx] at h1 h2 h3 <;> simp only [apOk, apSt, apSt2] at h1 h2 h3
  rename_i r off len
  obtain ⟨g1, l, g2, g3, g4, g5, g6, g7, g9, g8⟩ := h1
  rw [byval_ok.1 g1, g2]
  obtain ⟨arr, arr', q1, q2, q3, q4, q5⟩ := fzs_some (fz := byFz (σ.get y)) g3
  rw [q1] at g4 g5
  rw [q2] at g6 h2 h3
  simp only [objZ, apOk.objTy, objProt] at g4 g5 g6
  simp only [q2]
  refine ⟨g9, by rw [q4]; exact g4, by rw [q5]; exact g5, g6, g7, g8, ?_, fun h0 => ?_⟩
  · simp only [apArr, g2, slOf] at h2
    exact h2
  · simp only [apArr2, g2, slOf] at h3
    refine h3 ?_
    cases off with
    | zero => exact absurd rfl h0
    | succ n => trivial
theorem run_nileq {σ : St} {K : St → Prop} {neq : Bool} {d : Nat} {x : IOpd} (h : nilOk σ (σ.get x) ∧ (nilMay (σ.get x) → K (σ.set d (.bool (!neq)))) ∧ K (σ.set d (.bool neq))) : evalT σ (some d) K (.nileq neq x) := by
  obtain ⟨h1, h2, h3⟩ := h
  simp only [evalT]
  cases hx : σ.get x <;> rw [hx] at h1 h2 <;> simp only [nilOk, nilMay] at h1 h2
  · exact ⟨h2, h3⟩
  · exact ⟨h1, h2, h3⟩
theorem gB_cases {v : AV} (h : gB v = true) : (∃ b, v = .bool b) ∨ v = .tup [] := by
  unfold gB at h
  split at h
  · exact .inl ⟨_, rfl⟩
  · exact .inr rfl
  · cases h
theorem runOps_ok {C : FuncId → List AV → AV → Prop} : ∀ {l : List ROp} {σ : St} {K : St → Prop}, runOps C l σ K → evalOps C l σ K
  | [], σ, K, h => h
  | ⟨io, some d, none, hid, wr⟩ :: l, σ, K, h => by
    simp only [runOps] at h
    simp only [evalOps, guardV, stepV]
    cases hm : io.isMut with
    | true =>
      rw [if_pos rfl]
      cases io <;> first
        | (cases hm; done)
        | (simp only [runOp, okV, false_and] at h; done)
        | (refine evalT_mono (fun σ hk => runOps_ok hk) (run_append (K := fun σ => runOps C l σ K) h))
        | (refine evalT_mono (fun σ hk => runOps_ok hk) (run_nileq (K := fun σ => runOps C l σ K) h))
    | false =>
      rw [if_neg (by simp)]
      exact evalM_mono (fun v s fz hk => ⟨hk.1, runOps_ok hk.2⟩) (runOp_M hm h)
  | ⟨io, none, none, hid, wr⟩ :: l, σ, K, h => by
    cases io <;> simp only [runOps] at h <;> try exact h.elim
    · simp only [evalOps, guardV, stepV, IOp.isMut, if_true]
      exact evalT_mono (fun σ hk => runOps_ok hk) (run_store (K := fun σ => runOps C l σ K) h)
    · rename_i z x y
      cases y with
      | t k => exact h.elim
      | c d =>
        simp only [evalOps, guardV, stepV, IOp.isMut, if_true]
        exact evalT_mono (fun σ hk => runOps_ok hk) (run_clr (K := fun σ => runOps C l σ K) h)
    · simp only [evalOps, guardV, stepV, IOp.isMut, if_true]
      exact evalT_mono (fun σ hk => runOps_ok hk) (run_storep (K := fun σ => runOps C l σ K) h)
  | ⟨io, some d, some (t, w), hid, wr⟩ :: l, σ, K, h => by
    simp only [runOps] at h
    obtain ⟨h1, h2, h3⟩ := h
    simp only [evalOps, guardV]
    rcases gB_cases h1 with ⟨b, e⟩ | e
    · rw [e] at h2 h3
      rw [e]
      refine ⟨fun hb => ?_, fun hb => ?_⟩
      · subst hb
        have h := h2 (by cases b <;> rfl)
        simp only [stepV]
        cases hm : io.isMut with
        | true =>
          rw [if_pos rfl]
          cases io <;> first
            | (cases hm; done)
            | (simp only [runOp, okV, false_and] at h; done)
            | (refine evalT_mono (fun σ hk => runOps_ok hk) (run_append (K := fun σ => runOps C l σ K) h))
            | (refine evalT_mono (fun σ hk => runOps_ok hk) (run_nileq (K := fun σ => runOps C l σ K) h))
        | false =>
          rw [if_neg (by simp)]
          exact evalM_mono (fun v s fz hk => ⟨hk.1, runOps_ok hk.2⟩) (runOp_M hm h)
      · subst hb
        have h := h3 (by cases w <;> rfl)
        simp only [AV.isB, if_true] at h
        exact runOps_ok h
    · rw [e] at h3
      rw [e]
      have h := h3 (by cases w <;> rfl)
      simp only [AV.isB, Bool.false_eq_true, if_false] at h
      exact runOps_ok h
  | ⟨io, none, some g, hid, wr⟩ :: l, σ, K, h => by simp only [runOps] at h
def CallingH (C : FuncId → List AV → AV → Prop) (F0 : List Nat) (f : FuncId) (args : List AV) (hid : List Nat) (d : Nat) (fz : List Nat) (σ : St) (R : St → (St → Prop) → Prop) (K : St → Prop) : Prop :=
  ∃ r, C f args r ∧ resName hid d r = true ∧ (r.flatB || fz.all F0.contains) = true ∧ R (resSt σ d [] r) K
def headOp (C : FuncId → List AV → AV → Prop) (F0 : List Nat) (R : St → (St → Prop) → Prop) (K : St → Prop) (σ : St) (d : Nat) (hid : List Nat) : IOp → Prop
  | .alloc z ty zero => zero.cells.length = z ∧ 0 < z ∧ zero.cells.all AV.one = true ∧ hid.contains d = false ∧ R (σ.made d (.ptr d 0 0) (oneObj z ty zero)) K
  | .box z ty x => byOk hid σ (σ.get x) ∧ (byFz (σ.get x)).all F0.contains = true ∧ (byVal σ (σ.get x)).cells.length = z ∧ 0 < z ∧ (byVal σ (σ.get x)).cells.all AV.one = true ∧ hid.contains d = false ∧ R (σ.made d (.ptr d 0 0) (oneObj z ty (byVal σ (σ.get x)))) K
  | .mknil z ty => 0 < z ∧ hid.contains d = false ∧ R (σ.made d (.rs d 0 0) (some ⟨z, ty, [], 0⟩)) K
  | .bsl z ty xs => byOks hid σ (xs.map σ.get) ∧ (byFzs (xs.map σ.get)).all F0.contains = true ∧ 0 < z ∧ allOne z (byVals σ (xs.map σ.get)) ∧ hid.contains d = false ∧ R (σ.made d (.rs d 0 (byVals σ (xs.map σ.get)).length) (some ⟨z, ty, byVals σ (xs.map σ.get), 0⟩)) K
  | .callv fx xs => (σ.get fx).isC = true ∧ byOks hid σ (xs.map σ.get) ∧ CallingH C F0 (σ.get fx).cf ((σ.get fx).c1 ++ byVals σ (xs.map σ.get) ++ (σ.get fx).c2) hid d (byFzs (xs.map σ.get)) σ R K
  | .call p xs => byOks hid σ (xs.map σ.get) ∧ primOk p (byVals σ (xs.map σ.get)) ∧ resName hid d (primVal p (byVals σ (xs.map σ.get))) = true ∧ ((primVal p (byVals σ (xs.map σ.get))).flatB || (byFzs (xs.map σ.get)).all F0.contains) = true ∧ R (resSt σ d [] (primVal p (byVals σ (xs.map σ.get)))) K
  | io => okV hid σ io ∧ nameOk hid (valV σ io) = true ∧ (fzV σ io).all F0.contains = true ∧ R (σ.made d (valV σ io) none) K
/-- a head, all of whose freezes are of F0, and its tail -/
def runHead (C : FuncId → List AV → AV → Prop) (F0 : List Nat) (tl : List ROp) : List ROp → St → (St → Prop) → Prop
  | [], σ, K => runOps C tl σ K
  | ⟨io, some d, none, hid, wr⟩ :: l, σ, K => headOp C F0 (runHead C F0 tl l) K σ d hid io
  | ⟨io, some d, some (t, w), hid, wr⟩ :: l, σ, K => gB (σ.T t) = true ∧ (gIs w (σ.T t) = true → headOp C F0 (runHead C F0 tl l) K (σ.set t (.bool w)) d hid io) ∧
      (gIs w (σ.T t) = false → runHead C F0 tl l ((if (σ.T t).isB then σ.set t (.bool (!w)) else σ).set d (.tup [])) K)
  | ⟨io, none, none, hid, wr⟩ :: l, σ, K => (match io with
    | .store z p x => stHOk F0 hid wr σ z (σ.get x) (σ.get p) ∧ runHead C F0 tl l (stHSt σ z (σ.get x) (σ.get p)) K
    | _ => False)
  | _ :: _, _, _ => False
theorem run_storeH {F0 hid wr : List Nat} {σ : St} {K : St → Prop} {z : Nat} {p x : IOpd} (h : stHOk F0 hid wr σ z (σ.get x) (σ.get p) ∧ K (stHSt σ z (σ.get x) (σ.get p))) : evalS F0 hid wr σ (fun r arr => K ⟨σ.T, upd σ.H r (some arr)⟩) (.store z p x) := by
  obtain ⟨h1, h2⟩ := h
  simp only [evalS]
  cases hp : σ.get p <;> rw [hp] at h1 h2 <;> simp only [stHOk, stHSt] at h1 h2
  rename_i r i f
  obtain ⟨a1, a2, a3, g1, a4, g2, g3, g4, g5, g6⟩ := h1
  refine ⟨a1, a2, a3, ?_⟩
  rw [byval_ok.1 g1]
  refine ⟨a4, ?_⟩
  cases ha : σ.H r with
  | none => rw [ha] at g2; simp [objCells] at g2
  | some arr =>
    rw [ha] at g2 g4 g5 h2
    simp only [objCells, objProt] at g2 g4 g5
    simp only
    rw [List.getD_eq_getElem?_getD, List.getElem?_eq_getElem g2] at g4
    rw [List.getElem?_eq_getElem g2]
    refine ⟨g3, g4, g5, g6, ?_⟩
    simp only [stArr] at h2
    rw [List.getD_eq_getElem?_getD, List.getElem?_eq_getElem g2] at h2
    exact h2
theorem headOp_M {C : FuncId → List AV → AV → Prop} {F0 : List Nat} {R : St → (St → Prop) → Prop} {σ : St} {d : Nat} {hid : List Nat} {K : St → Prop} {io : IOp} (h : headOp C F0 R K σ d hid io) : evalM C d hid σ (fun v s fz => fz.all F0.contains = true ∧ nameOk hid v = true ∧ R (σ.made d v s) K) io := by
  cases io with
  | alloc z ty zero => exact ⟨h.1, h.2.1, h.2.2.1, rfl, nameOk_ptr h.2.2.2.1, h.2.2.2.2⟩
  | box z ty x =>
    simp only [headOp, evalM] at *
    rw [byval_ok.1 h.1]
    exact ⟨h.2.2.1, h.2.2.2.1, h.2.2.2.2.1, h.2.1, nameOk_ptr h.2.2.2.2.2.1, h.2.2.2.2.2.2⟩
  | mknil z ty => exact ⟨h.1, rfl, nameOk_rs h.2.1, h.2.2⟩
  | bsl z ty xs =>
    simp only [headOp, evalM] at *
    rw [byvals_ok.1 h.1]
    exact ⟨h.2.2.1, allOne_mem h.2.2.2.1, h.2.1, nameOk_rs h.2.2.2.2.1, h.2.2.2.2.2⟩
  | callv fx xs =>
    simp only [headOp, evalM, CallingH] at *
    obtain ⟨h1, h2, r, h3, h4, h5, h6⟩ := h
    cases hf : σ.get fx <;> rw [hf] at h1 h3 <;> simp only [AV.isC, Bool.false_eq_true] at h1
    rw [byvals_ok.1 h2]
    refine ⟨r, h3, ?_⟩
    have hres : ∀ b, (if b = true then σ.made d r none else (σ.fzs []).made d r none) = σ.made d r none := fun b => by cases b <;> rfl
    cases r with
    | own z ty l => exact ⟨by simpa [AV.flatB] using h5, nameOk_rs (by simpa [resName] using h4), h6⟩
    | _ =>
      simp only [takeRes]
      simp only [resSt, hres] at h6
      simp only [resName] at h4
      split
      · exact ⟨rfl, h4, h6⟩
      · rename_i hb
        simp only [Bool.not_eq_true] at hb
        rw [hb, Bool.false_or] at h5
        exact ⟨h5, h4, h6⟩
  | call p xs =>
    simp only [headOp, evalM] at *
    obtain ⟨h2, h3, h4, h5, h6⟩ := h
    rw [byvals_ok.1 h2]
    refine ⟨h3, ?_⟩
    generalize primVal p (byVals σ (xs.map σ.get)) = r at h4 h5 h6
    have hres : ∀ b, (if b = true then σ.made d r none else (σ.fzs []).made d r none) = σ.made d r none := fun b => by cases b <;> rfl
    cases r with
    | own z ty l => exact ⟨by simpa [AV.flatB] using h5, nameOk_rs (by simpa [resName] using h4), h6⟩
    | _ =>
      simp only [takeRes]
      simp only [resSt, hres] at h6
      simp only [resName] at h4
      split
      · exact ⟨rfl, h4, h6⟩
      · rename_i hb
        simp only [Bool.not_eq_true] at hb
        rw [hb, Bool.false_or] at h5
        exact ⟨h5, h4, h6⟩
  | store z p x => simp only [headOp, okV, false_and] at h
  | append z ty b x y => simp only [headOp, okV, false_and] at h
  | nileq neq x => simp only [headOp, okV, false_and] at h
  | storep z p x => simp only [headOp, okV, false_and] at h
  | copy z x y => simp only [headOp, okV, false_and] at h
  | _ => exact evalV_ok (K := fun v fz => fz.all F0.contains = true ∧ nameOk hid v = true ∧ R (σ.made d v none) K) ⟨h.1, h.2.2.1, h.2.1, h.2.2.2⟩
theorem runHead_ok {C : FuncId → List AV → AV → Prop} {F0 : List Nat} {tl : List ROp} : ∀ {l : List ROp} {σ : St} {K : St → Prop}, runHead C F0 tl l σ K → evalHead C F0 l σ fun σ => evalOps C tl σ K
  | [], σ, K, h => runOps_ok h
  | ⟨io, some d, none, hid, wr⟩ :: l, σ, K, h => by
    simp only [runHead] at h
    simp only [evalHead, guardV]
    exact evalM_mono (fun v s fz hk => ⟨hk.1, hk.2.1, runHead_ok hk.2.2⟩) (headOp_M h)
  | ⟨io, none, none, hid, wr⟩ :: l, σ, K, h => by
    cases io <;> simp only [runHead] at h <;> try exact h.elim
    simp only [evalHead, guardV]
    exact evalS_mono (fun r a hk => runHead_ok hk) (run_storeH (K := fun σ => runHead C F0 tl l σ K) h)
  | ⟨io, some d, some (t, w), hid, wr⟩ :: l, σ, K, h => by
    simp only [runHead] at h
    obtain ⟨h1, h2, h3⟩ := h
    simp only [evalHead, guardV]
    rcases gB_cases h1 with ⟨b, e⟩ | e
    · rw [e] at h2 h3
      rw [e]
      refine ⟨fun hb => ?_, fun hb => ?_⟩
      · subst hb
        exact evalM_mono (fun v s fz hk => ⟨hk.1, hk.2.1, runHead_ok hk.2.2⟩) (headOp_M (h2 (by cases b <;> rfl)))
      · subst hb
        have h := h3 (by cases w <;> rfl)
        simp only [AV.isB, if_true] at h
        exact runHead_ok h
    · rw [e] at h3
      rw [e]
      have h := h3 (by cases w <;> rfl)
      simp only [AV.isB, Bool.false_eq_true, if_false] at h
      exact runHead_ok h
  | ⟨io, none, some g, hid, wr⟩ :: l, σ, K, h => by simp only [runHead] at h
def runReg (C : FuncId → List AV → AV → Prop) (g : Reg) (σ : St) (K : St → Prop) : Prop :=
  match g.draw with
  | true => runHead C (g.fzT.filterMap fun t => ((σ.kills g.kills).T t).name) g.tail g.head ((σ.kills g.kills).fzs (g.fzT.filterMap fun t => ((σ.kills g.kills).T t).name)) K
  | false => runOps C g.tail (σ.kills g.kills) K
theorem runReg_ok {C : FuncId → List AV → AV → Prop} {g : Reg} {σ : St} {K : St → Prop} (h : runReg C g σ K) : evalReg C g σ K := by
  unfold runReg at h
  unfold evalReg
  split at h
  · rename_i e; rw [if_pos e]; exact runHead_ok h
  · rename_i e; rw [if_neg (by rw [e]; simp)]; exact runOps_ok h
/-! ### Regions with pointers handed on -/
def ckOk (σ : St) : AV → Prop
  | .ptr r _ _ => (σ.H r).isSome = true
  | .rp _ => True
  | _ => False
def cloOk (σ : St) : AV → Prop
  | .ptr r 0 0 => (σ.H r).isSome = true
  | _ => False
def ptrAt : AV → Nat
  | .ptr r _ _ => r
  | _ => 0
def mOk (σ : St) : AV → Prop
  | .ptr _ _ _ => True
  | v => byOk [] σ v
def mVal (σ : St) : AV → AV
  | .ptr r i f => .ptr r i f
  | v => byVal σ v
def mFz : AV → List Nat
  | .ptr _ _ _ => []
  | v => byFz v
theorem mval_ok {σ : St} {v : AV} (h : mOk σ v) : σ.mval v = some (mVal σ v, mFz v) := by
  cases v with
  | und => exact h.elim
  | own z ty l => exact h.elim
  | clom f r => exact h.elim
  | mp r es => exact h.elim
  | vrs r o l u => exact h.elim
  | rs r o l =>
    have h' : byOk [] σ (.rs r o l) := h
    exact byval_ok.1 h'
  | _ => rfl
def mOks (σ : St) : List AV → Prop
  | [] => True
  | v :: l => mOk σ v ∧ mOks σ l
def mVals (σ : St) : List AV → List AV
  | [] => []
  | v :: l => mVal σ v :: mVals σ l
def mFzs : List AV → List Nat
  | [] => []
  | v :: l => mFz v ++ mFzs l
theorem mvals_ok {σ : St} : ∀ {l : List AV}, mOks σ l → σ.mvals l = some (mVals σ l, mFzs l)
  | [], _ => rfl
  | v :: l, h => by
    simp only [St.mvals, mval_ok h.1, mvals_ok h.2, mVals, mFzs]
def mCalOk (σ : St) : AV → Prop
  | .clo _ [] [] => True
  | .clom _ q => (σ.H q).isSome = true
  | _ => False
def mFn : AV → FuncId
  | .clo f _ _ => f
  | .clom f _ => f
  | _ => 0
def mArgs (ds : List AV) : AV → List AV
  | .clom _ q => ds ++ [.ptr q 0 0]
  | _ => ds
def MCalling (P : Program) (f : FuncId) (args : List AV) (T : Nat → AV) (H : Nat → Option Arr) (d : Nat) (R : St → (St → Prop) → Prop) (K : St → Prop) : Prop := ∃ r H', MFn P f args H r H' ∧ R ⟨upd T d r, H'⟩ K
theorem mcalling {P : Program} {f : FuncId} {args : List AV} {T : Nat → AV} {H : Nat → Option Arr} {d : Nat} {R : St → (St → Prop) → Prop} {K : St → Prop} {r : AV} {H' : Nat → Option Arr} (h : MFn P f args H r H') (hk : R ⟨upd T d r, H'⟩ K) : MCalling P f args T H d R K := ⟨r, H', h, hk⟩
def entOk (σ : St) : AV → Prop
  | .mp r _ => (σ.H r).isSome = true
  | .mv _ => True
  | _ => False
def ents : AV → List (Int × AV)
  | .mp _ es => es
  | .mv es => es
  | _ => []
def kI : AV → Bool
  | .int .i64 _ => true
  | _ => false
def mpOk (σ : St) : AV → Prop
  | .mp r _ => r < 1000 ∧ (σ.H r).isSome = true
  | _ => False
def mpR : AV → Nat
  | .mp r _ => r
  | _ => 0
def remT (r : Nat) (es : List (Int × AV)) (T : Nat → AV) : Nat → AV := fun t => remp r es (T t)
theorem kI_of {v : AV} (h : kI v = true) : ∃ q, v = .int .i64 q := by
  cases v with
  | int k q => cases k <;> first | exact ⟨q, rfl⟩ | cases h
  | _ => cases h
theorem entOk_of {σ : St} {v : AV} (h : entOk σ v) : entsOf σ v = some (ents v) := by
  cases v with
  | mp r es => exact if_pos h
  | mv es => rfl
  | _ => exact h.elim
def wOk (σ : St) : AV → Prop
  | .rs _ _ _ => True
  | v => mOk σ v
def wVal (σ : St) : AV → AV
  | .rs r off len => .rs r off len
  | v => mVal σ v
def wFz : AV → List Nat
  | .rs _ _ _ => []
  | v => mFz v
theorem wval_ok {σ : St} {v : AV} (h : wOk σ v) : σ.wval v = some (wVal σ v, wFz v) := by
  cases v with
  | rs r off len => rfl
  | _ =>
    simp only [wOk] at h
    simp only [St.wval, wVal, wFz]
    exact mval_ok h
def wOks (σ : St) : List AV → Prop
  | [] => True
  | v :: l => wOk σ v ∧ wOks σ l
def wVals (σ : St) : List AV → List AV
  | [] => []
  | v :: l => wVal σ v :: wVals σ l
def wFzs : List AV → List Nat
  | [] => []
  | v :: l => wFz v ++ wFzs l
theorem wvals_ok {σ : St} : ∀ {l : List AV}, wOks σ l → σ.wvals l = some (wVals σ l, wFzs l)
  | [], _ => rfl
  | v :: l, h => by
    simp only [St.wvals, wval_ok h.1, wvals_ok h.2, wVals, wFzs]
def wCalOk : AV → Prop
  | .clo _ [] [] => True
  | _ => False
/-- calls that hand an object with slices on -/
def clR : AV → Nat
  | .clom _ r => r
  | _ => 0
def gCalOk : AV → Prop
  | .clom _ r => r < 500 ∨ r = 1000
  | _ => False
def GCalling (P : Program) (f : FuncId) (r : Nat) (ds : List AV) (d : Nat) (σ : St) (R : St → (St → Prop) → Prop) (K : St → Prop) : Prop := ∃ S res Rl, GFn P f (ds ++ [.ptr 1000 0 0]) S res Rl ∧ gsIn σ.T σ.H r S ∧ ∀ S', Rl S' → R ⟨upd (afterG σ r S').T d res, (afterG σ r S').H⟩ K
def runX (P : Program) (C : FuncId → List AV → AV → Prop) : XOp → St → (St → Prop) → Prop
  | .op k r, σ, K => runOps C [r] (σ.kills k) K
  | .nilck d x none, σ, K => ckOk σ (σ.get x) ∧ K (σ.set d (σ.get x))
  | .nilck d x (some (t, w)), σ, K => gB (σ.T t) = true ∧ (gIs w (σ.T t) = true → ckOk (σ.set t (.bool w)) ((σ.set t (.bool w)).get x) ∧ K ((σ.set t (.bool w)).set d ((σ.set t (.bool w)).get x))) ∧
      (gIs w (σ.T t) = false → K ((if (σ.T t).isB then σ.set t (.bool (!w)) else σ).set d (.tup [])))
  | .mkclo d f x, σ, K => cloOk σ (σ.get x) ∧ K (σ.set d (.clom f (ptrAt (σ.get x))))
  | .mcall d fx xs, σ, K => mOks σ (xs.map σ.get) ∧ mCalOk (σ.fzs (mFzs (xs.map σ.get))) (σ.get fx) ∧ MCalling P (mFn (σ.get fx)) (mArgs (mVals σ (xs.map σ.get)) (σ.get fx)) σ.T (σ.fzs (mFzs (xs.map σ.get))).H d (fun σ K => K σ) K
  | .mkmap d ty, σ, K => K ((σ.kill d).made d (.mp d []) (some ⟨1, ty, [], 0⟩))
  | .mlook d ok m k z none, σ, K => entOk σ (σ.get m) ∧ kI (σ.get k) = true ∧ K (σ.set d (lkV ok z (lkp (ents (σ.get m)) (σ.get k).iv)))
  | .mlook d ok m k z (some (t, w)), σ, K => gB (σ.T t) = true ∧ (gIs w (σ.T t) = true → entOk (σ.set t (.bool w)) ((σ.set t (.bool w)).get m) ∧ kI ((σ.set t (.bool w)).get k) = true ∧
      K ((σ.set t (.bool w)).set d (lkV ok z (lkp (ents ((σ.set t (.bool w)).get m)) ((σ.set t (.bool w)).get k).iv)))) ∧ (gIs w (σ.T t) = false → K ((if (σ.T t).isB then σ.set t (.bool (!w)) else σ).set d (.tup [])))
  | .mupd m k x, σ, K => mpOk σ (σ.get m) ∧ kI (σ.get k) = true ∧ byOk [] σ (σ.get x) ∧ K ⟨remT (mpR (σ.get m)) (upk (ents (σ.get m)) (σ.get k).iv (byVal σ (σ.get x))) σ.T, (σ.fzs (byFz (σ.get x))).H⟩
  | .wcall d fx xs, σ, K => wOks σ (xs.map σ.get) ∧ wCalOk (σ.get fx) ∧ MCalling P (mFn (σ.get fx)) (wVals σ (xs.map σ.get)) σ.T (σ.fzs (wFzs (xs.map σ.get))).H d (fun σ K => K σ) K
  | .gcall d fx xs, σ, K => byOks [] σ (xs.map σ.get) ∧ gCalOk (σ.get fx) ∧ GCalling P (mFn (σ.get fx)) (clR (σ.get fx)) (byVals σ (xs.map σ.get)) d (σ.fzs (byFzs (xs.map σ.get))) (fun σ K => K σ) K
def runXs (P : Program) (C : FuncId → List AV → AV → Prop) : List XOp → St → (St → Prop) → Prop
  | [], σ, K => K σ
  | x :: l, σ, K => runX P C x σ fun σ' => runXs P C l σ' K
theorem runX_ok {P : Program} {C : FuncId → List AV → AV → Prop} {x : XOp} {σ : St} {K : St → Prop} (h : runX P C x σ K) : evalX P C x σ K := by
  cases x with
  | op k r => exact runOps_ok h
  | nilck d x g =>
    have key : ∀ {σ : St}, ckOk σ (σ.get x) ∧ K (σ.set d (σ.get x)) → nilckV σ d x K := by
      intro σ h
      unfold nilckV
      cases hx : σ.get x <;> rw [hx] at h <;> simp only [ckOk, false_and, true_and] at h
      · exact h
      · exact h
    cases g with
    | none => exact key h
    | some g =>
      obtain ⟨t, w⟩ := g
      simp only [runX] at h
      obtain ⟨h1, h2, h3⟩ := h
      simp only [evalX, guardV]
      rcases gB_cases h1 with ⟨b, e⟩ | e
      · rw [e] at h2 h3
        rw [e]
        refine ⟨fun hb => ?_, fun hb => ?_⟩
        · subst hb
          exact key (h2 (by cases b <;> rfl))
        · subst hb
          have h := h3 (by cases w <;> rfl)
          simp only [AV.isB, if_true] at h
          exact h
      · rw [e] at h3
        rw [e]
        have h := h3 (by cases w <;> rfl)
        simp only [AV.isB, Bool.false_eq_true, if_false] at h
        exact h
  | mkclo d f x =>
    simp only [runX] at h
    simp only [evalX]
    cases hx : σ.get x <;> rw [hx] at h <;> try exact h.1.elim
    rename_i r i f'
    cases i with
    | succ i => exact h.1.elim
    | zero =>
      cases f' with
      | succ f' => exact h.1.elim
      | zero => exact h
  | mcall d fx xs =>
    simp only [runX] at h
    obtain ⟨h1, h2, r, H', h3, h4⟩ := h
    simp only [evalX]
    rw [mvals_ok h1]
    cases hf : σ.get fx <;> rw [hf] at h2 h3 <;> try exact h2.elim
    · rename_i f first caps
      cases first with
      | cons a l => exact h2.elim
      | nil =>
        cases caps with
        | cons a l => exact h2.elim
        | nil => exact ⟨r, H', h3, h4⟩
    · exact ⟨h2, r, H', h3, h4⟩
  | mkmap d ty => exact h
  | mlook d ok m k z g =>
    have key : ∀ {σ : St}, entOk σ (σ.get m) ∧ kI (σ.get k) = true ∧ K (σ.set d (lkV ok z (lkp (ents (σ.get m)) (σ.get k).iv))) → mlookV σ d ok m k z K := by
      intro σ h
      obtain ⟨h1, h2, h3⟩ := h
      unfold mlookV
      obtain ⟨q, hq⟩ := kI_of h2
      rw [entOk_of h1, hq]
      rw [hq] at h3
      exact h3
    cases g with
    | none => exact key h
    | some g =>
      obtain ⟨t, w⟩ := g
      simp only [runX] at h
      obtain ⟨h1, h2, h3⟩ := h
      simp only [evalX, guardV]
      rcases gB_cases h1 with ⟨b, e⟩ | e
      · rw [e] at h2 h3
        rw [e]
        refine ⟨fun hb => ?_, fun hb => ?_⟩
        · subst hb
          exact key (h2 (by cases b <;> rfl))
        · subst hb
          have h := h3 (by cases w <;> rfl)
          simp only [AV.isB, if_true] at h
          exact h
      · rw [e] at h3
        rw [e]
        have h := h3 (by cases w <;> rfl)
        simp only [AV.isB, Bool.false_eq_true, if_false] at h
        exact h
  | mupd m k x =>
    simp only [runX] at h
    obtain ⟨h1, h2, h3, h4⟩ := h
    simp only [evalX]
    unfold mupdV
    obtain ⟨q, hq⟩ := kI_of h2
    rw [byval_ok.1 h3, hq]
    rw [hq] at h4
    cases hm : σ.get m <;> rw [hm] at h1 h4 <;> try exact h1.elim
    exact ⟨h1.1, h1.2, h4⟩
  | wcall d fx xs =>
    simp only [runX] at h
    obtain ⟨h1, h2, r, H', h3, h4⟩ := h
    simp only [evalX]
    rw [wvals_ok h1]
    cases hf : σ.get fx <;> rw [hf] at h2 h3 <;> try exact h2.elim
    rename_i f first caps
    cases first with
    | cons a l => exact h2.elim
    | nil =>
      cases caps with
      | cons a l => exact h2.elim
      | nil => exact ⟨r, H', h3, h4⟩
  | gcall d fx xs =>
    simp only [runX] at h
    obtain ⟨h1, h2, S, res, Rl, h3, h4, h5⟩ := h
    simp only [evalX]
    rw [byvals_ok.1 h1]
    cases hf : σ.get fx <;> rw [hf] at h2 h3 h4 h5 <;> try exact h2.elim
    exact ⟨h2, S, res, Rl, h3, h4, h5⟩
theorem runXs_ok {P : Program} {C : FuncId → List AV → AV → Prop} : ∀ {l : List XOp} {σ : St} {K : St → Prop}, runXs P C l σ K → evalXs P C l σ K
  | [], σ, K, h => h
  | x :: l, σ, K, h => evalX_mono (fun σ => runXs_ok) (runX_ok h)
def isPtrR : AV → Nat → Prop
  | .ptr r _ _, s => r = s
  | _, _ => False
def isRsR : AV → Nat → Prop
  | .rs r _ _, s => r = s
  | _, _ => False
/-- a region, its names read through a slot -/
def nmB (v : AV) : Bool := v.name.isSome
def nmD (v : AV) : Nat := v.name.getD 0
def runRegW (C : FuncId → List AV → AV → Prop) (g : Reg) (s : Nat) (σ : St) (K : St → Prop) : Prop :=
  nmB (σ.T s) = true ∧ 1000 ≤ nmD (σ.T s) ∧ runReg C (g.ren s (nmD (σ.T s))) σ K
theorem runRegW_ok {C : FuncId → List AV → AV → Prop} {g : Reg} {s : Nat} {σ : St} {K : St → Prop} (h : runRegW C g s σ K) : evalRegW C g s σ K := by
  unfold runRegW nmB nmD at h
  unfold evalRegW
  cases hn : (σ.T s).name with
  | none => rw [hn] at h; cases h.1
  | some q =>
    rw [hn] at h
    exact ⟨h.2.1, runReg_ok h.2.2⟩
def runRegD (P : Program) (C : FuncId → List AV → AV → Prop) (g : Reg) (l : List XOp) (σ : St) (K : St → Prop) : Prop :=
  runHead C (g.fzT.filterMap fun t => ((σ.kills g.kills).T t).name) [] g.head ((σ.kills g.kills).fzs (g.fzT.filterMap fun t => ((σ.kills g.kills).T t).name)) fun σ => runXs P C l σ K
theorem runRegD_ok {P : Program} {C : FuncId → List AV → AV → Prop} {g : Reg} {l : List XOp} {σ : St} {K : St → Prop} (h : runRegD P C g l σ K) : evalRegD P C g l σ K :=
  evalHead_mono (fun σ hk => runXs_ok (by simpa only [evalOps] using hk)) (runHead_ok h)
def stpSrc (tp tv s0 : Nat) (σ : St) : Prop := isPtrR (σ.T tp) s0 ∧ isRsR (σ.T tv) tv
def runRegP (P : Program) (C : FuncId → List AV → AV → Prop) (g : Reg) (z s0 tp tv : Nat) (l : List XOp) (σ : St) (K : St → Prop) : Prop :=
  runHead C [] [] g.head (σ.kills g.kills) fun σ => stpSrc tp tv s0 σ ∧ runXs P C (.op [] ⟨.storep z (.t tp) (.t tv), none, none, [], []⟩ :: l) σ K
theorem runRegP_ok {P : Program} {C : FuncId → List AV → AV → Prop} {g : Reg} {z s0 tp tv : Nat} {l : List XOp} {σ : St} {K : St → Prop} (h : runRegP P C g z s0 tp tv l σ K) : evalRegP P C g z s0 tp tv l σ K := by
  refine evalHead_mono (fun σ hk => ?_) (runHead_ok h)
  have hk : stpSrc tp tv s0 σ ∧ runXs P C (.op [] ⟨.storep z (.t tp) (.t tv), none, none, [], []⟩ :: l) σ K := by simpa only [evalOps] using hk
  obtain ⟨⟨h1, h2⟩, hk⟩ := hk
  have hx := runXs_ok hk
  simp only [evalXs, evalX, evalOps, guardV, stepV, IOp.isMut, if_true, St.kills] at hx
  unfold evalStp
  cases hp : σ.T tp <;> rw [hp] at h1 <;> try exact h1.elim
  cases hv : σ.T tv <;> rw [hv] at h2 <;> try exact h2.elim
  exact ⟨h1, h2, hx⟩
def runRegM (P : Program) (C : FuncId → List AV → AV → Prop) (g : Reg) (lt : List Nat) (mo ko vo : IOpd) (l : List XOp) (σ : St) (K : St → Prop) : Prop :=
  runHead C [] [] g.head σ fun σ => noMps lt σ ∧ (σ.get vo).byFree = true ∧ runXs P C (.mupd mo ko vo :: l) σ K
theorem runRegM_ok {P : Program} {C : FuncId → List AV → AV → Prop} {g : Reg} {lt : List Nat} {mo ko vo : IOpd} {l : List XOp} {σ : St} {K : St → Prop} (h : runRegM P C g lt mo ko vo l σ K) : evalRegM P C g lt mo ko vo l σ K := by
  refine evalHead_mono (fun σ hk => ?_) (runHead_ok h)
  have hk : noMps lt σ ∧ (σ.get vo).byFree = true ∧ runXs P C (.mupd mo ko vo :: l) σ K := by simpa only [evalOps] using hk
  exact ⟨hk.1, hk.2.1, runXs_ok hk.2.2⟩
/-- CODE: 'loops' are handed on as they are -/
def run (C : FuncId → List AV → AV → Prop) : IR → (XK → St → Prop) → St → Prop
  | .gini l, Q, σ => giniV l σ (Q .normal)
  | .skip, Q, σ => Q .normal σ
  | .reg g, Q, σ => runReg C g σ (Q .normal)
  | .regw g s, Q, σ => runRegW C g s σ (Q .normal)
  | .regd P g l, Q, σ => runRegD P C g l σ (Q .normal)
  | .regp P g z s0 tp tv l, Q, σ => runRegP P C g z s0 tp tv l σ (Q .normal)
  | .regm P g lt mo ko vo l, Q, σ => runRegM P C g lt mo ko vo l σ (Q .normal)
  | .regx P l, Q, σ => runXs P C l σ (Q .normal)
  | .seq x y, Q, σ => run C x (thenQ (run C y Q) Q) σ
  | .cond c x y, Q, σ => (σ.get c).isB = true ∧ ((σ.get c).bv = true → run C x Q σ) ∧ ((σ.get c).bv = false → run C y Q σ)
  | .block id b, Q, σ => run C b (blockQ id Q) σ
  | .loop b, Q, σ => awp C (.loop b) Q σ
  | .exit id, Q, σ => Q (.exit id) σ
  | .ret, Q, σ => Q .ret σ
theorem run_ok {C : FuncId → List AV → AV → Prop} : ∀ {c : IR} {Q : XK → St → Prop} {σ : St}, run C c Q σ → awp C c Q σ
  | .gini l, Q, σ, h => h
  | .skip, Q, σ, h => h
  | .reg g, Q, σ, h => runReg_ok h
  | .regw g s, Q, σ, h => runRegW_ok h
  | .regd P g l, Q, σ, h => runRegD_ok h
  | .regp P g z s0 tp tv l, Q, σ, h => runRegP_ok h
  | .regm P g lt mo ko vo l, Q, σ, h => runRegM_ok h
  | .regx P l, Q, σ, h => runXs_ok h
  | .seq x y, Q, σ, h => by
    simp only [run] at h
    simp only [awp]
    refine awp_mono x (fun e σ' hq => ?_) σ (run_ok h)
    cases e with
    | normal => exact run_ok hq
    | exit id => exact hq
    | ret => exact hq
  | .cond c x y, Q, σ, h => by
    simp only [run] at h
    simp only [awp]
    cases hc : σ.get c <;> rw [hc] at h <;> simp only [AV.isB, AV.bv, Bool.false_eq_true, false_and] at h
    exact ⟨fun e => run_ok (h.2.1 e), fun e => run_ok (h.2.2 e)⟩
  | .block id b, Q, σ, h => run_ok (c := b) h
  | .loop b, Q, σ, h => h
  | .exit id, Q, σ, h => h
  | .ret, Q, σ, h => h
/-- a loop, in this form -/
theorem run_loop {C : FuncId → List AV → AV → Prop} {b : IR} {Q : XK → St → Prop} (I : Nat → St → Prop) {σ : St} {k : Nat} (h0 : I k σ)
    (hstep : ∀ k σ, I k σ → run C b (thenQ (fun σ' => ∃ m, m < k ∧ I m σ') Q) σ) : awp C (.loop b) Q σ :=
  loop_inv I h0 fun k σ h => run_ok (hstep k σ h)
/-! ### Rules -/
def AV.isSl : AV → Bool | .sl _ => true | _ => false
def objTy' : Option Arr → Nat | some a => a.ty | none => 0
theorem apOk_rs (σ : St) (z ty bytes : Nat) (v : AV) (r off len : Nat) : apOk σ z ty bytes v (.rs r off len) = (byOk [] σ v ∧ (byVal σ v).isSl = true ∧ (σ.H r).isSome = true ∧ objZ (σ.H r) = z ∧ objTy' (σ.H r) = ty ∧ objProt ((σ.fzs (byFz v)).H r) ≤ off + len ∧ fitsV (len + (slOf (byVal σ v)).length) bytes ∧ r < 1000 ∧ ∀ d, d ∈ slOf (byVal σ v) → d.cells.length = z ∧ d.cells.all AV.one = true) := by
  have ht : apOk.objTy (σ.H r) = objTy' (σ.H r) := by cases σ.H r <;> rfl
  apply propext
  simp only [apOk, ht]
  constructor
  · rintro ⟨h1, l, h2, h3⟩
    rw [h2]
    exact ⟨h1, rfl, h3⟩
  · rintro ⟨h1, h2, h3⟩
    refine ⟨h1, slOf (byVal σ v), ?_, h3⟩
    cases hv : byVal σ v <;> rw [hv] at h2 <;> first | rfl | cases h2
theorem branch_ite (b : Bool) (X Y : Prop) : (if b = true then X else Y) = ((b = true → X) ∧ (b = false → Y)) := by
  cases b <;> simp
theorem ite_branch' (b : Bool) [inst : Decidable (b = false)] (X Y : Prop) : (if b = false then X else Y) = ((b = false → X) ∧ (b = true → Y)) := by
  cases b <;> simp
theorem ite_branch (b : Bool) [inst : Decidable (b = true)] (X Y : Prop) : (if b = true then X else Y) = ((b = true → X) ∧ (b = false → Y)) := by
  cases b <;> simp
theorem set_T (σ : St) (t s : Nat) (v : AV) : (σ.set t v).T s = if s = t then v else σ.T s := rfl
theorem set_H (σ : St) (t : Nat) (v : AV) : (σ.set t v).H = σ.H := rfl
theorem made_T (σ : St) (t s : Nat) (v : AV) (o : Option Arr) : (σ.made t v o).T s = if s = t then v else σ.T s := rfl
theorem made_H_none (σ : St) (t s : Nat) (v : AV) : (σ.made t v none).H s = σ.H s := rfl
theorem made_H_some (σ : St) (t s : Nat) (v : AV) (arr : Arr) : (σ.made t v (some arr)).H s = if s = t then some arr else σ.H s := rfl
theorem upd_at {α : Type} (f : Nat → α) (r s : Nat) (x : α) : upd f r x s = if s = r then x else f s := rfl
theorem sweep_at (T : Nat → AV) (r t : Nat) : sweep T r t = if (T t).name = some r then .und else T t := rfl
/-- what is left of a value behind an object's end -/
def keepS (σ : St) : AV → AV
  | .rs r off len => if (σ.H r).isSome = true then .sl (((objCells (σ.H r)).drop off).take len) else .und
  | _ => .und
theorem keepS_ok (σ : St) (v : AV) : keepV σ.H v = keepS σ v := by
  cases v with
  | rs r off len =>
    simp only [keepV, keepS]
    cases σ.H r <;> rfl
  | _ => rfl
theorem kill_T (σ : St) (r t : Nat) : (σ.kill r).T t = if (σ.T t).name = some r then keepS σ (σ.T t) else σ.T t := by
  rw [← keepS_ok]; rfl
theorem kill_H (σ : St) (r s : Nat) : (σ.kill r).H s = if s = r then none else σ.H s := rfl
theorem kills_nil (σ : St) : σ.kills [] = σ := rfl
theorem kills_cons (σ : St) (r : Nat) (l : List Nat) : σ.kills (r :: l) = (σ.kill r).kills l := rfl
theorem fz_T' (σ : St) (r t : Nat) : (σ.fz r).T t = σ.T t := rfl
theorem fz_H' (σ : St) (r s : Nat) : (σ.fz r).H s = if s = r then (σ.H r).map Arr.freeze else σ.H s := rfl
theorem fzs_nil (σ : St) : σ.fzs [] = σ := rfl
theorem fzs_cons (σ : St) (r : Nat) (l : List Nat) : σ.fzs (r :: l) = (σ.fz r).fzs l := rfl
theorem init_T (args : List AV) (t : Nat) : (initSt args).T t = args.getD t .und := rfl
theorem init_H (args : List AV) (t : Nat) : (initSt args).H t = none := rfl
theorem get_t (σ : St) (t : Nat) : σ.get (.t t) = σ.T t := rfl
theorem get_c (σ : St) (v : AV) : σ.get (.c v) = v := rfl
theorem freeze_mk (z ty : Nat) (l : List AV) (p : Nat) : Arr.freeze ⟨z, ty, l, p⟩ = ⟨z, ty, l, l.length⟩ := rfl
theorem thenQ_normal (K : St → Prop) (Q : XK → St → Prop) (σ : St) : thenQ K Q .normal σ = K σ := rfl
theorem thenQ_exit (K : St → Prop) (Q : XK → St → Prop) (i : Nat) (σ : St) : thenQ K Q (.exit i) σ = Q (.exit i) σ := rfl
theorem thenQ_ret (K : St → Prop) (Q : XK → St → Prop) (σ : St) : thenQ K Q .ret σ = Q .ret σ := rfl
theorem blockQ_normal (i : Nat) (Q : XK → St → Prop) (σ : St) : blockQ i Q .normal σ = Q .normal σ := rfl
theorem blockQ_ret (i : Nat) (Q : XK → St → Prop) (σ : St) : blockQ i Q .ret σ = Q .ret σ := rfl
theorem blockQ_exit (i j : Nat) (Q : XK → St → Prop) (σ : St) : blockQ i Q (.exit j) σ = if j = i then Q .normal σ else Q (.exit j) σ := rfl
theorem endQ_ret (ds : List RDesc) (r : AV) (σ : St) : endQ ds r .ret σ = retV ds r σ := rfl
theorem endQ_normal (ds : List RDesc) (r : AV) (σ : St) : endQ ds r .normal σ = retV ds r σ := rfl
theorem calling {C : FuncId → List AV → AV → Prop} {f : FuncId} {args : List AV} {hid : List Nat} {d : Nat} {fz : List Nat} {σ : St} {R : St → (St → Prop) → Prop} {K : St → Prop} {r : AV} (h : C f args r) (hk : resName hid d r = true ∧ R (resSt σ d fz r) K) : Calling C f args hid d fz σ R K := ⟨r, h, hk⟩
theorem callingH {C : FuncId → List AV → AV → Prop} {F0 : List Nat} {f : FuncId} {args : List AV} {hid : List Nat} {d : Nat} {fz : List Nat} {σ : St} {R : St → (St → Prop) → Prop} {K : St → Prop} {r : AV} (h : C f args r) (hk : resName hid d r = true ∧ (r.flatB || fz.all F0.contains) = true ∧ R (resSt σ d [] r) K) : CallingH C F0 f args hid d fz σ R K := ⟨r, h, hk⟩
theorem run_skip (C : FuncId → List AV → AV → Prop) (Q : XK → St → Prop) (σ : St) : run C .skip Q σ = Q .normal σ := rfl
theorem run_reg (C : FuncId → List AV → AV → Prop) (g : Reg) (Q : XK → St → Prop) (σ : St) : run C (.reg g) Q σ = runReg C g σ (Q .normal) := rfl
theorem run_regw (C : FuncId → List AV → AV → Prop) (g : Reg) (s : Nat) (Q : XK → St → Prop) (σ : St) : run C (.regw g s) Q σ = (nmB (σ.T s) = true ∧ 1000 ≤ nmD (σ.T s) ∧ runReg C (g.ren s (nmD (σ.T s))) σ (Q .normal)) := rfl
theorem run_regd (C : FuncId → List AV → AV → Prop) (P : Program) (g : Reg) (l : List XOp) (Q : XK → St → Prop) (σ : St) : run C (.regd P g l) Q σ = runRegD P C g l σ (Q .normal) := rfl
theorem run_regm (C : FuncId → List AV → AV → Prop) (P : Program) (g : Reg) (lt : List Nat) (mo ko vo : IOpd) (l : List XOp) (Q : XK → St → Prop) (σ : St) : run C (.regm P g lt mo ko vo l) Q σ = runRegM P C g lt mo ko vo l σ (Q .normal) := rfl
theorem noMps_nil (σ : St) : noMps [] σ = True := rfl
theorem noMps_cons (t : Nat) (l : List Nat) (σ : St) : noMps (t :: l) σ = ((σ.T t).isMp = false ∧ noMps l σ) := rfl
theorem run_seq (C : FuncId → List AV → AV → Prop) (x y : IR) (Q : XK → St → Prop) (σ : St) : run C (.seq x y) Q σ = run C x (thenQ (run C y Q) Q) σ := rfl
theorem run_cond (C : FuncId → List AV → AV → Prop) (c : IOpd) (x y : IR) (Q : XK → St → Prop) (σ : St) : run C (.cond c x y) Q σ = ((σ.get c).isB = true ∧ if (σ.get c).bv = true then run C x Q σ else run C y Q σ) := by
  rw [branch_ite]; rfl
theorem run_block (C : FuncId → List AV → AV → Prop) (id : Nat) (b : IR) (Q : XK → St → Prop) (σ : St) : run C (.block id b) Q σ = run C b (blockQ id Q) σ := rfl
theorem run_loop' (C : FuncId → List AV → AV → Prop) (b : IR) (Q : XK → St → Prop) (σ : St) : run C (.loop b) Q σ = awp C (.loop b) Q σ := rfl
theorem run_exit (C : FuncId → List AV → AV → Prop) (id : Nat) (Q : XK → St → Prop) (σ : St) : run C (.exit id) Q σ = Q (.exit id) σ := rfl
theorem run_ret (C : FuncId → List AV → AV → Prop) (Q : XK → St → Prop) (σ : St) : run C .ret Q σ = Q .ret σ := rfl
theorem runOps_nil (C : FuncId → List AV → AV → Prop) (σ : St) (K : St → Prop) : runOps C [] σ K = K σ := rfl
theorem runOps_op (C : FuncId → List AV → AV → Prop) (io : IOp) (d : Nat) (hid wr : List Nat) (l : List ROp) (σ : St) (K : St → Prop) : runOps C (⟨io, some d, none, hid, wr⟩ :: l) σ K = runOp C (runOps C l) K σ d hid io := rfl
theorem runOps_st (C : FuncId → List AV → AV → Prop) (z : Nat) (p x : IOpd) (hid wr : List Nat) (l : List ROp) (σ : St) (K : St → Prop) : runOps C (⟨.store z p x, none, none, hid, wr⟩ :: l) σ K = (stOk σ z (σ.get x) (σ.get p) ∧ runOps C l (stSt σ z (σ.get x) (σ.get p)) K) := rfl
theorem runOps_g (C : FuncId → List AV → AV → Prop) (io : IOp) (d t : Nat) (w : Bool) (hid wr : List Nat) (l : List ROp) (σ : St) (K : St → Prop) : runOps C (⟨io, some d, some (t, w), hid, wr⟩ :: l) σ K = (gB (σ.T t) = true ∧ if gIs w (σ.T t) = true then runOp C (runOps C l) K (σ.set t (.bool w)) d hid io else runOps C l ((if (σ.T t).isB then σ.set t (.bool (!w)) else σ).set d (.tup [])) K) := by
  rw [branch_ite]; rfl
theorem runHead_nil (C : FuncId → List AV → AV → Prop) (F0 : List Nat) (tl : List ROp) (σ : St) (K : St → Prop) : runHead C F0 tl [] σ K = runOps C tl σ K := rfl
theorem runHead_op (C : FuncId → List AV → AV → Prop) (F0 : List Nat) (tl : List ROp) (io : IOp) (d : Nat) (hid wr : List Nat) (l : List ROp) (σ : St) (K : St → Prop) : runHead C F0 tl (⟨io, some d, none, hid, wr⟩ :: l) σ K = headOp C F0 (runHead C F0 tl l) K σ d hid io := rfl
theorem runHead_st (C : FuncId → List AV → AV → Prop) (F0 : List Nat) (tl : List ROp) (z : Nat) (p x : IOpd) (hid wr : List Nat) (l : List ROp) (σ : St) (K : St → Prop) : runHead C F0 tl (⟨.store z p x, none, none, hid, wr⟩ :: l) σ K = (stHOk F0 hid wr σ z (σ.get x) (σ.get p) ∧ runHead C F0 tl l (stHSt σ z (σ.get x) (σ.get p)) K) := rfl
theorem runHead_g (C : FuncId → List AV → AV → Prop) (F0 : List Nat) (tl : List ROp) (io : IOp) (d t : Nat) (w : Bool) (hid wr : List Nat) (l : List ROp) (σ : St) (K : St → Prop) : runHead C F0 tl (⟨io, some d, some (t, w), hid, wr⟩ :: l) σ K = (gB (σ.T t) = true ∧ if gIs w (σ.T t) = true then headOp C F0 (runHead C F0 tl l) K (σ.set t (.bool w)) d hid io else runHead C F0 tl l ((if (σ.T t).isB then σ.set t (.bool (!w)) else σ).set d (.tup [])) K) := by
  rw [branch_ite]; rfl
theorem nameOk_none {hid : List Nat} {v : AV} (h : v.name = none) : nameOk hid v = true := by unfold nameOk; rw [h]
theorem nameOk_ptr' (hid : List Nat) (r i f : Nat) : nameOk hid (.ptr r i f) = !hid.contains r := rfl
theorem nameOk_rs' (hid : List Nat) (r i f : Nat) : nameOk hid (.rs r i f) = !hid.contains r := rfl
theorem run_regx (C : FuncId → List AV → AV → Prop) (P : Program) (l : List XOp) (Q : XK → St → Prop) (σ : St) : run C (.regx P l) Q σ = runXs P C l σ (Q .normal) := rfl
theorem runXs_nil (P : Program) (C : FuncId → List AV → AV → Prop) (σ : St) (K : St → Prop) : runXs P C [] σ K = K σ := rfl
theorem runXs_op (P : Program) (C : FuncId → List AV → AV → Prop) (k : List Nat) (r : ROp) (l : List XOp) (σ : St) (K : St → Prop) : runXs P C (.op k r :: l) σ K = runOps C [r] (σ.kills k) fun σ' => runXs P C l σ' K := rfl
theorem runXs_nilck (P : Program) (C : FuncId → List AV → AV → Prop) (d : Nat) (x : IOpd) (l : List XOp) (σ : St) (K : St → Prop) : runXs P C (.nilck d x none :: l) σ K = (ckOk σ (σ.get x) ∧ runXs P C l (σ.set d (σ.get x)) K) := rfl
theorem runXs_nilckg (P : Program) (C : FuncId → List AV → AV → Prop) (d : Nat) (x : IOpd) (t : Nat) (w : Bool) (l : List XOp) (σ : St) (K : St → Prop) : runXs P C (.nilck d x (some (t, w)) :: l) σ K = (gB (σ.T t) = true ∧ if gIs w (σ.T t) = true then ckOk (σ.set t (.bool w)) ((σ.set t (.bool w)).get x) ∧ runXs P C l ((σ.set t (.bool w)).set d ((σ.set t (.bool w)).get x)) K else runXs P C l ((if (σ.T t).isB then σ.set t (.bool (!w)) else σ).set d (.tup [])) K) := by
  rw [branch_ite]; rfl
theorem runXs_mkclo (P : Program) (C : FuncId → List AV → AV → Prop) (d : Nat) (f : FuncId) (x : IOpd) (l : List XOp) (σ : St) (K : St → Prop) : runXs P C (.mkclo d f x :: l) σ K = (cloOk σ (σ.get x) ∧ runXs P C l (σ.set d (.clom f (ptrAt (σ.get x)))) K) := rfl
theorem runXs_mcall (P : Program) (C : FuncId → List AV → AV → Prop) (d : Nat) (fx : IOpd) (xs : List IOpd) (l : List XOp) (σ : St) (K : St → Prop) : runXs P C (.mcall d fx xs :: l) σ K = (mOks σ (xs.map σ.get) ∧ mCalOk (σ.fzs (mFzs (xs.map σ.get))) (σ.get fx) ∧ MCalling P (mFn (σ.get fx)) (mArgs (mVals σ (xs.map σ.get)) (σ.get fx)) σ.T (σ.fzs (mFzs (xs.map σ.get))).H d (runXs P C l) K) := rfl
theorem runXs_wcall (P : Program) (C : FuncId → List AV → AV → Prop) (d : Nat) (fx : IOpd) (xs : List IOpd) (l : List XOp) (σ : St) (K : St → Prop) : runXs P C (.wcall d fx xs :: l) σ K = (wOks σ (xs.map σ.get) ∧ wCalOk (σ.get fx) ∧ MCalling P (mFn (σ.get fx)) (wVals σ (xs.map σ.get)) σ.T (σ.fzs (wFzs (xs.map σ.get))).H d (runXs P C l) K) := rfl
theorem runXs_mkmap (P : Program) (C : FuncId → List AV → AV → Prop) (d : Nat) (ty : TypeId) (l : List XOp) (σ : St) (K : St → Prop) : runXs P C (.mkmap d ty :: l) σ K = runXs P C l ((σ.kill d).made d (.mp d []) (some ⟨1, ty, [], 0⟩)) K := rfl
theorem runXs_mlook (P : Program) (C : FuncId → List AV → AV → Prop) (d : Nat) (ok : Bool) (m k : IOpd) (z : AV) (l : List XOp) (σ : St) (K : St → Prop) : runXs P C (.mlook d ok m k z none :: l) σ K = (entOk σ (σ.get m) ∧ kI (σ.get k) = true ∧ runXs P C l (σ.set d (lkV ok z (lkp (ents (σ.get m)) (σ.get k).iv))) K) := rfl
theorem runXs_mlookg (P : Program) (C : FuncId → List AV → AV → Prop) (d : Nat) (ok : Bool) (m k : IOpd) (z : AV) (t : Nat) (w : Bool) (l : List XOp) (σ : St) (K : St → Prop) : runXs P C (.mlook d ok m k z (some (t, w)) :: l) σ K = (gB (σ.T t) = true ∧ if gIs w (σ.T t) = true then entOk (σ.set t (.bool w)) ((σ.set t (.bool w)).get m) ∧ kI ((σ.set t (.bool w)).get k) = true ∧ runXs P C l ((σ.set t (.bool w)).set d (lkV ok z (lkp (ents ((σ.set t (.bool w)).get m)) ((σ.set t (.bool w)).get k).iv))) K else runXs P C l ((if (σ.T t).isB then σ.set t (.bool (!w)) else σ).set d (.tup [])) K) := by
  rw [branch_ite]; rfl
theorem runXs_mupd (P : Program) (C : FuncId → List AV → AV → Prop) (m k x : IOpd) (l : List XOp) (σ : St) (K : St → Prop) : runXs P C (.mupd m k x :: l) σ K = (mpOk σ (σ.get m) ∧ kI (σ.get k) = true ∧ byOk [] σ (σ.get x) ∧ runXs P C l ⟨remT (mpR (σ.get m)) (upk (ents (σ.get m)) (σ.get k).iv (byVal σ (σ.get x))) σ.T, (σ.fzs (byFz (σ.get x))).H⟩ K) := rfl
theorem nameOk_mp (hid : List Nat) (r : Nat) (es : List (Int × AV)) : nameOk hid (.mp r es) = !hid.contains r := rfl
theorem nameOk_clom (hid : List Nat) (f : FuncId) (r : Nat) : nameOk hid (.clom f r) = !hid.contains r := rfl
theorem initM_T (args : List AV) (H : Nat → Option Arr) (t : Nat) : (initM args H).T t = sh (args.getD t .und) := rfl
theorem initM_H (args : List AV) (H : Nat → Option Arr) : (initM args H).H = shH H := rfl
theorem shH_big (H : Nat → Option Arr) (r : Nat) : shH H (r + 1000) = H r := by unfold shH; rw [if_neg (by omega), Nat.add_sub_cancel]
theorem shH_small (H : Nat → Option Arr) (r : Nat) (h : r < 1000) : shH H r = none := if_pos h
theorem endM_ret (ds : List RDesc) (r : AV) (H' : Nat → Option Arr) (σ : St) : endM ds r H' .ret σ = retM ds r H' σ := rfl
theorem endM_normal (ds : List RDesc) (r : AV) (H' : Nat → Option Arr) (σ : St) : endM ds r H' .normal σ = retM ds r H' σ := rfl
theorem run_gini (C : FuncId → List AV → AV → Prop) (l : List GIni) (Q : XK → St → Prop) (σ : St) : run C (.gini l) Q σ = giniV l σ (Q .normal) := rfl
theorem giniV_nil (σ : St) (K : St → Prop) : giniV [] σ K = K σ := rfl
theorem giniV_cons (r j q z : Nat) (ty : TypeId) (l : List GIni) (σ : St) (K : St → Prop) : giniV (⟨r, j, q, z, ty⟩ :: l) σ K = (q < 1000 ∧ 0 < z ∧ giniV l ⟨upd (σ.kill q).T (vt r j) (.vrs q 0 0 (.slice none 0 0)), upd (σ.kill q).H q (some ⟨z, ty, [], 0⟩)⟩ K) := rfl
theorem runOps_clr (C : FuncId → List AV → AV → Prop) (z : Nat) (x : IOpd) (d : AV) (hid wr : List Nat) (l : List ROp) (σ : St) (K : St → Prop) : runOps C (⟨.copy z x (.c d), none, none, hid, wr⟩ :: l) σ K = (clOk σ z d (σ.get x) ∧ runOps C l (clSt σ d (σ.get x)) K) := rfl
theorem runOps_stp (C : FuncId → List AV → AV → Prop) (z : Nat) (p x : IOpd) (hid wr : List Nat) (l : List ROp) (σ : St) (K : St → Prop) : runOps C (⟨.storep z p x, none, none, hid, wr⟩ :: l) σ K = (stpOk σ z (σ.get x) (σ.get p) ∧ anyCell fun u => runOps C l (stpSt σ u (σ.get x) (σ.get p)) K) := rfl
end Go.Proofs.Ytcpendbmohfjcaa
end
section
/-
  The plain machine, eighteenth part: its rules in few theorems.
-/
namespace Go.Proofs.Ytcpendbmohfjcaa
set_option linter.unusedVariables false
theorem ev0 :
  (∀ (C : FuncId → List AV → AV → Prop) (Q : XK → St → Prop) (σ : St), run C .skip Q σ = Q .normal σ) ∧
  (∀ (C : FuncId → List AV → AV → Prop) (g : Reg) (Q : XK → St → Prop) (σ : St), run C (.reg g) Q σ = runReg C g σ (Q .normal)) ∧
  (∀ (C : FuncId → List AV → AV → Prop) (x y : IR) (Q : XK → St → Prop) (σ : St), run C (.seq x y) Q σ = run C x (thenQ (run C y Q) Q) σ) ∧
  (∀ (C : FuncId → List AV → AV → Prop) (c : IOpd) (x y : IR) (Q : XK → St → Prop) (σ : St), run C (.cond c x y) Q σ = ((σ.get c).isB = true ∧ if (σ.get c).bv = true then run C x Q σ else run C y Q σ)) ∧
  (∀ (C : FuncId → List AV → AV → Prop) (id : Nat) (b : IR) (Q : XK → St → Prop) (σ : St), run C (.block id b) Q σ = run C b (blockQ id Q) σ) ∧
  (∀ (C : FuncId → List AV → AV → Prop) (b : IR) (Q : XK → St → Prop) (σ : St), run C (.loop b) Q σ = awp C (.loop b) Q σ) ∧
  (∀ (C : FuncId → List AV → AV → Prop) (id : Nat) (Q : XK → St → Prop) (σ : St), run C (.exit id) Q σ = Q (.exit id) σ) ∧
  (∀ (C : FuncId → List AV → AV → Prop) (Q : XK → St → Prop) (σ : St), run C .ret Q σ = Q .ret σ) ∧
  (∀ (C : FuncId → List AV → AV → Prop) (σ : St) (K : St → Prop), runOps C [] σ K = K σ) ∧
  (∀ (C : FuncId → List AV → AV → Prop) (io : IOp) (d : Nat) (hid wr : List Nat) (l : List ROp) (σ : St) (K : St → Prop), runOps C (⟨io, some d, none, hid, wr⟩ :: l) σ K = runOp C (runOps C l) K σ d hid io) ∧
  (∀ (C : FuncId → List AV → AV → Prop) (z : Nat) (p x : IOpd) (hid wr : List Nat) (l : List ROp) (σ : St) (K : St → Prop), runOps C (⟨.store z p x, none, none, hid, wr⟩ :: l) σ K = (stOk σ z (σ.get x) (σ.get p) ∧ runOps C l (stSt σ z (σ.get x) (σ.get p)) K)) ∧
  (∀ (C : FuncId → List AV → AV → Prop) (io : IOp) (d t : Nat) (w : Bool) (hid wr : List Nat) (l : List ROp) (σ : St) (K : St → Prop), runOps C (⟨io, some d, some (t, w), hid, wr⟩ :: l) σ K = (gB (σ.T t) = true ∧ if gIs w (σ.T t) = true then runOp C (runOps C l) K (σ.set t (.bool w)) d hid io else runOps C l ((if (σ.T t).isB then σ.set t (.bool (!w)) else σ).set d (.tup [])) K)) :=
  ⟨run_skip, run_reg, run_seq, run_cond, run_block, run_loop', run_exit, run_ret, runOps_nil, runOps_op, runOps_st, runOps_g⟩
theorem ev1 :
  (∀ (C : FuncId → List AV → AV → Prop) (F0 : List Nat) (tl : List ROp) (σ : St) (K : St → Prop), runHead C F0 tl [] σ K = runOps C tl σ K) ∧
  (∀ (C : FuncId → List AV → AV → Prop) (F0 : List Nat) (tl : List ROp) (io : IOp) (d : Nat) (hid wr : List Nat) (l : List ROp) (σ : St) (K : St → Prop), runHead C F0 tl (⟨io, some d, none, hid, wr⟩ :: l) σ K = headOp C F0 (runHead C F0 tl l) K σ d hid io) ∧
  (∀ (C : FuncId → List AV → AV → Prop) (F0 : List Nat) (tl : List ROp) (io : IOp) (d t : Nat) (w : Bool) (hid wr : List Nat) (l : List ROp) (σ : St) (K : St → Prop), runHead C F0 tl (⟨io, some d, some (t, w), hid, wr⟩ :: l) σ K = (gB (σ.T t) = true ∧ if gIs w (σ.T t) = true then headOp C F0 (runHead C F0 tl l) K (σ.set t (.bool w)) d hid io else runHead C F0 tl l ((if (σ.T t).isB then σ.set t (.bool (!w)) else σ).set d (.tup [])) K)) ∧
  (∀ (C : FuncId → List AV → AV → Prop) (F0 : List Nat) (tl : List ROp) (z : Nat) (p x : IOpd) (hid wr : List Nat) (l : List ROp) (σ : St) (K : St → Prop), runHead C F0 tl (⟨.store z p x, none, none, hid, wr⟩ :: l) σ K = (stHOk F0 hid wr σ z (σ.get x) (σ.get p) ∧ runHead C F0 tl l (stHSt σ z (σ.get x) (σ.get p)) K)) ∧
  (∀ (σ : St), σ.kills [] = σ) ∧
  (∀ (σ : St) (r : Nat) (l : List Nat), σ.kills (r :: l) = (σ.kill r).kills l) ∧
  (∀ (σ : St) (r t : Nat), (σ.kill r).T t = if (σ.T t).name = some r then keepS σ (σ.T t) else σ.T t) ∧
  (∀ (σ : St) (r s : Nat), (σ.kill r).H s = if s = r then none else σ.H s) ∧
  (∀ (σ : St), σ.fzs [] = σ) ∧
  (∀ (σ : St) (r : Nat) (l : List Nat), σ.fzs (r :: l) = (σ.fz r).fzs l) ∧
  (∀ (σ : St) (r t : Nat), (σ.fz r).T t = σ.T t) ∧
  (∀ (σ : St) (r s : Nat), (σ.fz r).H s = if s = r then (σ.H r).map Arr.freeze else σ.H s) :=
  ⟨runHead_nil, runHead_op, runHead_g, runHead_st, kills_nil, kills_cons, kill_T, kill_H, fzs_nil, fzs_cons, fz_T', fz_H'⟩
theorem ev2 :
  (∀ (σ : St) (t : Nat), σ.get (.t t) = σ.T t) ∧
  (∀ (σ : St) (v : AV), σ.get (.c v) = v) ∧
  (∀ (σ : St) (t s : Nat) (v : AV) (o : Option Arr), (σ.made t v o).T s = if s = t then v else σ.T s) ∧
  (∀ (σ : St) (t s : Nat) (v : AV), (σ.made t v none).H s = σ.H s) ∧
  (∀ (σ : St) (t s : Nat) (v : AV) (arr : Arr), (σ.made t v (some arr)).H s = if s = t then some arr else σ.H s) ∧
  (∀ (σ : St) (t s : Nat) (v : AV), (σ.set t v).T s = if s = t then v else σ.T s) ∧
  (∀ (σ : St) (t : Nat) (v : AV), (σ.set t v).H = σ.H) ∧
  (∀ (T : Nat → AV) (r t : Nat), sweep T r t = if (T t).name = some r then .und else T t) ∧
  (∀ (args : List AV) (t : Nat), (initSt args).T t = args.getD t .und) ∧
  (∀ (args : List AV) (t : Nat), (initSt args).H t = none) ∧
  (∀ (K : St → Prop) (Q : XK → St → Prop) (σ : St), thenQ K Q .normal σ = K σ) ∧
  (∀ (K : St → Prop) (Q : XK → St → Prop) (σ : St), thenQ K Q .ret σ = Q .ret σ) :=
  ⟨get_t, get_c, made_T, made_H_none, made_H_some, set_T, set_H, sweep_at, init_T, init_H, thenQ_normal, thenQ_ret⟩
theorem ev3 :
  (∀ (K : St → Prop) (Q : XK → St → Prop) (i : Nat) (σ : St), thenQ K Q (.exit i) σ = Q (.exit i) σ) ∧
  (∀ (i : Nat) (Q : XK → St → Prop) (σ : St), blockQ i Q .normal σ = Q .normal σ) ∧
  (∀ (i : Nat) (Q : XK → St → Prop) (σ : St), blockQ i Q .ret σ = Q .ret σ) ∧
  (∀ (i j : Nat) (Q : XK → St → Prop) (σ : St), blockQ i Q (.exit j) σ = if j = i then Q .normal σ else Q (.exit j) σ) ∧
  (∀ (ds : List RDesc) (r : AV) (σ : St), endQ ds r .ret σ = retV ds r σ) ∧
  (∀ (ds : List RDesc) (r : AV) (σ : St), endQ ds r .normal σ = retV ds r σ) ∧
  (∀ (hid : List Nat) (r i f : Nat), nameOk hid (.ptr r i f) = !hid.contains r) ∧
  (∀ (hid : List Nat) (r i f : Nat), nameOk hid (.rs r i f) = !hid.contains r) ∧
  (∀ (z ty : Nat) (l : List AV) (p : Nat), Arr.freeze ⟨z, ty, l, p⟩ = ⟨z, ty, l, l.length⟩) ∧
  (∀ (σ : St) (z ty bytes : Nat) (v : AV) (r off len : Nat), apOk σ z ty bytes v (.rs r off len) = (byOk [] σ v ∧ (byVal σ v).isSl = true ∧ (σ.H r).isSome = true ∧ objZ (σ.H r) = z ∧ objTy' (σ.H r) = ty ∧ objProt ((σ.fzs (byFz v)).H r) ≤ off + len ∧ fitsV (len + (slOf (byVal σ v)).length) bytes ∧ r < 1000 ∧ ∀ d, d ∈ slOf (byVal σ v) → d.cells.length = z ∧ d.cells.all AV.one = true)) :=
  ⟨thenQ_exit, blockQ_normal, blockQ_ret, blockQ_exit, endQ_ret, endQ_normal, nameOk_ptr', nameOk_rs', freeze_mk, apOk_rs⟩
theorem ev4 :
  (∀ (C : FuncId → List AV → AV → Prop) (P : Program) (l : List XOp) (Q : XK → St → Prop) (σ : St), run C (.regx P l) Q σ = runXs P C l σ (Q .normal)) ∧
  (∀ (P : Program) (C : FuncId → List AV → AV → Prop) (σ : St) (K : St → Prop), runXs P C [] σ K = K σ) ∧
  (∀ (P : Program) (C : FuncId → List AV → AV → Prop) (k : List Nat) (r : ROp) (l : List XOp) (σ : St) (K : St → Prop), runXs P C (.op k r :: l) σ K = runOps C [r] (σ.kills k) fun σ' => runXs P C l σ' K) ∧
  (∀ (P : Program) (C : FuncId → List AV → AV → Prop) (d : Nat) (x : IOpd) (l : List XOp) (σ : St) (K : St → Prop), runXs P C (.nilck d x none :: l) σ K = (ckOk σ (σ.get x) ∧ runXs P C l (σ.set d (σ.get x)) K)) ∧
  (∀ (P : Program) (C : FuncId → List AV → AV → Prop) (d : Nat) (x : IOpd) (t : Nat) (w : Bool) (l : List XOp) (σ : St) (K : St → Prop), runXs P C (.nilck d x (some (t, w)) :: l) σ K = (gB (σ.T t) = true ∧ if gIs w (σ.T t) = true then ckOk (σ.set t (.bool w)) ((σ.set t (.bool w)).get x) ∧ runXs P C l ((σ.set t (.bool w)).set d ((σ.set t (.bool w)).get x)) K else runXs P C l ((if (σ.T t).isB then σ.set t (.bool (!w)) else σ).set d (.tup [])) K)) ∧
  (∀ (P : Program) (C : FuncId → List AV → AV → Prop) (d : Nat) (f : FuncId) (x : IOpd) (l : List XOp) (σ : St) (K : St → Prop), runXs P C (.mkclo d f x :: l) σ K = (cloOk σ (σ.get x) ∧ runXs P C l (σ.set d (.clom f (ptrAt (σ.get x)))) K)) ∧
  (∀ (P : Program) (C : FuncId → List AV → AV → Prop) (d : Nat) (fx : IOpd) (xs : List IOpd) (l : List XOp) (σ : St) (K : St → Prop), runXs P C (.mcall d fx xs :: l) σ K = (mOks σ (xs.map σ.get) ∧ mCalOk (σ.fzs (mFzs (xs.map σ.get))) (σ.get fx) ∧ MCalling P (mFn (σ.get fx)) (mArgs (mVals σ (xs.map σ.get)) (σ.get fx)) σ.T (σ.fzs (mFzs (xs.map σ.get))).H d (runXs P C l) K)) ∧
  (∀ (hid : List Nat) (f : FuncId) (r : Nat), nameOk hid (.clom f r) = !hid.contains r) ∧
  (∀ (args : List AV) (H : Nat → Option Arr) (t : Nat), (initM args H).T t = sh (args.getD t .und)) ∧
  (∀ (args : List AV) (H : Nat → Option Arr), (initM args H).H = shH H) ∧
  (∀ (H : Nat → Option Arr) (r : Nat), shH H (r + 1000) = H r) ∧
  (∀ (ds : List RDesc) (r : AV) (H' : Nat → Option Arr) (σ : St), endM ds r H' .ret σ = retM ds r H' σ) ∧
  (∀ (ds : List RDesc) (r : AV) (H' : Nat → Option Arr) (σ : St), endM ds r H' .normal σ = retM ds r H' σ) ∧
  (∀ (f : FuncId) (r : Nat), (AV.clom f r).name = some r) ∧
  (∀ (f : FuncId) (r : Nat), (AV.clom f r).isC = false) :=
  ⟨run_regx, runXs_nil, runXs_op, runXs_nilck, runXs_nilckg, runXs_mkclo, runXs_mcall, nameOk_clom, initM_T, initM_H, shH_big, endM_ret, endM_normal, fun _ _ => rfl, fun _ _ => rfl⟩
theorem evA :
  (∀ (k : IntKind) (n : Int), (AV.int k n).isI = true) ∧
  (∀ (k : IntKind) (n : Int), (AV.int k n).isB = false) ∧
  (∀ (k : IntKind) (n : Int), (AV.int k n).isS = false) ∧
  (∀ (k : IntKind) (n : Int), (AV.int k n).isA = false) ∧
  (∀ (k : IntKind) (n : Int), (AV.int k n).isTu = false) ∧
  (∀ (k : IntKind) (n : Int), (AV.int k n).isC = false) ∧
  (∀ (b : Bool), (AV.bool b).isI = false) ∧
  (∀ (b : Bool), (AV.bool b).isB = true) ∧
  (∀ (b : Bool), (AV.bool b).isS = false) ∧
  (∀ (b : Bool), (AV.bool b).isA = false) ∧
  (∀ (b : Bool), (AV.bool b).isTu = false) ∧
  (∀ (b : Bool), (AV.bool b).isC = false) ∧
  (∀ (s : ByteArray), (AV.str s).isI = false) ∧
  (∀ (s : ByteArray), (AV.str s).isB = false) ∧
  (∀ (s : ByteArray), (AV.str s).isS = true) ∧
  (∀ (s : ByteArray), (AV.str s).isA = false) ∧
  (∀ (s : ByteArray), (AV.str s).isTu = false) ∧
  (∀ (s : ByteArray), (AV.str s).isC = false) ∧
  (∀ (l : List AV), (AV.agg l).isI = false) ∧
  (∀ (l : List AV), (AV.agg l).isB = false) ∧
  (∀ (l : List AV), (AV.agg l).isS = false) ∧
  (∀ (l : List AV), (AV.agg l).isA = true) ∧
  (∀ (l : List AV), (AV.agg l).isTu = false) ∧
  (∀ (l : List AV), (AV.agg l).isC = false) ∧
  (∀ (l : List AV), (AV.tup l).isI = false) ∧
  (∀ (l : List AV), (AV.tup l).isB = false) ∧
  (∀ (l : List AV), (AV.tup l).isS = false) ∧
  (∀ (l : List AV), (AV.tup l).isA = false) ∧
  (∀ (l : List AV), (AV.tup l).isTu = true) ∧
  (∀ (l : List AV), (AV.tup l).isC = false) ∧
  (∀ (f : FuncId) (x y : List AV), (AV.clo f x y).isI = false) ∧
  (∀ (f : FuncId) (x y : List AV), (AV.clo f x y).isB = false) ∧
  (∀ (f : FuncId) (x y : List AV), (AV.clo f x y).isS = false) ∧
  (∀ (f : FuncId) (x y : List AV), (AV.clo f x y).isA = false) ∧
  (∀ (f : FuncId) (x y : List AV), (AV.clo f x y).isTu = false) ∧
  (∀ (f : FuncId) (x y : List AV), (AV.clo f x y).isC = true) ∧
  (∀ (k : IntKind) (n : Int), (AV.int k n).iv = n) ∧
  (∀ (k : IntKind) (n : Int), (AV.int k n).ik = k) ∧
  (∀ b : Bool, (AV.bool b).bv = b) ∧
  (∀ s : ByteArray, (AV.str s).sv = s) ∧
  (∀ l : List AV, (AV.agg l).av = l) ∧
  (∀ l : List AV, (AV.tup l).tv = l) ∧
  (∀ (f : FuncId) (x y : List AV), (AV.clo f x y).cf = f) ∧
  (∀ (f : FuncId) (x y : List AV), (AV.clo f x y).c1 = x) ∧
  (∀ (f : FuncId) (x y : List AV), (AV.clo f x y).c2 = y) ∧
  (∀ l : List AV, (AV.agg l).cells = l) ∧
  (∀ (k : IntKind) (n : Int), (AV.int k n).cells = [.int k n]) ∧
  (∀ (k : IntKind) (n : Int), (AV.int k n).one = true) ∧
  (∀ (b : Bool), (AV.bool b).cells = [.bool b]) ∧
  (∀ (b : Bool), (AV.bool b).one = true) ∧
  (∀ (s : ByteArray), (AV.str s).cells = [.str s]) ∧
  (∀ (s : ByteArray), (AV.str s).one = true) ∧
  (∀ (l : List AV), (AV.sl l).cells = [.sl l]) ∧
  (∀ (l : List AV), (AV.sl l).one = true) ∧
  (∀ (l : List AV), (AV.rp l).cells = [.rp l]) ∧
  (∀ (l : List AV), (AV.rp l).one = true) ∧
  (∀ (f : FuncId) (x y : List AV), (AV.clo f x y).cells = [.clo f x y]) ∧
  (∀ (f : FuncId) (x y : List AV), (AV.clo f x y).one = true) ∧
  (∀ (v : Value), (AV.cst v).cells = [.cst v]) ∧
  (∀ (v : Value), (AV.cst v).one = true) ∧
  (AV.nilp.cells = [.nilp]) ∧
  (AV.nilp.one = true) ∧
  (∀ r i f : Nat, (AV.ptr r i f).name = some r) ∧
  (∀ r i f : Nat, (AV.rs r i f).name = some r) ∧
  (∀ (k : IntKind) (n : Int), (AV.int k n).name = none) ∧
  (∀ (b : Bool), (AV.bool b).name = none) ∧
  (∀ (s : ByteArray), (AV.str s).name = none) ∧
  (∀ (l : List AV), (AV.sl l).name = none) ∧
  (∀ (l : List AV), (AV.rp l).name = none) ∧
  (∀ (l : List AV), (AV.agg l).name = none) ∧
  (∀ (l : List AV), (AV.tup l).name = none) ∧
  (∀ (f : FuncId) (x y : List AV), (AV.clo f x y).name = none) ∧
  (∀ (v : Value), (AV.cst v).name = none) ∧
  (AV.und.name = none) ∧
  (AV.nilp.name = none) := by
  repeat' apply And.intro
  all_goals (intros; rfl)
theorem evM :
  (∀ (C : FuncId → List AV → AV → Prop) (P : Program) (g : Reg) (lt : List Nat) (mo ko vo : IOpd) (l : List XOp) (Q : XK → St → Prop) (σ : St), run C (.regm P g lt mo ko vo l) Q σ = runRegM P C g lt mo ko vo l σ (Q .normal)) ∧
  (∀ σ : St, noMps [] σ = True) ∧
  (∀ (t : Nat) (l : List Nat) (σ : St), noMps (t :: l) σ = ((σ.T t).isMp = false ∧ noMps l σ)) ∧
  (∀ (C : FuncId → List AV → AV → Prop) (P : Program) (g : Reg) (l : List XOp) (Q : XK → St → Prop) (σ : St), run C (.regd P g l) Q σ = runRegD P C g l σ (Q .normal)) ∧
  (∀ (P : Program) (C : FuncId → List AV → AV → Prop) (d : Nat) (ty : TypeId) (l : List XOp) (σ : St) (K : St → Prop), runXs P C (.mkmap d ty :: l) σ K = runXs P C l ((σ.kill d).made d (.mp d []) (some ⟨1, ty, [], 0⟩)) K) ∧
  (∀ (P : Program) (C : FuncId → List AV → AV → Prop) (d : Nat) (ok : Bool) (m k : IOpd) (z : AV) (l : List XOp) (σ : St) (K : St → Prop), runXs P C (.mlook d ok m k z none :: l) σ K = (entOk σ (σ.get m) ∧ kI (σ.get k) = true ∧ runXs P C l (σ.set d (lkV ok z (lkp (ents (σ.get m)) (σ.get k).iv))) K)) ∧
  (∀ (P : Program) (C : FuncId → List AV → AV → Prop) (d : Nat) (ok : Bool) (m k : IOpd) (z : AV) (t : Nat) (w : Bool) (l : List XOp) (σ : St) (K : St → Prop), runXs P C (.mlook d ok m k z (some (t, w)) :: l) σ K = (gB (σ.T t) = true ∧ if gIs w (σ.T t) = true then entOk (σ.set t (.bool w)) ((σ.set t (.bool w)).get m) ∧ kI ((σ.set t (.bool w)).get k) = true ∧ runXs P C l ((σ.set t (.bool w)).set d (lkV ok z (lkp (ents ((σ.set t (.bool w)).get m)) ((σ.set t (.bool w)).get k).iv))) K else runXs P C l ((if (σ.T t).isB then σ.set t (.bool (!w)) else σ).set d (.tup [])) K)) ∧
  (∀ (P : Program) (C : FuncId → List AV → AV → Prop) (m k x : IOpd) (l : List XOp) (σ : St) (K : St → Prop), runXs P C (.mupd m k x :: l) σ K = (mpOk σ (σ.get m) ∧ kI (σ.get k) = true ∧ byOk [] σ (σ.get x) ∧ runXs P C l ⟨remT (mpR (σ.get m)) (upk (ents (σ.get m)) (σ.get k).iv (byVal σ (σ.get x))) σ.T, (σ.fzs (byFz (σ.get x))).H⟩ K)) ∧
  (∀ (hid : List Nat) (r : Nat) (es : List (Int × AV)), nameOk hid (.mp r es) = !hid.contains r) ∧
  (∀ (r : Nat) (es : List (Int × AV)), (AV.mp r es).name = some r) ∧
  (∀ es : List (Int × AV), (AV.mv es).name = none) ∧
  (∀ es : List (Int × AV), (AV.mv es).cells = [.mv es]) ∧
  (∀ es : List (Int × AV), (AV.mv es).one = true) ∧
  (∀ (r : Nat) (es : List (Int × AV)) (T : Nat → AV) (t : Nat), remT r es T t = remp r es (T t)) ∧
  (∀ (r s : Nat) (es l : List (Int × AV)), remp r es (.mp s l) = if s = r then .mp r es else .mp s l) :=
  ⟨run_regm, noMps_nil, noMps_cons, run_regd, runXs_mkmap, runXs_mlook, runXs_mlookg, runXs_mupd, nameOk_mp, fun _ _ => rfl, fun _ => rfl, fun _ => rfl, fun _ => rfl, fun _ _ _ _ => rfl, fun _ _ _ _ => rfl⟩
theorem evW :
  (∀ (C : FuncId → List AV → AV → Prop) (g : Reg) (s : Nat) (Q : XK → St → Prop) (σ : St), run C (.regw g s) Q σ = (nmB (σ.T s) = true ∧ 1000 ≤ nmD (σ.T s) ∧ runReg C (g.ren s (nmD (σ.T s))) σ (Q .normal))) ∧
  (∀ (r off len : Nat), nmB (.rs r off len) = true) ∧
  (∀ (r off len : Nat), nmD (.rs r off len) = r) ∧
  (∀ (P : Program) (C : FuncId → List AV → AV → Prop) (d : Nat) (fx : IOpd) (xs : List IOpd) (l : List XOp) (σ : St) (K : St → Prop), runXs P C (.wcall d fx xs :: l) σ K = (wOks σ (xs.map σ.get) ∧ wCalOk (σ.get fx) ∧ MCalling P (mFn (σ.get fx)) (wVals σ (xs.map σ.get)) σ.T (σ.fzs (wFzs (xs.map σ.get))).H d (runXs P C l) K)) ∧
  (∀ (f : FuncId), wCalOk (.clo f [] []) = True) ∧
  (∀ (f : FuncId) (x y : List AV), mFn (.clo f x y) = f) ∧
  (∀ (σ : St), wOks σ [] = True) ∧
  (∀ (σ : St) (v : AV) (l : List AV), wOks σ (v :: l) = (wOk σ v ∧ wOks σ l)) ∧
  (∀ (σ : St), wVals σ [] = []) ∧
  (∀ (σ : St) (v : AV) (l : List AV), wVals σ (v :: l) = wVal σ v :: wVals σ l) ∧
  (wFzs [] = []) ∧
  (∀ (v : AV) (l : List AV), wFzs (v :: l) = wFz v ++ wFzs l) ∧
  (∀ (σ : St) (r off len : Nat), wOk σ (.rs r off len) = True) ∧
  (∀ (σ : St) (k : IntKind) (n : Int), wOk σ (.int k n) = True) ∧
  (∀ (σ : St) (f : FuncId) (x y : List AV), wOk σ (.clo f x y) = True) ∧
  (∀ (σ : St) (r off len : Nat), wVal σ (.rs r off len) = .rs r off len) ∧
  (∀ (σ : St) (k : IntKind) (n : Int), wVal σ (.int k n) = .int k n) ∧
  (∀ (σ : St) (f : FuncId) (x y : List AV), wVal σ (.clo f x y) = .clo f x y) ∧
  (∀ (r off len : Nat), wFz (.rs r off len) = []) ∧
  (∀ (k : IntKind) (n : Int), wFz (.int k n) = []) ∧
  (∀ (f : FuncId) (x y : List AV), wFz (.clo f x y) = []) := by
  refine ⟨run_regw, fun _ _ _ => rfl, fun _ _ _ => rfl, runXs_wcall, ?_, ?_, ?_, ?_, ?_, ?_, ?_, ?_, ?_, ?_, ?_, ?_, ?_, ?_, ?_, ?_, ?_⟩ <;> (intros; first | rfl | (simp [wOk, mOk, byOk]))
theorem evP :
  (∀ (C : FuncId → List AV → AV → Prop) (P : Program) (g : Reg) (z s0 tp tv : Nat) (l : List XOp) (Q : XK → St → Prop) (σ : St), run C (.regp P g z s0 tp tv l) Q σ = runRegP P C g z s0 tp tv l σ (Q .normal)) ∧
  (∀ (tp tv s0 : Nat) (σ : St), stpSrc tp tv s0 σ = (isPtrR (σ.T tp) s0 ∧ isRsR (σ.T tv) tv)) ∧
  (∀ (r i f s : Nat), isPtrR (.ptr r i f) s = (r = s)) ∧
  (∀ (r i f s : Nat), isRsR (.rs r i f) s = (r = s)) ∧
  (∀ (C : FuncId → List AV → AV → Prop) (l : List GIni) (Q : XK → St → Prop) (σ : St), run C (.gini l) Q σ = giniV l σ (Q .normal)) ∧
  (∀ (σ : St) (K : St → Prop), giniV [] σ K = K σ) ∧
  (∀ (r j q z : Nat) (ty : TypeId) (l : List GIni) (σ : St) (K : St → Prop), giniV (⟨r, j, q, z, ty⟩ :: l) σ K = (q < 1000 ∧ 0 < z ∧ giniV l ⟨upd (σ.kill q).T (vt r j) (.vrs q 0 0 (.slice none 0 0)), upd (σ.kill q).H q (some ⟨z, ty, [], 0⟩)⟩ K)) ∧
  (∀ (C : FuncId → List AV → AV → Prop) (z : Nat) (p x : IOpd) (hid wr : List Nat) (l : List ROp) (σ : St) (K : St → Prop), runOps C (⟨.storep z p x, none, none, hid, wr⟩ :: l) σ K = (stpOk σ z (σ.get x) (σ.get p) ∧ anyCell fun u => runOps C l (stpSt σ u (σ.get x) (σ.get p)) K)) ∧
  (∀ (r o : Nat), vt r o = 1000 + 100 * r + o) ∧
  (∀ (r off len : Nat) (u : Value), (AV.vrs r off len u).name = some r) ∧
  (∀ (hid : List Nat) (r off len : Nat) (u : Value), nameOk hid (.vrs r off len u) = !hid.contains r) ∧
  (∀ (v : Value), (AV.cst v).cells = [.cst v]) ∧
  (∀ (v : Value), (AV.cst v).one = true) ∧
  (nilV (.slice none 0 0) = .sl []) ∧
  (∀ (r i f : Nat), pRt (.ptr r i f) = r) ∧
  (∀ (σ : St) (r i f : Nat), pOf σ (.ptr r i f) = i * objZ (σ.H r) + f) ∧
  (∀ (r i f : Nat), isPtr (.ptr r i f) = true) :=
  ⟨fun _ _ _ _ _ _ _ _ _ _ => rfl, fun _ _ _ _ => rfl, fun _ _ _ _ => rfl, fun _ _ _ _ => rfl, run_gini, giniV_nil, giniV_cons, runOps_stp, fun _ _ => rfl, fun _ _ _ _ => rfl, fun _ _ _ _ _ => rfl, fun _ => rfl, fun _ => rfl, rfl, fun _ _ _ => rfl, fun _ _ _ _ => rfl, fun _ _ _ => rfl⟩
/-! ### Objects with slices, handed on -/
theorem evCl :
  (∀ (C : FuncId → List AV → AV → Prop) (z : Nat) (x : IOpd) (d : AV) (hid wr : List Nat) (l : List ROp) (σ : St) (K : St → Prop), runOps C (⟨.copy z x (.c d), none, none, hid, wr⟩ :: l) σ K = (clOk σ z d (σ.get x) ∧ runOps C l (clSt σ d (σ.get x)) K)) ∧
  (∀ (σ : St) (z : Nat) (d : AV) (r off len : Nat), clOk σ z d (.rs r off len) = ((σ.H r).isSome = true ∧ objZ (σ.H r) = z ∧ objProt (σ.H r) ≤ off ∧ d.cells.length = z ∧ d.cells.all AV.one = true)) ∧
  (∀ (σ : St) (d : AV) (r off len : Nat), clSt σ d (.rs r off len) = ⟨σ.T, upd σ.H r (clArr d off len (σ.H r))⟩) ∧
  (∀ (d : AV) (off len z : Nat) (ty : TypeId) (l : List AV) (p : Nat), clArr d off len (some ⟨z, ty, l, p⟩) = some ⟨z, ty, l.take off ++ List.replicate len d ++ l.drop (off + len), p⟩) :=
  ⟨runOps_clr, fun _ _ _ _ _ _ => rfl, fun _ _ _ _ _ => rfl, fun _ _ _ _ _ _ _ => rfl⟩
end Go.Proofs.Ytcpendbmohfjcaa
end
section
/-
  Where one comes to by edges. No program.
-/
namespace Go.Proofs.Ytcpendbmohfjcaa
set_option linter.unusedVariables false
abbrev Edge := Int × Int
/-- by one edge or more -/
inductive TC (l : List Edge) : Int → Int → Prop
  | one {a b : Int} : (a, b) ∈ l → TC l a b
  | step {a b c : Int} : TC l a b → (b, c) ∈ l → TC l a c
/-- numbers that rise -/
def Rise : List Int → Prop := List.Pairwise (· < ·)
theorem rise_unique : ∀ {a b : List Int}, Rise a → Rise b → (∀ x, x ∈ a ↔ x ∈ b) → a = b
  | [], [], _, _, _ => rfl
  | [], y :: b, _, _, h => absurd ((h y).2 (by simp)) (by simp)
  | x :: a, [], _, _, h => absurd ((h x).1 (by simp)) (by simp)
  | x :: a, y :: b, ha, hb, h => by
    have ha' := List.pairwise_cons.1 ha
    have hb' := List.pairwise_cons.1 hb
    have e : x = y := by
      rcases List.mem_cons.1 ((h x).1 (by simp)) with e | e
      · exact e
      · rcases List.mem_cons.1 ((h y).2 (by simp)) with e' | e'
        · exact e'.symm
        · have := hb'.1 x e; have := ha'.1 y e'; omega
    subst e
    congr 1
    refine rise_unique ha'.2 hb'.2 fun z => ⟨fun hz => ?_, fun hz => ?_⟩
    · rcases List.mem_cons.1 ((h z).1 (List.mem_cons_of_mem _ hz)) with e | e
      · have := ha'.1 z hz; omega
      · exact e
    · rcases List.mem_cons.1 ((h z).2 (List.mem_cons_of_mem _ hz)) with e | e
      · have := hb'.1 z hz; omega
      · exact e
/-- put in, once, in order -/
def insR (x : Int) : List Int → List Int
  | [] => [x]
  | y :: l => if x < y then x :: y :: l else if x = y then y :: l else y :: insR x l
theorem mem_insR {x z : Int} : ∀ {l : List Int}, z ∈ insR x l ↔ z = x ∨ z ∈ l
  | [] => by simp [insR]
  | y :: l => by
    unfold insR
    split
    · simp
    · split
      · rename_i h; subst h; simp
      · simp only [List.mem_cons, mem_insR (l := l)]
        constructor
        · rintro (h | h | h) <;> simp [h]
        · rintro (h | h | h) <;> simp [h]
theorem rise_insR {x : Int} : ∀ {l : List Int}, Rise l → Rise (insR x l)
  | [], _ => by simp [insR, Rise]
  | y :: l, h => by
    have h' := List.pairwise_cons.1 h
    unfold insR
    split
    · rename_i hlt
      refine List.pairwise_cons.2 ⟨fun z hz => ?_, h⟩
      rcases List.mem_cons.1 hz with e | e
      · omega
      · have := h'.1 z e; omega
    · split
      · exact h
      · refine List.pairwise_cons.2 ⟨fun z hz => ?_, rise_insR h'.2⟩
        rcases mem_insR.1 hz with e | e
        · omega
        · exact h'.1 z e
/-- in order, each once -/
def srtI (l : List Int) : List Int := l.foldr insR []
theorem mem_srtI {z : Int} : ∀ {l : List Int}, z ∈ srtI l ↔ z ∈ l
  | [] => by simp [srtI]
  | x :: l => by
    show z ∈ insR x (srtI l) ↔ _
    rw [mem_insR, mem_srtI, List.mem_cons]
theorem rise_srtI : ∀ (l : List Int), Rise (srtI l)
  | [] => List.Pairwise.nil
  | x :: l => rise_insR (rise_srtI l)
/-- one pass of the document's: all edges in order -/
def passE (from_ : Int) : List Edge → List Int → List Int
  | [], met => met
  | e :: l, met => passE from_ l (if (e.1 == from_ || met.contains e.1) && !met.contains e.2 then met ++ [e.2] else met)
def iterE (l : List Edge) (a : Int) : Nat → List Int → List Int
  | 0, met => met
  | k + 1, met => iterE l a k (passE a l met)
/-- where one comes to -/
def reachL (l : List Edge) (a : Int) : List Int := srtI (iterE l a l.length [])
theorem pass_grows (a : Int) : ∀ (l : List Edge) (met : List Int), ∃ t, passE a l met = met ++ t
  | [], met => ⟨[], by simp [passE]⟩
  | e :: l, met => by
    unfold passE
    split
    · obtain ⟨t, h⟩ := pass_grows a l (met ++ [e.2])
      exact ⟨e.2 :: t, by rw [h]; simp⟩
    · exact pass_grows a l met
theorem pass_tc {L : List Edge} {a : Int} : ∀ {l : List Edge} {met : List Int}, (∀ e, e ∈ l → e ∈ L) → (∀ b, b ∈ met → TC L a b) → ∀ b, b ∈ passE a l met → TC L a b
  | [], met, _, hm => hm
  | e :: l, met, hl, hm => by
    unfold passE
    refine pass_tc (fun x hx => hl x (List.mem_cons_of_mem _ hx)) ?_
    split
    · rename_i hc
      intro b hb
      rcases List.mem_append.1 hb with h | h
      · exact hm b h
      · have hb : b = e.2 := by simpa using h
        subst hb
        simp only [Bool.and_eq_true, Bool.or_eq_true, beq_iff_eq, List.contains_iff_mem] at hc
        have he : (e.1, e.2) ∈ L := hl e (by simp)
        rcases hc.1 with h1 | h1
        · rw [h1] at he; exact .one he
        · exact .step (hm _ h1) he
    · exact hm
theorem pass_nodup {a : Int} : ∀ {l : List Edge} {met : List Int}, met.Nodup → (passE a l met).Nodup
  | [], met, h => h
  | e :: l, met, h => by
    unfold passE
    refine pass_nodup ?_
    split
    · rename_i hc
      simp only [Bool.and_eq_true, Bool.not_eq_true', List.contains_eq_mem, decide_eq_false_iff_not] at hc
      exact List.nodup_append.2 ⟨h, by simp, fun x hx y hy e' => by
        have hy' : y = e.2 := by simpa using hy
        subst hy'; subst e'; exact hc.2 hx⟩
    · exact h
theorem pass_target {L : List Edge} {a : Int} : ∀ {l : List Edge} {met : List Int}, (∀ e, e ∈ l → e ∈ L) → (∀ b, b ∈ met → b ∈ L.map (·.2)) → ∀ b, b ∈ passE a l met → b ∈ L.map (·.2)
  | [], met, _, hm => hm
  | e :: l, met, hl, hm => by
    unfold passE
    refine pass_target (fun x hx => hl x (List.mem_cons_of_mem _ hx)) ?_
    split
    · intro b hb
      rcases List.mem_append.1 hb with h | h
      · exact hm b h
      · have hb : b = e.2 := by simpa using h
        subst hb
        exact List.mem_map.2 ⟨e, hl e (by simp), rfl⟩
    · exact hm
/-- no edge leads out -/
theorem pass_fix {a : Int} : ∀ {l : List Edge} {met : List Int}, passE a l met = met → ∀ e, e ∈ l → (e.1 = a ∨ e.1 ∈ met) → e.2 ∈ met
  | [], met, _, e, he, _ => by simp at he
  | x :: l, met, h, e, he, hr => by
    unfold passE at h
    split at h
    · obtain ⟨t, ht⟩ := pass_grows a l (met ++ [x.2])
      rw [ht] at h
      have := congrArg List.length h
      simp only [List.length_append, List.length_cons] at this
      omega
    · rename_i hc
      rcases List.mem_cons.1 he with e1 | e1
      · subst e1
        simp only [Bool.and_eq_true, Bool.or_eq_true, beq_iff_eq, Bool.not_eq_true', List.contains_eq_mem, decide_eq_true_eq, decide_eq_false_iff_not, not_and, Decidable.not_not] at hc
        exact hc hr
      · exact pass_fix h e e1 hr
theorem sub_len {a b : List Int} (ha : a.Nodup) (h : ∀ x, x ∈ a → x ∈ b) : a.length ≤ b.length := by
  induction a generalizing b with
  | nil => exact Nat.zero_le _
  | cons x a ih =>
    have hx := List.nodup_cons.1 ha
    have hb := h x (by simp)
    have := ih (b := b.erase x) hx.2 (fun y hy => (List.mem_erase_of_ne (fun (e : y = x) => hx.1 (by rw [← e]; exact hy))).2 (h y (List.mem_cons_of_mem _ hy)))
    rw [List.length_erase_of_mem hb] at this
    have : 0 < b.length := List.length_pos_of_mem hb
    simp only [List.length_cons]
    omega
theorem iter_fix (l : List Edge) (a : Int) : ∀ (k : Nat) (met : List Int), met.Nodup → (∀ b, b ∈ met → b ∈ l.map (·.2)) → l.length ≤ met.length + k → passE a l (iterE l a k met) = iterE l a k met
  | 0, met, hn, ht, hk => by
    obtain ⟨t, h⟩ := pass_grows a l met
    have h1 := sub_len (pass_nodup (a := a) (l := l) hn) (pass_target (L := l) (fun _ h => h) ht)
    rw [List.length_map] at h1
    have h2 := congrArg List.length h
    rw [List.length_append] at h2
    have : t = [] := List.length_eq_zero_iff.1 (by omega)
    show passE a l met = met
    rw [h, this, List.append_nil]
  | k + 1, met, hn, ht, hk => by
    unfold iterE
    obtain ⟨t, h⟩ := pass_grows a l met
    cases t with
    | nil =>
      rw [List.append_nil] at h
      rw [h]
      have hfix : ∀ k, iterE l a k met = met := fun k => by
        induction k with
        | zero => rfl
        | succ k ih => unfold iterE; rw [h]; exact ih
      rw [hfix, h]
    | cons y t =>
      refine iter_fix l a k _ (pass_nodup hn) (pass_target (fun _ h => h) ht) ?_
      rw [h, List.length_append, List.length_cons]; omega
theorem iter_tc {l : List Edge} {a : Int} : ∀ {k : Nat} {met : List Int}, (∀ b, b ∈ met → TC l a b) → ∀ b, b ∈ iterE l a k met → TC l a b
  | 0, met, h => h
  | k + 1, met, h => by unfold iterE; exact iter_tc (pass_tc (fun _ h => h) h)
/-- a closed set of what one comes to is all of it -/
theorem closed_all {l : List Edge} {a : Int} {met : List Int} (h : ∀ e, e ∈ l → (e.1 = a ∨ e.1 ∈ met) → e.2 ∈ met) : ∀ b, TC l a b → b ∈ met := fun b hb => by
  induction hb with
  | one h1 => exact h _ h1 (.inl rfl)
  | step _ h2 ih => exact h _ h2 (.inr ih)
theorem mem_reachL {l : List Edge} {a b : Int} : b ∈ reachL l a ↔ TC l a b := by
  unfold reachL
  rw [mem_srtI]
  refine ⟨iter_tc (fun b hb => by simp at hb) b, closed_all (pass_fix (iter_fix l a l.length [] List.nodup_nil (fun b hb => by simp at hb) (by simp))) b⟩
theorem reach_unique {l : List Edge} {a : Int} {r : List Int} (hr : Rise r) (h : ∀ b, b ∈ r ↔ TC l a b) : r = reachL l a :=
  rise_unique hr (rise_srtI _) fun b => by rw [h b]; exact mem_reachL.symm
/-- who waits for themselves in the end -/
def stuckL (l : List Edge) : List Int := (srtI (l.map (·.1))).filter fun n => (reachL l n).contains n
theorem stuck_unique {l : List Edge} {r : List Int} (hr : Rise r) (h : ∀ n, n ∈ r ↔ n ∈ l.map (·.1) ∧ TC l n n) : r = stuckL l := by
  refine rise_unique hr (List.Pairwise.filter _ (rise_srtI _)) fun n => ?_
  rw [h n]
  unfold stuckL
  rw [List.mem_filter, mem_srtI, List.contains_iff_mem, mem_reachL]
end Go.Proofs.Ytcpendbmohfjcaa
end
section
/-
  Edges in order, each once: no program.
-/
namespace Go.Proofs.Ytcpendbmohfjcaa
set_option linter.unusedVariables false
/-- the order of edges -/
def LtE (a b : Edge) : Prop := a.1 < b.1 ∨ (a.1 = b.1 ∧ a.2 < b.2)
instance instLtE (a b : Edge) : Decidable (LtE a b) := by unfold LtE; exact inferInstance
theorem LtE.trans {a b c : Edge} (h1 : LtE a b) (h2 : LtE b c) : LtE a c := by unfold LtE at *; omega
theorem LtE.irrefl {a : Edge} : ¬ LtE a a := by unfold LtE; omega
theorem edge_ext {a b : Edge} (h1 : a.1 = b.1) (h2 : a.2 = b.2) : a = b := by cases a; cases b; simp_all
theorem LtE.tri (a b : Edge) : LtE a b ∨ a = b ∨ LtE b a := by
  by_cases h : a = b
  · exact .inr (.inl h)
  · have : a.1 ≠ b.1 ∨ a.2 ≠ b.2 := by
      by_cases h1 : a.1 = b.1
      · exact .inr fun h2 => h (edge_ext h1 h2)
      · exact .inl h1
    unfold LtE; omega
def RiseE : List Edge → Prop := List.Pairwise LtE
/-- adjacent ones that are one stand once -/
def comF : Option Edge → List Edge → List Edge
  | _, [] => []
  | p, x :: l => if p = some x then comF p l else x :: comF (some x) l
def comE (l : List Edge) : List Edge := comF none l
def lastE (p : Option Edge) : List Edge → Option Edge
  | [] => p
  | x :: l => lastE (some x) l
theorem lastE_snoc (x : Edge) : ∀ (p : Option Edge) (l : List Edge), lastE p (l ++ [x]) = some x
  | p, [] => rfl
  | p, y :: l => lastE_snoc x (some y) l
theorem comF_snoc (x : Edge) : ∀ (p : Option Edge) (l : List Edge), comF p (l ++ [x]) = comF p l ++ (if lastE p l = some x then [] else [x])
  | p, [] => by
    show (if p = some x then comF p [] else x :: comF (some x) []) = [] ++ (if p = some x then [] else [x])
    split <;> rfl
  | p, y :: l => by
    show (if p = some y then comF p (l ++ [x]) else y :: comF (some y) (l ++ [x])) = (if p = some y then comF p l else y :: comF (some y) l) ++ (if lastE (some y) l = some x then [] else [x])
    by_cases h : p = some y
    · rw [if_pos h, if_pos h, comF_snoc x p l, h]
    · rw [if_neg h, if_neg h, comF_snoc x (some y) l]; rfl
theorem lastE_take {l : List Edge} {j : Nat} {y : Edge} (hy : l[j]? = some y) : lastE none (l.take (j + 1)) = some y := by
  rw [List.take_add_one, hy]
  exact lastE_snoc y none _
theorem comE_take {l : List Edge} {j : Nat} {x y : Edge} (hy : l[j]? = some y) (hx : l[j + 1]? = some x) : comE (l.take (j + 2)) = comE (l.take (j + 1)) ++ (if y = x then [] else [x]) := by
  unfold comE
  rw [show j + 2 = (j + 1) + 1 from rfl, List.take_add_one, hx, Option.toList_some, comF_snoc, lastE_take hy]
  by_cases h : y = x
  · subst h; simp
  · simp [h]
theorem comE_one {l : List Edge} (h : l.length ≤ 1) : comE l = l := by
  match l, h with
  | [], _ => rfl
  | [x], _ => rfl
/-- none is like the one ahead -/
theorem comE_all {l : List Edge} : ∀ (j : Nat), (∀ (i : Nat) (x y : Edge), i + 1 < j → l[i]? = some y → l[i + 1]? = some x → y ≠ x) → comE (l.take j) = l.take j
  | 0, _ => rfl
  | 1, _ => comE_one (by simp; omega)
  | j + 2, h => by
    have ih := comE_all (j + 1) fun i x y hi => h i x y (by omega)
    by_cases hj : j + 1 < l.length
    · have hx := List.getElem?_eq_getElem hj
      have hy := List.getElem?_eq_getElem (show j < l.length by omega)
      rw [comE_take hy hx, if_neg (h j _ _ (by omega) hy hx), ih, show l.take (j + 2) = l.take (j + 1) ++ [l[j + 1]] from by rw [show j + 2 = (j + 1) + 1 from rfl, List.take_add_one, hx]; rfl]
    · rw [List.take_of_length_le (by omega)]
      rw [List.take_of_length_le (by omega)] at ih
      exact ih
theorem mem_comF {e : Edge} : ∀ {p : Option Edge} {l : List Edge}, (e ∈ comF p l → e ∈ l) ∧ (e ∈ l → p = some e ∨ e ∈ comF p l)
  | p, [] => ⟨id, fun h => by simp at h⟩
  | p, x :: l => by
    show (e ∈ (if p = some x then comF p l else x :: comF (some x) l) → e ∈ x :: l) ∧ (e ∈ x :: l → p = some e ∨ e ∈ (if p = some x then comF p l else x :: comF (some x) l))
    by_cases h : p = some x
    · rw [if_pos h]
      obtain ⟨h1, h2⟩ := mem_comF (e := e) (p := p) (l := l)
      refine ⟨fun he => List.mem_cons_of_mem _ (h1 he), fun he => ?_⟩
      rcases List.mem_cons.1 he with he | he
      · subst he; exact .inl h
      · exact h2 he
    · rw [if_neg h]
      obtain ⟨h1, h2⟩ := mem_comF (e := e) (p := some x) (l := l)
      refine ⟨fun he => ?_, fun he => ?_⟩
      · rcases List.mem_cons.1 he with he | he
        · rw [he]; simp
        · exact List.mem_cons_of_mem _ (h1 he)
      · rcases List.mem_cons.1 he with he | he
        · rw [he]; right; simp
        · rcases h2 he with h3 | h3
          · cases h3; right; simp
          · right; exact List.mem_cons_of_mem _ h3
theorem mem_comE {e : Edge} {l : List Edge} : e ∈ comE l ↔ e ∈ l :=
  ⟨(mem_comF (p := none) (l := l)).1, fun h => by
    rcases (mem_comF (p := none) (l := l)).2 h with h | h
    · cases h
    · exact h⟩
/-- sorted, then each once: it rises -/
theorem rise_comF : ∀ {p : Option Edge} {l : List Edge}, l.Pairwise (fun a b => ¬ LtE b a) → (∀ x y, p = some x → y ∈ l → ¬ LtE y x) → RiseE (comF p l) ∧ ∀ x y, p = some x → y ∈ comF p l → LtE x y
  | p, [], _, _ => ⟨List.Pairwise.nil, fun x y _ h => by simp [comF] at h⟩
  | p, a :: l, hl, hp => by
    have hl' := List.pairwise_cons.1 hl
    show RiseE (if p = some a then comF p l else a :: comF (some a) l) ∧ ∀ x y, p = some x → y ∈ (if p = some a then comF p l else a :: comF (some a) l) → LtE x y
    by_cases h : p = some a
    · rw [if_pos h]
      exact rise_comF hl'.2 fun x y hx hy => hp x y hx (List.mem_cons_of_mem _ hy)
    · rw [if_neg h]
      obtain ⟨h1, h2⟩ := rise_comF (p := some a) (l := l) hl'.2 (fun x y hx hy => by cases hx; exact hl'.1 y hy)
      refine ⟨List.pairwise_cons.2 ⟨fun y hy => h2 a y rfl hy, h1⟩, fun x y hx hy => ?_⟩
      have ha : LtE x a := by
        rcases LtE.tri x a with h3 | h3 | h3
        · exact h3
        · subst h3; exact absurd hx h
        · exact absurd h3 (hp x a hx (by simp))
      rcases List.mem_cons.1 hy with hy | hy
      · rw [hy]; exact ha
      · exact ha.trans (h2 a y rfl hy)
theorem rise_comE {l : List Edge} (h : l.Pairwise (fun a b => ¬ LtE b a)) : RiseE (comE l) := (rise_comF h (fun x y hx => by cases hx)).1
end Go.Proofs.Ytcpendbmohfjcaa
end
section
/-
  Edges by where they begin: the map's entries. No program.
-/
namespace Go.Proofs.Ytcpendbmohfjcaa
set_option linter.unusedVariables false
/-- where the edges of a number lead -/
def outs (l : List Edge) (k : Int) : List Int := (l.filter fun e => e.1 == k).map (·.2)
def intsA (l : List Int) : AV := .sl (l.map (AV.int .i64))
theorem lkp_upk {k : Int} {d : AV} : ∀ {es : List (Int × AV)} {j : Int}, lkp (upk es k d) j = if j = k then some d else lkp es j
  | [], j => by
    simp only [upk, lkp]
    by_cases h : j = k
    · simp [h]
    · simp [h]
  | e :: es, j => by
    unfold upk
    by_cases hk : k = e.1
    · subst hk
      simp only [beq_self_eq_true, if_true, lkp]
      by_cases h : j = e.1
      · simp [h]
      · simp [h]
    · rw [if_neg (by simpa using hk)]
      simp only [lkp, lkp_upk (es := es)]
      by_cases h : j = e.1
      · subst h
        have hk' : ¬ e.1 = k := fun e' => hk e'.symm
        simp [hk']
      · simp [h]
/-- the entries so far stand for the edges so far -/
def GOk (p : List Edge) (es : List (Int × AV)) : Prop := (∀ k, lkp es k = if outs p k = [] then none else some (intsA (outs p k))) ∧ (es.map (·.1)).Nodup ∧ ∀ k, k ∈ es.map (·.1) ↔ k ∈ p.map (·.1)
theorem keys_upk {k : Int} {d : AV} : ∀ {es : List (Int × AV)}, (upk es k d).map (·.1) = if k ∈ es.map (·.1) then es.map (·.1) else es.map (·.1) ++ [k]
  | [] => by simp [upk]
  | e :: es => by
    unfold upk
    by_cases hk : k = e.1
    · subst hk; simp
    · rw [if_neg (by simpa using hk)]
      simp only [List.map_cons, keys_upk (es := es), List.mem_cons, hk, false_or]
      split <;> simp
theorem outs_snoc (p : List Edge) (e : Edge) (k : Int) : outs (p ++ [e]) k = if e.1 = k then outs p k ++ [e.2] else outs p k := by
  unfold outs
  rw [List.filter_append, List.map_append]
  by_cases h : e.1 = k
  · simp [h]
  · simp [h]
theorem GOk.step {p : List Edge} {es : List (Int × AV)} (h : GOk p es) (e : Edge) : GOk (p ++ [e]) (upk es e.1 (intsA (outs p e.1 ++ [e.2]))) := by
  obtain ⟨h1, h2, h3⟩ := h
  refine ⟨fun k => ?_, ?_, fun k => ?_⟩
  · rw [lkp_upk, outs_snoc]
    by_cases hk : k = e.1
    · subst hk; simp
    · have hk' : ¬ e.1 = k := fun e' => hk e'.symm
      rw [if_neg hk]
      simp only [if_neg hk']
      exact h1 k
  · rw [keys_upk]
    split
    · exact h2
    · rename_i hn
      refine List.nodup_append.2 ⟨h2, by simp, fun x hx y hy e' => ?_⟩
      have hy' : y = e.1 := by simpa using hy
      subst hy'; subst e'; exact hn hx
  · rw [keys_upk]
    split
    · rename_i hm
      rw [h3 k, List.map_append, List.mem_append]
      refine ⟨.inl, fun h => ?_⟩
      rcases h with h | h
      · exact h
      · have : k = e.1 := by simpa using h
        subst this; exact (h3 _).1 hm
    · rw [List.mem_append, h3 k, List.map_append, List.mem_append]
      simp
theorem GOk.nil : GOk [] [] := ⟨fun k => rfl, by simp, fun k => by simp⟩
theorem mem_outs {l : List Edge} {a b : Int} : b ∈ outs l a ↔ (a, b) ∈ l := by
  unfold outs
  simp only [List.mem_map, List.mem_filter, beq_iff_eq]
  constructor
  · rintro ⟨e, ⟨h1, h2⟩, h3⟩
    rw [← h2, ← h3]; exact h1
  · intro h
    exact ⟨(a, b), ⟨h, rfl⟩, rfl⟩
end Go.Proofs.Ytcpendbmohfjcaa
end
section
/-
  Looking for where one comes to, deep first. No program.
-/
namespace Go.Proofs.Ytcpendbmohfjcaa
set_option linter.unusedVariables false
def seenE (s : List Int) : List (Int × AV) := s.map fun n => (n, .bool true)
theorem lkp_seen {n : Int} : ∀ {s : List Int}, lkp (seenE s) n = if n ∈ s then some (.bool true) else none
  | [] => by simp [seenE, lkp]
  | x :: s => by
    show (if n == x then some (AV.bool true) else lkp (seenE s) n) = _
    rw [lkp_seen (s := s)]
    by_cases h : n = x
    · simp [h]
    · simp [h]
theorem upk_seen {n : Int} : ∀ {s : List Int}, n ∉ s → upk (seenE s) n (.bool true) = seenE (s ++ [n])
  | [], _ => rfl
  | x :: s, h => by
    have h' : ¬ n = x ∧ n ∉ s := by simpa using h
    show (if n == x then _ else (x, AV.bool true) :: upk (seenE s) n (.bool true)) = _
    rw [if_neg (by simpa using h'.1), upk_seen h'.2]
    rfl
/-- how far the search is -/
structure Dfs (l : List Edge) (a : Int) (seen todo : List Int) : Prop where
  nodup : seen.Nodup
  s : ∀ n, n ∈ seen → TC l a n
  t : ∀ n, n ∈ todo → TC l a n
  out : ∀ n b, n ∈ seen → (n, b) ∈ l → b ∈ seen ∨ b ∈ todo
  first : ∀ b, (a, b) ∈ l → b ∈ seen ∨ b ∈ todo
def dfsM (l : List Edge) (seen todo : List Int) : Nat := todo.length + (l.filter fun e => !seen.contains e.1).length
theorem Dfs.start (l : List Edge) (a : Int) : Dfs l a [] (outs l a) :=
  ⟨List.nodup_nil, fun n h => by simp at h, fun n h => .one (mem_outs.1 h), fun n b h => by simp at h, fun b h => .inr (mem_outs.2 h)⟩
theorem Dfs.skip {l : List Edge} {a n : Int} {seen t : List Int} (h : Dfs l a seen (t ++ [n])) (hn : n ∈ seen) : Dfs l a seen t := by
  have fix : ∀ b, b ∈ seen ∨ b ∈ t ++ [n] → b ∈ seen ∨ b ∈ t := fun b hb => by
    rcases hb with hb | hb
    · exact .inl hb
    · rcases List.mem_append.1 hb with hb | hb
      · exact .inr hb
      · have : b = n := by simpa using hb
        subst this; exact .inl hn
  exact ⟨h.nodup, h.s, fun m hm => h.t m (List.mem_append_left _ hm), fun m b hm hb => fix b (h.out m b hm hb), fun b hb => fix b (h.first b hb)⟩
theorem Dfs.mark {l : List Edge} {a n : Int} {seen t : List Int} (h : Dfs l a seen (t ++ [n])) (hn : n ∉ seen) : Dfs l a (seen ++ [n]) (t ++ outs l n) := by
  have hnt : TC l a n := h.t n (by simp)
  have fix : ∀ b, b ∈ seen ∨ b ∈ t ++ [n] → b ∈ seen ++ [n] ∨ b ∈ t ++ outs l n := fun b hb => by
    rcases hb with hb | hb
    · exact .inl (List.mem_append_left _ hb)
    · rcases List.mem_append.1 hb with hb | hb
      · exact .inr (List.mem_append_left _ hb)
      · exact .inl (List.mem_append_right _ hb)
  refine ⟨List.nodup_append.2 ⟨h.nodup, by simp, fun x hx y hy e => ?_⟩, fun m hm => ?_, fun m hm => ?_, fun m b hm hb => ?_, fun b hb => fix b (h.first b hb)⟩
  · have hy' : y = n := by simpa using hy
    subst hy'; subst e; exact hn hx
  · rcases List.mem_append.1 hm with hm | hm
    · exact h.s m hm
    · have : m = n := by simpa using hm
      subst this; exact hnt
  · rcases List.mem_append.1 hm with hm | hm
    · exact h.t m (List.mem_append_left _ hm)
    · exact .step hnt (mem_outs.1 hm)
  · rcases List.mem_append.1 hm with hm | hm
    · exact fix b (h.out m b hm hb)
    · have : m = n := by simpa using hm
      subst this
      exact .inr (List.mem_append_right _ (mem_outs.2 hb))
theorem Dfs.done {l : List Edge} {a : Int} {seen : List Int} (h : Dfs l a seen []) : ∀ b, b ∈ seen ↔ TC l a b := fun b => by
  refine ⟨h.s b, fun hb => ?_⟩
  induction hb with
  | one h1 => rcases h.first _ h1 with h | h; exact h; simp at h
  | step _ h2 ih => rcases h.out _ _ ih h2 with h | h; exact h; simp at h
theorem dfs_eq {l : List Edge} {n : Int} {seen t : List Int} (hn : n ∉ seen) : dfsM l (seen ++ [n]) (t ++ outs l n) + 1 = dfsM l seen (t ++ [n]) := by
  have key : ∀ l : List Edge, (l.filter fun e => !(seen ++ [n]).contains e.1).length + (outs l n).length = (l.filter fun e => !seen.contains e.1).length := by
    intro l
    induction l with
    | nil => rfl
    | cons e l ih =>
      unfold outs at ih ⊢
      by_cases h1 : e.1 = n
      · have h2 : e.1 ∉ seen := by rw [h1]; exact hn
        simp only [List.filter_cons, List.contains_eq_mem, List.mem_append, List.mem_singleton, h1, h2, hn, or_true, decide_true, Bool.not_true, Bool.false_eq_true, if_false, decide_false, Bool.not_false, if_true, beq_self_eq_true, List.map_cons, List.length_cons] at ih ⊢
        omega
      · by_cases h2 : e.1 ∈ seen
        · simp only [List.filter_cons, List.contains_eq_mem, List.mem_append, List.mem_singleton, h1, h2, or_false, decide_true, Bool.not_true, Bool.false_eq_true, if_false, beq_iff_eq] at ih ⊢
          exact ih
        · simp only [List.filter_cons, List.contains_eq_mem, List.mem_append, List.mem_singleton, h1, h2, or_false, decide_false, Bool.not_false, if_true, beq_iff_eq, if_false, List.length_cons] at ih ⊢
          omega
  unfold dfsM
  have := key l
  simp only [List.length_append, List.length_cons, List.length_nil]
  omega
theorem dfs_less {l : List Edge} {n : Int} {seen t : List Int} (hn : n ∉ seen) : dfsM l (seen ++ [n]) (t ++ outs l n) < dfsM l seen (t ++ [n]) := by
  have := dfs_eq (l := l) (t := t) hn
  omega
theorem dfs_skip {l : List Edge} {n : Int} {seen t : List Int} : dfsM l seen t < dfsM l seen (t ++ [n]) := by
  unfold dfsM
  simp only [List.length_append, List.length_cons, List.length_nil]
  omega
end Go.Proofs.Ytcpendbmohfjcaa
end
section
/-
  Data that came in, of whatever type of ints, bools, texts, slices, structs and arrays, reads on the plain machine.
-/
namespace Go.Proofs.Ytcpendbmohfjcaa
open Go.ChangeShapes Go.WideShapes Go.ChangeAt Go.RowKit Go.Deep
set_option linter.unusedVariables false
set_option linter.unusedSimpArgs false
/-- types of plain data -/
inductive Ty where
  | int (k : IntKind)
  | str
  | bool
  | sl (e : Ty)
  | st (fs : List Ty)
/-- places one behind the other -/
def laidAt (P : Program) : List (Nat × TypeId) → Nat → Option Nat
  | [], o => some o
  | (f, t) :: l, o => if f = o then laidAt P l (o + P.cellsOf t) else none
def optAll {α β : Type} (f : α → Option β) : List α → Option (List β)
  | [] => some []
  | a :: l => match f a, optAll f l with
    | some b, some r => some (b :: r)
    | _, _ => none
def placesOf (m z : Nat) (e : TypeId) : Nat → List (Nat × TypeId)
  | 0 => []
  | k + 1 => ((m - (k + 1)) * z, e) :: placesOf m z e k
def dtyOf (P : Program) : Nat → TypeId → Option Ty
  | 0, _ => none
  | n + 1, t => match P.underlying t with
    | some (.int k) => some (.int k)
    | some .string => some .str
    | some .bool => some .bool
    | some (.slice e) => if 1 ≤ P.bytesOf e ∧ 1 ≤ P.cellsOf e then (dtyOf P n e).map .sl else none
    | some (.struct fs) => if laidAt P (fs.toList.map fun f => (f.offset, f.type)) 0 = some (P.cellsOf t) then (optAll (dtyOf P n) (fs.toList.map (·.type))).map .st else none
    | some (.array m e) => if laidAt P (placesOf m (P.cellsOf e) e m) 0 = some (P.cellsOf t) then (optAll (dtyOf P n) (List.replicate m e)).map .st else none
    | _ => none
def packT : Ty → List AV → AV
  | .st _, cs => .agg cs
  | _, cs => cs.headD .und
/-- cells that are of a type -/
inductive TypedC : Ty → List AV → Prop
  | int (k : IntKind) (n : Int) (h : (Lit.int k n).wf = true) : TypedC (.int k) [.int k n]
  | str (s : ByteArray) (h : s.size ≤ 281474976710656) : TypedC .str [.str s]
  | bool (b : Bool) : TypedC .bool [.bool b]
  | sl (T : Ty) (ls : List (List AV)) (hlen : ls.length ≤ 281474976710656) (h : ∀ c, c ∈ ls → TypedC T c) : TypedC (.sl T) [.sl (ls.map (packT T))]
  | nil : TypedC (.st []) []
  | cons {T : Ty} {fs : List Ty} {c r : List AV} (h : TypedC T c) (hr : TypedC (.st fs) r) : TypedC (.st (T :: fs)) (c ++ r)
theorem packT_cells {T : Ty} {c : List AV} (h : TypedC T c) : (packT T c).cells = c := by
  cases h <;> rfl
theorem laidAt_le {P : Program} : ∀ {l : List (Nat × TypeId)} {o tot : Nat}, laidAt P l o = some tot → o ≤ tot
  | [], o, tot, h => by cases h; exact Nat.le_refl _
  | (f, t) :: l, o, tot, h => by
    rw [laidAt] at h
    split at h
    · have := laidAt_le h; omega
    · cases h
section
variable {H : Type} {enc : TypeId × Value → H} {P : Program} {w : World} {sp : Nat → Bool} {held : Bool}
/-- it reads, and is of the type -/
def ReadsAs (w : World) (T : Ty) (cs : List Value) (ds : List AV) : Prop :=
  TypedC T ds ∧ ds.length = cs.length ∧ ∀ (j : Nat) (d : AV) (v : Value), ds[j]? = some d → cs[j]? = some v → VR (fun b _ => b < w.heap.size) w d v
theorem typed_parts {n m : Nat} (ih : ∀ {t : TypeId} {T : Ty} {fuel : Nat} {cs : List Value} {x : DataW H × List MemPlace}, dtyOf P n t = some T → (x.1.weights P t).all (· ≤ reachBytes) = true → DataW.trod enc P w 0 sp held fuel t cs = some x → ∃ ds, ReadsAs w T cs ds)
    {cs : List Value} : ∀ (pl : List (Nat × TypeId)) (o : Nat) (Ts : List Ty) (xs : List (DataW H × List MemPlace)), laidAt P pl o = some cs.length → optAll (dtyOf P n) (pl.map (·.2)) = some Ts → xs.length = pl.length →
      (∀ (i : Nat) (f : Nat × TypeId), pl[i]? = some f → DataW.trod enc P w 0 sp held m f.2 ((cs.drop f.1).take (P.cellsOf f.2)) = xs[i]?) →
      (DataW.weightsEach P (pl.map (·.2)) (xs.map (·.1))).all (· ≤ reachBytes) = true → ∃ ds, ReadsAs w (.st Ts) (cs.drop o) ds
  | [], o, Ts, xs, hl, ho, hx, ht, hw => by
    cases hl; cases ho
    exact ⟨[], .nil, by simp, fun j d v h => by simp at h⟩
  | (f, t) :: pl, o, Ts, xs, hl, ho, hx, ht, hw => by
    rw [laidAt] at hl
    split at hl
    case isFalse => cases hl
    rename_i hf
    subst hf
    rw [List.map_cons, optAll] at ho
    split at ho
    case h_2 => cases ho
    rename_i T Ts' h1 h2
    cases ho
    cases xs with
    | nil => simp at hx
    | cons x xs =>
      rw [List.map_cons, List.map_cons, DataW.weightsEach, List.all_append, Bool.and_eq_true] at hw
      obtain ⟨d0, t0, l0, v0⟩ := ih h1 hw.1 (ht 0 _ rfl)
      obtain ⟨dr, tr, lr, vr⟩ := typed_parts ih pl (f + P.cellsOf t) Ts' xs hl h2 (by simpa using hx) (fun i g hg => ht (i + 1) g (by simpa using hg)) hw.2
      have hle := laidAt_le hl
      have hz : d0.length = P.cellsOf t := by
        rw [l0, List.length_take, List.length_drop]; show min (P.cellsOf t) (cs.length - f) = _; omega
      refine ⟨d0 ++ dr, .cons t0 tr, ?_, fun j d v hd hv => ?_⟩
      · rw [List.length_append, hz, lr, List.length_drop, List.length_drop]; omega
      · rw [List.getElem?_drop] at hv
        rcases Nat.lt_or_ge j d0.length with hj | hj
        · rw [List.getElem?_append_left hj] at hd
          refine v0 j d v hd ?_
          show (List.take (P.cellsOf t) (List.drop f cs))[j]? = _
          rw [List.getElem?_take, if_pos (by omega), List.getElem?_drop]
          exact hv
        · rw [List.getElem?_append_right hj] at hd
          refine vr _ d v hd ?_
          rw [List.getElem?_drop, hz, show f + P.cellsOf t + (j - P.cellsOf t) = f + j by omega]
          exact hv
theorem weights_rep {e : TypeId} : ∀ {m : Nat} {l : List (DataW H)}, l.length = m → (DataW.weightsAll P e l).all (· ≤ reachBytes) = true → (DataW.weightsEach P (List.replicate m e) l).all (· ≤ reachBytes) = true
  | 0, [], _, _ => rfl
  | m + 1, x :: l, hl, h => by
    simp only [DataW.weightsAll, List.all_append, Bool.and_eq_true] at h
    rw [List.replicate_succ, DataW.weightsEach, List.all_append, Bool.and_eq_true]
    exact ⟨h.1, weights_rep (by simpa using hl) h.2⟩
theorem placesOf_get (m z : Nat) (e : TypeId) : ∀ (k i : Nat) (f : Nat × TypeId), k ≤ m → (placesOf m z e k)[i]? = some f → i < k ∧ f = ((m - k + i) * z, e) := by
  intro k
  induction k with
  | zero => intro i f _ h; simp [placesOf] at h
  | succ k ih =>
    intro i f hk h
    cases i with
    | zero => simp [placesOf] at h; exact ⟨by omega, h.symm⟩
    | succ i =>
      obtain ⟨h1, rfl⟩ := ih i f (by omega) (by simpa [placesOf] using h)
      exact ⟨by omega, by rw [show m - k + i = m - (k + 1) + (i + 1) by omega]⟩
theorem typed_in : ∀ (n : Nat) {t : TypeId} {T : Ty} {fuel : Nat} {cs : List Value} {x : DataW H × List MemPlace}, dtyOf P n t = some T → (x.1.weights P t).all (· ≤ reachBytes) = true → DataW.trod enc P w 0 sp held fuel t cs = some x → ∃ ds, ReadsAs w T cs ds
  | 0, t, T, fuel, cs, x, ht, hw, h => by cases ht
  | n + 1, t, T, fuel, cs, x, ht, hw, h => by
    rw [dtyOf] at ht
    split at ht
    · rename_i k hu
      cases ht
      obtain ⟨m, rfl, rfl, hb⟩ := DataW.trod_int hu h
      exact ⟨[.int k m], .int k m hb, rfl, fun j d v hd hv => by
        cases j with
        | zero => cases hd; cases hv; exact .int _ _
        | succ j => simp at hd⟩
    · rename_i hu
      cases ht
      obtain ⟨s, rfl, rfl, hb⟩ := DataW.trod_string hu h
      exact ⟨[.str s], .str s (str_reach hw), rfl, fun j d v hd hv => by
        cases j with
        | zero => cases hd; cases hv; exact .str _
        | succ j => simp at hd⟩
    · rename_i hu
      cases ht
      obtain ⟨b, rfl, rfl⟩ := DataW.trod_bool hu h
      exact ⟨[.bool b], .bool b, rfl, fun j d v hd hv => by
        cases j with
        | zero => cases hd; cases hv; exact .bool _
        | succ j => simp at hd⟩
    · rename_i e hu
      split at ht
      case isFalse => cases ht
      rename_i hz
      obtain ⟨Te, hTe, rfl⟩ := Option.map_eq_some_iff.1 ht
      rcases open_slice hu h with ⟨hv, _⟩ | ⟨a, len, cap, m, n', D, Pl, hv, _, hl, hm, hmm, hx, hi⟩
      · subst hv
        refine ⟨[.sl []], .sl Te [] (by simp) (fun c hc => by cases hc), rfl, fun j d v hd hv => ?_⟩
        cases j with
        | zero =>
          cases hd; cases hv
          exact .sl [] none 0 1 (fun _ _ => .bool false) (by simp) (by simp) (fun h => by simp at h) (fun i d j c hi => by simp at hi)
        | succ j => simp at hd
      · subst hv
        have hlm : len ≤ m := by rw [hmm]; split <;> omega
        rw [hx] at hw
        simp only [DataW.weights, hu, List.all_cons, Bool.and_eq_true, decide_eq_true_eq, List.length_map, List.length_range, List.all_append] at hw
        have hlr : len ≤ reachBytes := Nat.le_trans (Nat.le_trans (Nat.le_add_right len (m - len)) (Nat.le_mul_of_pos_right _ hz.1)) hw.1
        have hwi : ∀ i, i < len → ((D i).weights P e).all (· ≤ reachBytes) = true := fun i hil => weightsAll_mem hw.2.1 (List.mem_map.2 ⟨i, List.mem_range.2 hil, rfl⟩)
        have each : ∀ i, i < len → ∃ y : List Value × List AV, w.cells? 0 (a.add (i * P.cellsOf e)) (P.cellsOf e) = some y.1 ∧ ReadsAs w Te y.1 y.2 := fun i him => by
          obtain ⟨cs', h1, h2⟩ := hi i (by omega)
          obtain ⟨ds, hd⟩ := typed_in n hTe (hwi i him) h2
          exact ⟨(cs', ds), h1, hd⟩
        obtain ⟨S, hS⟩ := choose_lt each
        have hL : ((List.range len).map fun i => (S i).2).length = len := by simp
        have hcell : ∀ i, i < len → ∀ (j : Nat) (u : Value), ((S i).1)[j]? = some u → w.cell? (a.add (i * P.cellsOf e + j)) = some u := by
          intro i hil j u hj
          obtain ⟨_, hlen, hat⟩ := World.cells?_some (hS i hil).1
          have hjl : j < P.cellsOf e := by rw [← hlen]; exact (List.getElem?_eq_some_iff.1 hj).1
          rw [← Go.Deep.add_add, hat j hjl, hj]
        refine ⟨[.sl (((List.range len).map fun i => (S i).2).map (packT Te))], .sl Te _ (by rw [hL]; exact Nat.le_trans hlr (by decide)) (fun c hc => ?_), rfl, fun j d v hd hv => ?_⟩
        · obtain ⟨i, hir, rfl⟩ := List.mem_map.1 hc
          exact (hS i (List.mem_range.1 hir)).2.1
        · cases j with
          | succ j => simp at hd
          | zero =>
            cases hd; cases hv
            have hL2 : (((List.range len).map fun i => (S i).2).map (packT Te)).length = len := by simp
            have hget : ∀ (i : Nat) (d : AV), (((List.range len).map fun i => (S i).2).map (packT Te))[i]? = some d → i < len ∧ d = packT Te (S i).2 := by
              intro i d hd
              rw [List.getElem?_map, List.getElem?_map] at hd
              by_cases hlt : i < len
              · rw [List.getElem?_range hlt] at hd; simp at hd
                exact ⟨hlt, hd.symm⟩
              · rw [List.getElem?_eq_none (by simp; omega)] at hd; cases hd
            have key : VR (fun b _ => b < w.heap.size) w (.sl (((List.range len).map fun i => (S i).2).map (packT Te))) (.slice (some a) (((List.range len).map fun i => (S i).2).map (packT Te)).length cap) := by
              refine .sl _ (some a) cap (P.cellsOf e) (fun i j => ((S i).1).getD j (.bool false)) (by rw [hL2]; omega) hm (fun h0 => ?_) (fun i d j c hi hj => ?_)
              · rw [hL2] at h0
                obtain ⟨ab, ao, asp⟩ := a
                obtain ⟨_, hlen, _⟩ := World.cells?_some (hS 0 h0).1
                have hu0 : ((S 0).1)[0]? = some (((S 0).1)[0]'(by omega)) := List.getElem?_eq_getElem _
                have hc0 := hcell 0 h0 0 _ hu0
                have e0 : (⟨ab, ao, asp⟩ : Addr).add (0 * P.cellsOf e + 0) = ⟨ab, ao, asp⟩ := by simp [Addr.add]
                rw [e0] at hc0
                have hsp : asp = none := by
                  cases asp with
                  | none => rfl
                  | some k =>
                    simp only [World.cell?] at hc0
                    split at hc0
                    · simp at hc0
                    · cases hc0
                subst hsp
                have hlt := block_lt_of_cell hc0
                refine ⟨ab, ao, rfl, hlt, fun d hd => ?_, fun i j hi hj => ⟨hlt, ?_⟩⟩
                · obtain ⟨c, hc, rfl⟩ := List.mem_map.1 hd
                  obtain ⟨i, hir, rfl⟩ := List.mem_map.1 hc
                  have h2 := (hS i (List.mem_range.1 hir)).2
                  obtain ⟨_, hlen, _⟩ := World.cells?_some (hS i (List.mem_range.1 hir)).1
                  rw [packT_cells h2.1, h2.2.1, hlen]
                · rw [hL2] at hi
                  obtain ⟨_, hlen, _⟩ := World.cells?_some (hS i hi).1
                  have hv : ((S i).1)[j]? = some (((S i).1).getD j (.bool false)) := by
                    rw [List.getD_eq_getElem?_getD, List.getElem?_eq_getElem (by omega)]; rfl
                  have := hcell i hi j _ hv
                  have e : (⟨ab, ao, none⟩ : Addr).add (i * P.cellsOf e + j) = ⟨ab, ao + (i * P.cellsOf e + j), none⟩ := by
                    unfold Addr.add; split
                    · rename_i h; rw [h]; rfl
                    · rfl
                  rwa [e] at this
              · obtain ⟨hlt, rfl⟩ := hget i d hi
                obtain ⟨q1, q2, q3⟩ := (hS i hlt).2
                rw [packT_cells q1] at hj
                have hjl := (List.getElem?_eq_some_iff.1 hj).1
                refine q3 j c _ hj ?_
                rw [List.getD_eq_getElem?_getD, List.getElem?_eq_getElem (by omega)]; rfl
            rw [hL2] at key
            exact key
    · rename_i fs hu
      split at ht
      case isFalse => cases ht
      rename_i hoff
      obtain ⟨Ts, hTs, rfl⟩ := Option.map_eq_some_iff.1 ht
      obtain ⟨xs, m, _, rfl, hl, hxs, hf⟩ := DataW.trod_struct hu h
      simp only [DataW.weights, hu] at hw
      have := typed_parts (n := n) (m := m) (fun h1 h2 h3 => typed_in n h1 h2 h3) (cs := cs) (fs.toList.map fun f => (f.offset, f.type)) 0 Ts xs (by rw [hl]; exact hoff) (by rw [List.map_map]; exact hTs) (by simpa using hxs)
        (fun i f hfi => by
          rw [List.getElem?_map, Option.map_eq_some_iff] at hfi
          obtain ⟨g, hg, rfl⟩ := hfi
          exact hf i g (by simpa using hg)) (by rw [List.map_map]; exact hw)
      simpa using this
    · rename_i k e hu
      split at ht
      case isFalse => cases ht
      rename_i hoff
      obtain ⟨Ts, hTs, rfl⟩ := Option.map_eq_some_iff.1 ht
      obtain ⟨xs, m, _, rfl, hl, hxs, hf⟩ := DataW.trod_array hu h
      simp only [DataW.weights, hu] at hw
      have hm : (placesOf k (P.cellsOf e) e k).map (·.2) = List.replicate k e := by
        have : ∀ j, (placesOf k (P.cellsOf e) e j).map (·.2) = List.replicate j e := by
          intro j
          induction j with
          | zero => rfl
          | succ j ih => rw [placesOf, List.map_cons, ih, List.replicate_succ]
        exact this k
      have hlen : (placesOf k (P.cellsOf e) e k).length = k := by
        have := congrArg List.length hm
        simpa using this
      have := typed_parts (n := n) (m := m) (fun h1 h2 h3 => typed_in n h1 h2 h3) (cs := cs) (placesOf k (P.cellsOf e) e k) 0 Ts xs (by rw [hl]; exact hoff) (by rw [hm]; exact hTs) (by rw [hlen, hxs])
        (fun i f hfi => by
          obtain ⟨h1, rfl⟩ := placesOf_get _ _ _ _ _ _ (Nat.le_refl _) hfi
          rw [Nat.sub_self, Nat.zero_add]
          exact hf i h1) (by rw [hm]; exact weights_rep (by rw [List.length_map, hxs]) hw)
      simpa using this
    · cases ht
end
end Go.Proofs.Ytcpendbmohfjcaa
end
