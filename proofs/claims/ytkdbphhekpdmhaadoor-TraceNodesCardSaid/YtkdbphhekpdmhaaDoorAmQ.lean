/-
  The plain machine, seventeenth part: the same evaluation in a form that simp can do.
-/
import Derived.Test.YtkdbphhekpdmhaaDoorAmP
namespace Go.Proofs.YtkdbphhekpdmhaaDoor
open Go.RowKit
set_option linter.unusedVariables false
set_option linter.unusedSimpArgs false

def oneObj (z : Nat) (ty : TypeId) (d : AV) : Option Arr := some ⟨z, ty, [d], 0⟩

def allOne (z : Nat) : List AV → Prop
  | [] => True
  | d :: l => (d.cells.length = z ∧ d.cells.all AV.one = true) ∧ allOne z l
theorem allOne_mem {z : Nat} : ∀ {l : List AV}, allOne z l → ∀ d, d ∈ l → d.cells.length = z ∧ d.cells.all AV.one = true
  | d :: l, h, x, hx => by
    rcases List.mem_cons.1 hx with e | e
    · subst e; exact h.1
    · exact allOne_mem h.2 x e

/-- behind a call -/
def resSt (σ : St) (d : Nat) (fz : List Nat) : AV → St
  | .own z ty l => (σ.fzs fz).made d (.rs d 0 l.length) (some ⟨z, ty, l, 0⟩)
  | r => if r.flatB then σ.made d r none else (σ.fzs fz).made d r none
def resName (hid : List Nat) (d : Nat) : AV → Bool
  | .own .. => !hid.contains d
  | r => nameOk hid r

/-- a store -/
def stOk (σ : St) (z : Nat) (v : AV) : AV → Prop
  | .ptr r i f => byOk [] σ v ∧ i < (objCells (σ.H r)).length ∧ (byVal σ v).cells.length = z ∧ f + z ≤ ((objCells (σ.H r)).getD i .und).cells.length ∧ objProt ((σ.fzs (byFz v)).H r) ≤ i ∧ (byVal σ v).cells.all AV.one = true
  | _ => False
def stArr (σ : St) (z : Nat) (v : AV) (i f : Nat) : Option Arr → Option Arr
  | some a => some ⟨a.z, a.ty, a.cells.set i ((a.cells.getD i .und).patch f z (byVal σ v)), a.prot⟩
  | none => none
def stSt (σ : St) (z : Nat) (v : AV) : AV → St
  | .ptr r i f => ⟨σ.T, upd (σ.fzs (byFz v)).H r (stArr σ z v i f ((σ.fzs (byFz v)).H r))⟩
  | _ => σ

/-- a store of a head -/
def stHOk (F0 hid wr : List Nat) (σ : St) (z : Nat) (v : AV) : AV → Prop
  | .ptr r i f => wr.contains r = true ∧ hid.contains r = false ∧ F0.contains r = false ∧ byOk hid σ v ∧ (byFz v).all F0.contains = true ∧ i < (objCells (σ.H r)).length ∧ (byVal σ v).cells.length = z ∧ f + z ≤ ((objCells (σ.H r)).getD i .und).cells.length ∧ objProt (σ.H r) ≤ i ∧ (byVal σ v).cells.all AV.one = true
  | _ => False
def stHSt (σ : St) (z : Nat) (v : AV) : AV → St
  | .ptr r i f => ⟨σ.T, upd σ.H r (stArr σ z v i f (σ.H r))⟩
  | _ => σ

/-- an append -/
def apOk (σ : St) (z ty bytes : Nat) (v : AV) : AV → Prop
  | .rs r 0 len => byOk [] σ v ∧ (∃ l, byVal σ v = .sl l ∧ (σ.H r).isSome = true ∧ objZ (σ.H r) = z ∧ (objTy (σ.H r) = ty) ∧ objProt ((σ.fzs (byFz v)).H r) ≤ len ∧ fitsV (len + l.length) bytes ∧ r < 1000 ∧ ∀ d, d ∈ l → d.cells.length = z ∧ d.cells.all AV.one = true)
  | _ => False
where objTy : Option Arr → Nat | some a => a.ty | none => 0
def slOf : AV → List AV | .sl l => l | _ => []
def apArr (l : List AV) (len : Nat) : Option Arr → Option Arr
  | some a => some ⟨a.z, a.ty, a.cells.take len ++ l, a.prot⟩
  | none => none
def apSt (σ : St) (d : Nat) (v : AV) : AV → St
  | .rs r _ len => ⟨upd (sweep σ.T r) d (.rs r 0 (len + (slOf (byVal σ v)).length)), upd (σ.fzs (byFz v)).H r (apArr (slOf (byVal σ v)) len ((σ.fzs (byFz v)).H r))⟩
  | _ => σ

/-- is it nil? -/
def nilOk (σ : St) : AV → Prop
  | .sl _ => True
  | .rs r _ _ => (σ.H r).isSome = true
  | _ => False
def nilMay : AV → Prop
  | .sl l => l.isEmpty = true
  | .rs _ _ len => len = 0
  | _ => False

/-- a call: what it answers, and then the rest -/
def Calling (C : FuncId → List AV → AV → Prop) (f : FuncId) (args : List AV) (hid : List Nat) (d : Nat) (fz : List Nat) (σ : St) (R : St → (St → Prop) → Prop) (K : St → Prop) : Prop :=
  ∃ r, C f args r ∧ resName hid d r = true ∧ R (resSt σ d fz r) K

/-- an operation; R is the rest, K what follows behind it -/
def runOp (C : FuncId → List AV → AV → Prop) (R : St → (St → Prop) → Prop) (K : St → Prop) (σ : St) (d : Nat) (hid : List Nat) : IOp → Prop
  | .alloc z ty zero => zero.cells.length = z ∧ 0 < z ∧ zero.cells.all AV.one = true ∧ hid.contains d = false ∧ R (σ.made d (.ptr d 0 0) (oneObj z ty zero)) K
  | .box z ty x => byOk hid σ (σ.get x) ∧ (byVal σ (σ.get x)).cells.length = z ∧ 0 < z ∧ (byVal σ (σ.get x)).cells.all AV.one = true ∧ hid.contains d = false ∧ R ((σ.fzs (byFz (σ.get x))).made d (.ptr d 0 0) (oneObj z ty (byVal σ (σ.get x)))) K
  | .mknil z ty => 0 < z ∧ hid.contains d = false ∧ R (σ.made d (.rs d 0 0) (some ⟨z, ty, [], 0⟩)) K
  | .bsl z ty xs => byOks hid σ (xs.map σ.get) ∧ 0 < z ∧ allOne z (byVals σ (xs.map σ.get)) ∧ hid.contains d = false ∧ R ((σ.fzs (byFzs (xs.map σ.get))).made d (.rs d 0 (byVals σ (xs.map σ.get)).length) (some ⟨z, ty, byVals σ (xs.map σ.get), 0⟩)) K
  | .callv fx xs => (σ.get fx).isC = true ∧ byOks hid σ (xs.map σ.get) ∧ Calling C (σ.get fx).cf ((σ.get fx).c1 ++ byVals σ (xs.map σ.get) ++ (σ.get fx).c2) hid d (byFzs (xs.map σ.get)) σ R K
  | .call p xs => byOks hid σ (xs.map σ.get) ∧ primOk p (byVals σ (xs.map σ.get)) ∧ resName hid d (primVal p (byVals σ (xs.map σ.get))) = true ∧ R (resSt σ d (byFzs (xs.map σ.get)) (primVal p (byVals σ (xs.map σ.get)))) K
  | .append z ty bytes x y => apOk σ z ty bytes (σ.get y) (σ.get x) ∧ R (apSt σ d (σ.get y) (σ.get x)) K
  | .nileq neq x => nilOk σ (σ.get x) ∧ (nilMay (σ.get x) → R (σ.set d (.bool (!neq))) K) ∧ R (σ.set d (.bool neq)) K
  | io => okV hid σ io ∧ nameOk hid (valV σ io) = true ∧ R ((σ.fzs (fzV σ io)).made d (valV σ io) none) K

/-- how a guard stands -/
def gB : AV → Bool | .bool _ => true | .tup [] => true | _ => false
def gIs : Bool → AV → Bool | true, .bool b => b | false, .bool b => !b | _, _ => false

def runOps (C : FuncId → List AV → AV → Prop) : List ROp → St → (St → Prop) → Prop
  | [], σ, K => K σ
  | ⟨io, some d, none, hid, wr⟩ :: l, σ, K => runOp C (runOps C l) K σ d hid io
  | ⟨io, none, none, _, _⟩ :: l, σ, K => (match io with
    | .store z p x => stOk σ z (σ.get x) (σ.get p) ∧ runOps C l (stSt σ z (σ.get x) (σ.get p)) K
    | _ => False)
  | ⟨io, some d, some (t, w), hid, wr⟩ :: l, σ, K => gB (σ.T t) = true ∧ (gIs w (σ.T t) = true → runOp C (runOps C l) K (σ.set t (.bool w)) d hid io) ∧
      (gIs w (σ.T t) = false → runOps C l ((if (σ.T t).isB then σ.set t (.bool (!w)) else σ).set d (.tup [])) K)
  | _ :: _, _, _ => False

theorem nameOk_ptr {hid : List Nat} {d : Nat} (h : hid.contains d = false) {i f : Nat} : nameOk hid (.ptr d i f) = true := by simp only [nameOk, AV.name]; rw [h]; rfl
theorem nameOk_rs {hid : List Nat} {d : Nat} (h : hid.contains d = false) {i f : Nat} : nameOk hid (.rs d i f) = true := by simp only [nameOk, AV.name]; rw [h]; rfl

theorem runOp_M {C : FuncId → List AV → AV → Prop} {σ : St} {d : Nat} {hid : List Nat} {R : St → (St → Prop) → Prop} {K : St → Prop} {io : IOp} (hm : io.isMut = false) (h : runOp C R K σ d hid io) : evalM C d hid σ (fun v s fz => nameOk hid v = true ∧ R ((σ.fzs fz).made d v s) K) io := by
  cases io with
  | alloc z ty zero => exact ⟨h.1, h.2.1, h.2.2.1, nameOk_ptr h.2.2.2.1, h.2.2.2.2⟩
  | box z ty x =>
    simp only [runOp, evalM] at *
    rw [byval_ok.1 h.1]
    exact ⟨h.2.1, h.2.2.1, h.2.2.2.1, nameOk_ptr h.2.2.2.2.1, h.2.2.2.2.2⟩
  | mknil z ty => exact ⟨h.1, nameOk_rs h.2.1, h.2.2⟩
  | bsl z ty xs =>
    simp only [runOp, evalM] at *
    rw [byvals_ok.1 h.1]
    exact ⟨h.2.1, allOne_mem h.2.2.1, nameOk_rs h.2.2.2.1, h.2.2.2.2⟩
  | callv fx xs =>
    simp only [runOp, evalM, Calling] at *
    obtain ⟨h1, h2, r, h3, h4, h5⟩ := h
    cases hf : σ.get fx <;> rw [hf] at h1 h3 <;> simp only [AV.isC, Bool.false_eq_true] at h1
    rw [byvals_ok.1 h2]
    refine ⟨r, h3, ?_⟩
    cases r with
    | own z ty l => exact ⟨nameOk_rs (by simpa [resName] using h4), h5⟩
    | _ =>
      simp only [takeRes]
      simp only [resSt] at h5
      simp only [resName] at h4
      split
      · rename_i hb; rw [if_pos hb] at h5; exact ⟨h4, h5⟩
      · rename_i hb; rw [if_neg hb] at h5; exact ⟨h4, h5⟩
  | call p xs =>
    simp only [runOp, evalM] at *
    obtain ⟨h2, h3, h4, h5⟩ := h
    rw [byvals_ok.1 h2]
    refine ⟨h3, ?_⟩
    generalize primVal p (byVals σ (xs.map σ.get)) = r at h4 h5
    cases r with
    | own z ty l => exact ⟨nameOk_rs (by simpa [resName] using h4), h5⟩
    | _ =>
      simp only [takeRes]
      simp only [resSt] at h5
      simp only [resName] at h4
      split
      · rename_i hb; rw [if_pos hb] at h5; exact ⟨h4, h5⟩
      · rename_i hb; rw [if_neg hb] at h5; exact ⟨h4, h5⟩
  | store z p x => cases hm
  | append z ty b x y => cases hm
  | nileq neq x => cases hm
  | _ => exact evalV_ok (K := fun v fz => nameOk hid v = true ∧ R ((σ.fzs fz).made d v none) K) h

theorem fzs_some {σ : St} {fz : List Nat} {r : Nat} (h : (σ.H r).isSome = true) : ∃ arr arr', σ.H r = some arr ∧ (σ.fzs fz).H r = some arr' ∧ arr'.cells = arr.cells ∧ arr'.z = arr.z ∧ arr'.ty = arr.ty := by
  obtain ⟨arr, ha⟩ := Option.isSome_iff_exists.1 h
  obtain ⟨a', q1, q2, _⟩ := fzs_H (l := fz) ha
  exact ⟨arr, a', ha, q1, q2.cells, q2.z, q2.ty⟩

theorem run_store {σ : St} {K : St → Prop} {z : Nat} {p x : IOpd} (h : stOk σ z (σ.get x) (σ.get p) ∧ K (stSt σ z (σ.get x) (σ.get p))) : evalT σ none K (.store z p x) := by
  obtain ⟨h1, h2⟩ := h
  simp only [evalT]
  cases hp : σ.get p <;> rw [hp] at h1 h2 <;> simp only [stOk, stSt] at h1 h2
  rename_i r i f
  obtain ⟨g1, g2, g3, g4, g5, g6⟩ := h1
  rw [byval_ok.1 g1]
  have hs : (σ.H r).isSome = true := by
    cases ha : σ.H r with
    | none => rw [ha] at g2; simp [objCells] at g2
    | some arr => rfl
  obtain ⟨arr, arr', q1, q2, q3, q4, q5⟩ := fzs_some (fz := byFz (σ.get x)) hs
  rw [q1] at g2 g4
  rw [q2] at g5 h2
  simp only [objCells, objProt] at g2 g4 g5
  simp only [q2, q3]
  rw [List.getD_eq_getElem?_getD, List.getElem?_eq_getElem g2] at g4
  rw [List.getElem?_eq_getElem g2]
  refine ⟨g3, g4, g5, g6, ?_⟩
  simp only [stArr, q3] at h2
  rw [List.getD_eq_getElem?_getD, List.getElem?_eq_getElem g2] at h2
  exact h2

theorem run_append {σ : St} {K : St → Prop} {z ty bytes d : Nat} {x y : IOpd} (h : apOk σ z ty bytes (σ.get y) (σ.get x) ∧ K (apSt σ d (σ.get y) (σ.get x))) : evalT σ (some d) K (.append z ty bytes x y) := by
  obtain ⟨h1, h2⟩ := h
  simp only [evalT]
  cases hx : σ.get x <;> rw [hx] at h1 h2 <;> simp only [apOk, apSt] at h1 h2
  rename_i r off len
  cases off with
  | succ n => exact h1.elim
  | zero =>
    obtain ⟨g1, l, g2, g3, g4, g5, g6, g7, g9, g8⟩ := h1
    rw [byval_ok.1 g1, g2]
    obtain ⟨arr, arr', q1, q2, q3, q4, q5⟩ := fzs_some (fz := byFz (σ.get y)) g3
    rw [q1] at g4 g5
    rw [q2] at g6 h2
    simp only [objZ, apOk.objTy, objProt] at g4 g5 g6
    simp only [q2]
    refine ⟨g9, by rw [q4]; exact g4, by rw [q5]; exact g5, g6, g7, g8, ?_⟩
    simp only [apArr, g2, slOf] at h2
    exact h2

theorem run_nileq {σ : St} {K : St → Prop} {neq : Bool} {d : Nat} {x : IOpd} (h : nilOk σ (σ.get x) ∧ (nilMay (σ.get x) → K (σ.set d (.bool (!neq)))) ∧ K (σ.set d (.bool neq))) : evalT σ (some d) K (.nileq neq x) := by
  obtain ⟨h1, h2, h3⟩ := h
  simp only [evalT]
  cases hx : σ.get x <;> rw [hx] at h1 h2 <;> simp only [nilOk, nilMay] at h1 h2
  · exact ⟨h2, h3⟩
  · exact ⟨h1, h2, h3⟩

theorem gB_cases {v : AV} (h : gB v = true) : (∃ b, v = .bool b) ∨ v = .tup [] := by
  unfold gB at h
  split at h
  · exact .inl ⟨_, rfl⟩
  · exact .inr rfl
  · cases h

theorem runOps_ok {C : FuncId → List AV → AV → Prop} : ∀ {l : List ROp} {σ : St} {K : St → Prop}, runOps C l σ K → evalOps C l σ K
  | [], σ, K, h => h
  | ⟨io, some d, none, hid, wr⟩ :: l, σ, K, h => by
    simp only [runOps] at h
    simp only [evalOps, guardV, stepV]
    cases hm : io.isMut with
    | true =>
      rw [if_pos rfl]
      cases io <;> first
        | (cases hm; done)
        | (simp only [runOp, okV, false_and] at h; done)
        | (refine evalT_mono (fun σ hk => runOps_ok hk) (run_append (K := fun σ => runOps C l σ K) h))
        | (refine evalT_mono (fun σ hk => runOps_ok hk) (run_nileq (K := fun σ => runOps C l σ K) h))
    | false =>
      rw [if_neg (by simp)]
      exact evalM_mono (fun v s fz hk => ⟨hk.1, runOps_ok hk.2⟩) (runOp_M hm h)
  | ⟨io, none, none, hid, wr⟩ :: l, σ, K, h => by
    cases io <;> simp only [runOps] at h <;> try exact h.elim
    simp only [evalOps, guardV, stepV, IOp.isMut, if_true]
    exact evalT_mono (fun σ hk => runOps_ok hk) (run_store (K := fun σ => runOps C l σ K) h)
  | ⟨io, some d, some (t, w), hid, wr⟩ :: l, σ, K, h => by
    simp only [runOps] at h
    obtain ⟨h1, h2, h3⟩ := h
    simp only [evalOps, guardV]
    rcases gB_cases h1 with ⟨b, e⟩ | e
    · rw [e] at h2 h3
      rw [e]
      refine ⟨fun hb => ?_, fun hb => ?_⟩
      · subst hb
        have h := h2 (by cases b <;> rfl)
        simp only [stepV]
        cases hm : io.isMut with
        | true =>
          rw [if_pos rfl]
          cases io <;> first
            | (cases hm; done)
            | (simp only [runOp, okV, false_and] at h; done)
            | (refine evalT_mono (fun σ hk => runOps_ok hk) (run_append (K := fun σ => runOps C l σ K) h))
            | (refine evalT_mono (fun σ hk => runOps_ok hk) (run_nileq (K := fun σ => runOps C l σ K) h))
        | false =>
          rw [if_neg (by simp)]
          exact evalM_mono (fun v s fz hk => ⟨hk.1, runOps_ok hk.2⟩) (runOp_M hm h)
      · subst hb
        have h := h3 (by cases w <;> rfl)
        simp only [AV.isB, if_true] at h
        exact runOps_ok h
    · rw [e] at h3
      rw [e]
      have h := h3 (by cases w <;> rfl)
      simp only [AV.isB, Bool.false_eq_true, if_false] at h
      exact runOps_ok h
  | ⟨io, none, some g, hid, wr⟩ :: l, σ, K, h => by simp only [runOps] at h

def CallingH (C : FuncId → List AV → AV → Prop) (F0 : List Nat) (f : FuncId) (args : List AV) (hid : List Nat) (d : Nat) (fz : List Nat) (σ : St) (R : St → (St → Prop) → Prop) (K : St → Prop) : Prop :=
  ∃ r, C f args r ∧ resName hid d r = true ∧ (r.flatB || fz.all F0.contains) = true ∧ R (resSt σ d [] r) K

def headOp (C : FuncId → List AV → AV → Prop) (F0 : List Nat) (R : St → (St → Prop) → Prop) (K : St → Prop) (σ : St) (d : Nat) (hid : List Nat) : IOp → Prop
  | .alloc z ty zero => zero.cells.length = z ∧ 0 < z ∧ zero.cells.all AV.one = true ∧ hid.contains d = false ∧ R (σ.made d (.ptr d 0 0) (oneObj z ty zero)) K
  | .box z ty x => byOk hid σ (σ.get x) ∧ (byFz (σ.get x)).all F0.contains = true ∧ (byVal σ (σ.get x)).cells.length = z ∧ 0 < z ∧ (byVal σ (σ.get x)).cells.all AV.one = true ∧ hid.contains d = false ∧ R (σ.made d (.ptr d 0 0) (oneObj z ty (byVal σ (σ.get x)))) K
  | .mknil z ty => 0 < z ∧ hid.contains d = false ∧ R (σ.made d (.rs d 0 0) (some ⟨z, ty, [], 0⟩)) K
  | .bsl z ty xs => byOks hid σ (xs.map σ.get) ∧ (byFzs (xs.map σ.get)).all F0.contains = true ∧ 0 < z ∧ allOne z (byVals σ (xs.map σ.get)) ∧ hid.contains d = false ∧ R (σ.made d (.rs d 0 (byVals σ (xs.map σ.get)).length) (some ⟨z, ty, byVals σ (xs.map σ.get), 0⟩)) K
  | .callv fx xs => (σ.get fx).isC = true ∧ byOks hid σ (xs.map σ.get) ∧ CallingH C F0 (σ.get fx).cf ((σ.get fx).c1 ++ byVals σ (xs.map σ.get) ++ (σ.get fx).c2) hid d (byFzs (xs.map σ.get)) σ R K
  | .call p xs => byOks hid σ (xs.map σ.get) ∧ primOk p (byVals σ (xs.map σ.get)) ∧ resName hid d (primVal p (byVals σ (xs.map σ.get))) = true ∧ ((primVal p (byVals σ (xs.map σ.get))).flatB || (byFzs (xs.map σ.get)).all F0.contains) = true ∧ R (resSt σ d [] (primVal p (byVals σ (xs.map σ.get)))) K
  | io => okV hid σ io ∧ nameOk hid (valV σ io) = true ∧ (fzV σ io).all F0.contains = true ∧ R (σ.made d (valV σ io) none) K

/-- a head, all of whose freezes are of F0, and its tail -/
def runHead (C : FuncId → List AV → AV → Prop) (F0 : List Nat) (tl : List ROp) : List ROp → St → (St → Prop) → Prop
  | [], σ, K => runOps C tl σ K
  | ⟨io, some d, none, hid, wr⟩ :: l, σ, K => headOp C F0 (runHead C F0 tl l) K σ d hid io
  | ⟨io, some d, some (t, w), hid, wr⟩ :: l, σ, K => gB (σ.T t) = true ∧ (gIs w (σ.T t) = true → headOp C F0 (runHead C F0 tl l) K (σ.set t (.bool w)) d hid io) ∧
      (gIs w (σ.T t) = false → runHead C F0 tl l ((if (σ.T t).isB then σ.set t (.bool (!w)) else σ).set d (.tup [])) K)
  | ⟨io, none, none, hid, wr⟩ :: l, σ, K => (match io with
    | .store z p x => stHOk F0 hid wr σ z (σ.get x) (σ.get p) ∧ runHead C F0 tl l (stHSt σ z (σ.get x) (σ.get p)) K
    | _ => False)
  | _ :: _, _, _ => False

theorem run_storeH {F0 hid wr : List Nat} {σ : St} {K : St → Prop} {z : Nat} {p x : IOpd} (h : stHOk F0 hid wr σ z (σ.get x) (σ.get p) ∧ K (stHSt σ z (σ.get x) (σ.get p))) : evalS F0 hid wr σ (fun r arr => K ⟨σ.T, upd σ.H r (some arr)⟩) (.store z p x) := by
  obtain ⟨h1, h2⟩ := h
  simp only [evalS]
  cases hp : σ.get p <;> rw [hp] at h1 h2 <;> simp only [stHOk, stHSt] at h1 h2
  rename_i r i f
  obtain ⟨a1, a2, a3, g1, a4, g2, g3, g4, g5, g6⟩ := h1
  refine ⟨a1, a2, a3, ?_⟩
  rw [byval_ok.1 g1]
  refine ⟨a4, ?_⟩
  cases ha : σ.H r with
  | none => rw [ha] at g2; simp [objCells] at g2
  | some arr =>
    rw [ha] at g2 g4 g5 h2
    simp only [objCells, objProt] at g2 g4 g5
    simp only
    rw [List.getD_eq_getElem?_getD, List.getElem?_eq_getElem g2] at g4
    rw [List.getElem?_eq_getElem g2]
    refine ⟨g3, g4, g5, g6, ?_⟩
    simp only [stArr] at h2
    rw [List.getD_eq_getElem?_getD, List.getElem?_eq_getElem g2] at h2
    exact h2

theorem headOp_M {C : FuncId → List AV → AV → Prop} {F0 : List Nat} {R : St → (St → Prop) → Prop} {σ : St} {d : Nat} {hid : List Nat} {K : St → Prop} {io : IOp} (h : headOp C F0 R K σ d hid io) : evalM C d hid σ (fun v s fz => fz.all F0.contains = true ∧ nameOk hid v = true ∧ R (σ.made d v s) K) io := by
  cases io with
  | alloc z ty zero => exact ⟨h.1, h.2.1, h.2.2.1, rfl, nameOk_ptr h.2.2.2.1, h.2.2.2.2⟩
  | box z ty x =>
    simp only [headOp, evalM] at *
    rw [byval_ok.1 h.1]
    exact ⟨h.2.2.1, h.2.2.2.1, h.2.2.2.2.1, h.2.1, nameOk_ptr h.2.2.2.2.2.1, h.2.2.2.2.2.2⟩
  | mknil z ty => exact ⟨h.1, rfl, nameOk_rs h.2.1, h.2.2⟩
  | bsl z ty xs =>
    simp only [headOp, evalM] at *
    rw [byvals_ok.1 h.1]
    exact ⟨h.2.2.1, allOne_mem h.2.2.2.1, h.2.1, nameOk_rs h.2.2.2.2.1, h.2.2.2.2.2⟩
  | callv fx xs =>
    simp only [headOp, evalM, CallingH] at *
    obtain ⟨h1, h2, r, h3, h4, h5, h6⟩ := h
    cases hf : σ.get fx <;> rw [hf] at h1 h3 <;> simp only [AV.isC, Bool.false_eq_true] at h1
    rw [byvals_ok.1 h2]
    refine ⟨r, h3, ?_⟩
    have hres : ∀ b, (if b = true then σ.made d r none else (σ.fzs []).made d r none) = σ.made d r none := fun b => by cases b <;> rfl
    cases r with
    | own z ty l => exact ⟨by simpa [AV.flatB] using h5, nameOk_rs (by simpa [resName] using h4), h6⟩
    | _ =>
      simp only [takeRes]
      simp only [resSt, hres] at h6
      simp only [resName] at h4
      split
      · exact ⟨rfl, h4, h6⟩
      · rename_i hb
        simp only [Bool.not_eq_true] at hb
        rw [hb, Bool.false_or] at h5
        exact ⟨h5, h4, h6⟩
  | call p xs =>
    simp only [headOp, evalM] at *
    obtain ⟨h2, h3, h4, h5, h6⟩ := h
    rw [byvals_ok.1 h2]
    refine ⟨h3, ?_⟩
    generalize primVal p (byVals σ (xs.map σ.get)) = r at h4 h5 h6
    have hres : ∀ b, (if b = true then σ.made d r none else (σ.fzs []).made d r none) = σ.made d r none := fun b => by cases b <;> rfl
    cases r with
    | own z ty l => exact ⟨by simpa [AV.flatB] using h5, nameOk_rs (by simpa [resName] using h4), h6⟩
    | _ =>
      simp only [takeRes]
      simp only [resSt, hres] at h6
      simp only [resName] at h4
      split
      · exact ⟨rfl, h4, h6⟩
      · rename_i hb
        simp only [Bool.not_eq_true] at hb
        rw [hb, Bool.false_or] at h5
        exact ⟨h5, h4, h6⟩
  | store z p x => simp only [headOp, okV, false_and] at h
  | append z ty b x y => simp only [headOp, okV, false_and] at h
  | nileq neq x => simp only [headOp, okV, false_and] at h
  | _ => exact evalV_ok (K := fun v fz => fz.all F0.contains = true ∧ nameOk hid v = true ∧ R (σ.made d v none) K) ⟨h.1, h.2.2.1, h.2.1, h.2.2.2⟩

theorem runHead_ok {C : FuncId → List AV → AV → Prop} {F0 : List Nat} {tl : List ROp} : ∀ {l : List ROp} {σ : St} {K : St → Prop}, runHead C F0 tl l σ K → evalHead C F0 l σ fun σ => evalOps C tl σ K
  | [], σ, K, h => runOps_ok h
  | ⟨io, some d, none, hid, wr⟩ :: l, σ, K, h => by
    simp only [runHead] at h
    simp only [evalHead, guardV]
    exact evalM_mono (fun v s fz hk => ⟨hk.1, hk.2.1, runHead_ok hk.2.2⟩) (headOp_M h)
  | ⟨io, none, none, hid, wr⟩ :: l, σ, K, h => by
    cases io <;> simp only [runHead] at h <;> try exact h.elim
    simp only [evalHead, guardV]
    exact evalS_mono (fun r a hk => runHead_ok hk) (run_storeH (K := fun σ => runHead C F0 tl l σ K) h)
  | ⟨io, some d, some (t, w), hid, wr⟩ :: l, σ, K, h => by
    simp only [runHead] at h
    obtain ⟨h1, h2, h3⟩ := h
    simp only [evalHead, guardV]
    rcases gB_cases h1 with ⟨b, e⟩ | e
    · rw [e] at h2 h3
      rw [e]
      refine ⟨fun hb => ?_, fun hb => ?_⟩
      · subst hb
        exact evalM_mono (fun v s fz hk => ⟨hk.1, hk.2.1, runHead_ok hk.2.2⟩) (headOp_M (h2 (by cases b <;> rfl)))
      · subst hb
        have h := h3 (by cases w <;> rfl)
        simp only [AV.isB, if_true] at h
        exact runHead_ok h
    · rw [e] at h3
      rw [e]
      have h := h3 (by cases w <;> rfl)
      simp only [AV.isB, Bool.false_eq_true, if_false] at h
      exact runHead_ok h
  | ⟨io, none, some g, hid, wr⟩ :: l, σ, K, h => by simp only [runHead] at h

def runReg (C : FuncId → List AV → AV → Prop) (g : Reg) (σ : St) (K : St → Prop) : Prop :=
  match g.draw with
  | true => runHead C (g.fzT.filterMap fun t => ((σ.kills g.kills).T t).name) g.tail g.head ((σ.kills g.kills).fzs (g.fzT.filterMap fun t => ((σ.kills g.kills).T t).name)) K
  | false => runOps C g.tail (σ.kills g.kills) K

theorem runReg_ok {C : FuncId → List AV → AV → Prop} {g : Reg} {σ : St} {K : St → Prop} (h : runReg C g σ K) : evalReg C g σ K := by
  unfold runReg at h
  unfold evalReg
  split at h
  · rename_i e; rw [if_pos e]; exact runHead_ok h
  · rename_i e; rw [if_neg (by rw [e]; simp)]; exact runOps_ok h

/-! ### Regions with pointers handed on -/
def ckOk (σ : St) : AV → Prop
  | .ptr r _ _ => (σ.H r).isSome = true
  | .rp _ => True
  | _ => False
def cloOk (σ : St) : AV → Prop
  | .ptr r 0 0 => (σ.H r).isSome = true
  | _ => False
def ptrAt : AV → Nat
  | .ptr r _ _ => r
  | _ => 0
def mOk (σ : St) : AV → Prop
  | .ptr _ _ _ => True
  | v => byOk [] σ v
def mVal (σ : St) : AV → AV
  | .ptr r i f => .ptr r i f
  | v => byVal σ v
def mFz : AV → List Nat
  | .ptr _ _ _ => []
  | v => byFz v
theorem mval_ok {σ : St} {v : AV} (h : mOk σ v) : σ.mval v = some (mVal σ v, mFz v) := by
  cases v with
  | und => exact h.elim
  | own z ty l => exact h.elim
  | clom f r => exact h.elim
  | mp r es => exact h.elim
  | rs r o l =>
    have h' : byOk [] σ (.rs r o l) := h
    exact byval_ok.1 h'
  | _ => rfl
def mOks (σ : St) : List AV → Prop
  | [] => True
  | v :: l => mOk σ v ∧ mOks σ l
def mVals (σ : St) : List AV → List AV
  | [] => []
  | v :: l => mVal σ v :: mVals σ l
def mFzs : List AV → List Nat
  | [] => []
  | v :: l => mFz v ++ mFzs l
theorem mvals_ok {σ : St} : ∀ {l : List AV}, mOks σ l → σ.mvals l = some (mVals σ l, mFzs l)
  | [], _ => rfl
  | v :: l, h => by
    simp only [St.mvals, mval_ok h.1, mvals_ok h.2, mVals, mFzs]
def mCalOk (σ : St) : AV → Prop
  | .clo _ [] [] => True
  | .clom _ q => (σ.H q).isSome = true
  | _ => False
def mFn : AV → FuncId
  | .clo f _ _ => f
  | .clom f _ => f
  | _ => 0
def mArgs (ds : List AV) : AV → List AV
  | .clom _ q => ds ++ [.ptr q 0 0]
  | _ => ds
def MCalling (P : Program) (f : FuncId) (args : List AV) (T : Nat → AV) (H : Nat → Option Arr) (d : Nat) (R : St → (St → Prop) → Prop) (K : St → Prop) : Prop := ∃ r H', MFn P f args H r H' ∧ R ⟨upd T d r, H'⟩ K
def runX (P : Program) (C : FuncId → List AV → AV → Prop) : XOp → St → (St → Prop) → Prop
  | .op k r, σ, K => runOps C [r] (σ.kills k) K
  | .nilck d x none, σ, K => ckOk σ (σ.get x) ∧ K (σ.set d (σ.get x))
  | .nilck d x (some (t, w)), σ, K => gB (σ.T t) = true ∧ (gIs w (σ.T t) = true → ckOk (σ.set t (.bool w)) ((σ.set t (.bool w)).get x) ∧ K ((σ.set t (.bool w)).set d ((σ.set t (.bool w)).get x))) ∧
      (gIs w (σ.T t) = false → K ((if (σ.T t).isB then σ.set t (.bool (!w)) else σ).set d (.tup [])))
  | .mkclo d f x, σ, K => cloOk σ (σ.get x) ∧ K (σ.set d (.clom f (ptrAt (σ.get x))))
  | .mcall d fx xs, σ, K => mOks σ (xs.map σ.get) ∧ mCalOk (σ.fzs (mFzs (xs.map σ.get))) (σ.get fx) ∧ MCalling P (mFn (σ.get fx)) (mArgs (mVals σ (xs.map σ.get)) (σ.get fx)) σ.T (σ.fzs (mFzs (xs.map σ.get))).H d (fun σ K => K σ) K
def runXs (P : Program) (C : FuncId → List AV → AV → Prop) : List XOp → St → (St → Prop) → Prop
  | [], σ, K => K σ
  | x :: l, σ, K => runX P C x σ fun σ' => runXs P C l σ' K
theorem runX_ok {P : Program} {C : FuncId → List AV → AV → Prop} {x : XOp} {σ : St} {K : St → Prop} (h : runX P C x σ K) : evalX P C x σ K := by
  cases x with
  | op k r => exact runOps_ok h
  | nilck d x g =>
    have key : ∀ {σ : St}, ckOk σ (σ.get x) ∧ K (σ.set d (σ.get x)) → nilckV σ d x K := by
      intro σ h
      unfold nilckV
      cases hx : σ.get x <;> rw [hx] at h <;> simp only [ckOk, false_and, true_and] at h
      · exact h
      · exact h
    cases g with
    | none => exact key h
    | some g =>
      obtain ⟨t, w⟩ := g
      simp only [runX] at h
      obtain ⟨h1, h2, h3⟩ := h
      simp only [evalX, guardV]
      rcases gB_cases h1 with ⟨b, e⟩ | e
      · rw [e] at h2 h3
        rw [e]
        refine ⟨fun hb => ?_, fun hb => ?_⟩
        · subst hb
          exact key (h2 (by cases b <;> rfl))
        · subst hb
          have h := h3 (by cases w <;> rfl)
          simp only [AV.isB, if_true] at h
          exact h
      · rw [e] at h3
        rw [e]
        have h := h3 (by cases w <;> rfl)
        simp only [AV.isB, Bool.false_eq_true, if_false] at h
        exact h
  | mkclo d f x =>
    simp only [runX] at h
    simp only [evalX]
    cases hx : σ.get x <;> rw [hx] at h <;> try exact h.1.elim
    rename_i r i f'
    cases i with
    | succ i => exact h.1.elim
    | zero =>
      cases f' with
      | succ f' => exact h.1.elim
      | zero => exact h
  | mcall d fx xs =>
    simp only [runX] at h
    obtain ⟨h1, h2, r, H', h3, h4⟩ := h
    simp only [evalX]
    rw [mvals_ok h1]
    cases hf : σ.get fx <;> rw [hf] at h2 h3 <;> try exact h2.elim
    · rename_i f first caps
      cases first with
      | cons a l => exact h2.elim
      | nil =>
        cases caps with
        | cons a l => exact h2.elim
        | nil => exact ⟨r, H', h3, h4⟩
    · exact ⟨h2, r, H', h3, h4⟩
theorem runXs_ok {P : Program} {C : FuncId → List AV → AV → Prop} : ∀ {l : List XOp} {σ : St} {K : St → Prop}, runXs P C l σ K → evalXs P C l σ K
  | [], σ, K, h => h
  | x :: l, σ, K, h => evalX_mono (fun σ => runXs_ok) (runX_ok h)

/-- CODE: 'loops' are handed on as they are -/
def run (C : FuncId → List AV → AV → Prop) : IR → (XK → St → Prop) → St → Prop
  | .skip, Q, σ => Q .normal σ
  | .reg g, Q, σ => runReg C g σ (Q .normal)
  | .regx P l, Q, σ => runXs P C l σ (Q .normal)
  | .seq x y, Q, σ => run C x (thenQ (run C y Q) Q) σ
  | .cond c x y, Q, σ => (σ.get c).isB = true ∧ ((σ.get c).bv = true → run C x Q σ) ∧ ((σ.get c).bv = false → run C y Q σ)
  | .block id b, Q, σ => run C b (blockQ id Q) σ
  | .loop b, Q, σ => awp C (.loop b) Q σ
  | .exit id, Q, σ => Q (.exit id) σ
  | .ret, Q, σ => Q .ret σ

theorem run_ok {C : FuncId → List AV → AV → Prop} : ∀ {c : IR} {Q : XK → St → Prop} {σ : St}, run C c Q σ → awp C c Q σ
  | .skip, Q, σ, h => h
  | .reg g, Q, σ, h => runReg_ok h
  | .regx P l, Q, σ, h => runXs_ok h
  | .seq x y, Q, σ, h => by
    simp only [run] at h
    simp only [awp]
    refine awp_mono x (fun e σ' hq => ?_) σ (run_ok h)
    cases e with
    | normal => exact run_ok hq
    | exit id => exact hq
    | ret => exact hq
  | .cond c x y, Q, σ, h => by
    simp only [run] at h
    simp only [awp]
    cases hc : σ.get c <;> rw [hc] at h <;> simp only [AV.isB, AV.bv, Bool.false_eq_true, false_and] at h
    exact ⟨fun e => run_ok (h.2.1 e), fun e => run_ok (h.2.2 e)⟩
  | .block id b, Q, σ, h => run_ok (c := b) h
  | .loop b, Q, σ, h => h
  | .exit id, Q, σ, h => h
  | .ret, Q, σ, h => h

/-- a loop, in this form -/
theorem run_loop {C : FuncId → List AV → AV → Prop} {b : IR} {Q : XK → St → Prop} (I : Nat → St → Prop) {σ : St} {k : Nat} (h0 : I k σ)
    (hstep : ∀ k σ, I k σ → run C b (thenQ (fun σ' => ∃ m, m < k ∧ I m σ') Q) σ) : awp C (.loop b) Q σ :=
  loop_inv I h0 fun k σ h => run_ok (hstep k σ h)

/-! ### Rules -/
def AV.isSl : AV → Bool | .sl _ => true | _ => false
def objTy' : Option Arr → Nat | some a => a.ty | none => 0
theorem apOk_rs (σ : St) (z ty bytes : Nat) (v : AV) (r len : Nat) : apOk σ z ty bytes v (.rs r 0 len) = (byOk [] σ v ∧ (byVal σ v).isSl = true ∧ (σ.H r).isSome = true ∧ objZ (σ.H r) = z ∧ objTy' (σ.H r) = ty ∧ objProt ((σ.fzs (byFz v)).H r) ≤ len ∧ fitsV (len + (slOf (byVal σ v)).length) bytes ∧ r < 1000 ∧ ∀ d, d ∈ slOf (byVal σ v) → d.cells.length = z ∧ d.cells.all AV.one = true) := by
  have ht : apOk.objTy (σ.H r) = objTy' (σ.H r) := by cases σ.H r <;> rfl
  apply propext
  simp only [apOk, ht]
  constructor
  · rintro ⟨h1, l, h2, h3⟩
    rw [h2]
    exact ⟨h1, rfl, h3⟩
  · rintro ⟨h1, h2, h3⟩
    refine ⟨h1, slOf (byVal σ v), ?_, h3⟩
    cases hv : byVal σ v <;> rw [hv] at h2 <;> first | rfl | cases h2
theorem branch_ite (b : Bool) (X Y : Prop) : (if b = true then X else Y) = ((b = true → X) ∧ (b = false → Y)) := by
  cases b <;> simp
theorem ite_branch' (b : Bool) [inst : Decidable (b = false)] (X Y : Prop) : (if b = false then X else Y) = ((b = false → X) ∧ (b = true → Y)) := by
  cases b <;> simp
theorem ite_branch (b : Bool) [inst : Decidable (b = true)] (X Y : Prop) : (if b = true then X else Y) = ((b = true → X) ∧ (b = false → Y)) := by
  cases b <;> simp
theorem set_T (σ : St) (t s : Nat) (v : AV) : (σ.set t v).T s = if s = t then v else σ.T s := rfl
theorem set_H (σ : St) (t : Nat) (v : AV) : (σ.set t v).H = σ.H := rfl
theorem made_T (σ : St) (t s : Nat) (v : AV) (o : Option Arr) : (σ.made t v o).T s = if s = t then v else σ.T s := rfl
theorem made_H_none (σ : St) (t s : Nat) (v : AV) : (σ.made t v none).H s = σ.H s := rfl
theorem made_H_some (σ : St) (t s : Nat) (v : AV) (arr : Arr) : (σ.made t v (some arr)).H s = if s = t then some arr else σ.H s := rfl
theorem upd_at {α : Type} (f : Nat → α) (r s : Nat) (x : α) : upd f r x s = if s = r then x else f s := rfl
theorem sweep_at (T : Nat → AV) (r t : Nat) : sweep T r t = if (T t).name = some r then .und else T t := rfl
theorem kill_T (σ : St) (r t : Nat) : (σ.kill r).T t = if (σ.T t).name = some r then .und else σ.T t := rfl
theorem kill_H (σ : St) (r s : Nat) : (σ.kill r).H s = if s = r then none else σ.H s := rfl
theorem kills_nil (σ : St) : σ.kills [] = σ := rfl
theorem kills_cons (σ : St) (r : Nat) (l : List Nat) : σ.kills (r :: l) = (σ.kill r).kills l := rfl
theorem fz_T' (σ : St) (r t : Nat) : (σ.fz r).T t = σ.T t := rfl
theorem fz_H' (σ : St) (r s : Nat) : (σ.fz r).H s = if s = r then (σ.H r).map Arr.freeze else σ.H s := rfl
theorem fzs_nil (σ : St) : σ.fzs [] = σ := rfl
theorem fzs_cons (σ : St) (r : Nat) (l : List Nat) : σ.fzs (r :: l) = (σ.fz r).fzs l := rfl
theorem init_T (args : List AV) (t : Nat) : (initSt args).T t = args.getD t .und := rfl
theorem init_H (args : List AV) (t : Nat) : (initSt args).H t = none := rfl
theorem get_t (σ : St) (t : Nat) : σ.get (.t t) = σ.T t := rfl
theorem get_c (σ : St) (v : AV) : σ.get (.c v) = v := rfl
theorem freeze_mk (z ty : Nat) (l : List AV) (p : Nat) : Arr.freeze ⟨z, ty, l, p⟩ = ⟨z, ty, l, l.length⟩ := rfl
theorem thenQ_normal (K : St → Prop) (Q : XK → St → Prop) (σ : St) : thenQ K Q .normal σ = K σ := rfl
theorem thenQ_exit (K : St → Prop) (Q : XK → St → Prop) (i : Nat) (σ : St) : thenQ K Q (.exit i) σ = Q (.exit i) σ := rfl
theorem thenQ_ret (K : St → Prop) (Q : XK → St → Prop) (σ : St) : thenQ K Q .ret σ = Q .ret σ := rfl
theorem blockQ_normal (i : Nat) (Q : XK → St → Prop) (σ : St) : blockQ i Q .normal σ = Q .normal σ := rfl
theorem blockQ_ret (i : Nat) (Q : XK → St → Prop) (σ : St) : blockQ i Q .ret σ = Q .ret σ := rfl
theorem blockQ_exit (i j : Nat) (Q : XK → St → Prop) (σ : St) : blockQ i Q (.exit j) σ = if j = i then Q .normal σ else Q (.exit j) σ := rfl
theorem endQ_ret (ds : List RDesc) (r : AV) (σ : St) : endQ ds r .ret σ = retV ds r σ := rfl
theorem endQ_normal (ds : List RDesc) (r : AV) (σ : St) : endQ ds r .normal σ = retV ds r σ := rfl

theorem calling {C : FuncId → List AV → AV → Prop} {f : FuncId} {args : List AV} {hid : List Nat} {d : Nat} {fz : List Nat} {σ : St} {R : St → (St → Prop) → Prop} {K : St → Prop} {r : AV} (h : C f args r) (hk : resName hid d r = true ∧ R (resSt σ d fz r) K) : Calling C f args hid d fz σ R K := ⟨r, h, hk⟩
theorem callingH {C : FuncId → List AV → AV → Prop} {F0 : List Nat} {f : FuncId} {args : List AV} {hid : List Nat} {d : Nat} {fz : List Nat} {σ : St} {R : St → (St → Prop) → Prop} {K : St → Prop} {r : AV} (h : C f args r) (hk : resName hid d r = true ∧ (r.flatB || fz.all F0.contains) = true ∧ R (resSt σ d [] r) K) : CallingH C F0 f args hid d fz σ R K := ⟨r, h, hk⟩
theorem run_skip (C : FuncId → List AV → AV → Prop) (Q : XK → St → Prop) (σ : St) : run C .skip Q σ = Q .normal σ := rfl
theorem run_reg (C : FuncId → List AV → AV → Prop) (g : Reg) (Q : XK → St → Prop) (σ : St) : run C (.reg g) Q σ = runReg C g σ (Q .normal) := rfl
theorem run_seq (C : FuncId → List AV → AV → Prop) (x y : IR) (Q : XK → St → Prop) (σ : St) : run C (.seq x y) Q σ = run C x (thenQ (run C y Q) Q) σ := rfl
theorem run_cond (C : FuncId → List AV → AV → Prop) (c : IOpd) (x y : IR) (Q : XK → St → Prop) (σ : St) : run C (.cond c x y) Q σ = ((σ.get c).isB = true ∧ if (σ.get c).bv = true then run C x Q σ else run C y Q σ) := by
  rw [branch_ite]; rfl
theorem run_block (C : FuncId → List AV → AV → Prop) (id : Nat) (b : IR) (Q : XK → St → Prop) (σ : St) : run C (.block id b) Q σ = run C b (blockQ id Q) σ := rfl
theorem run_loop' (C : FuncId → List AV → AV → Prop) (b : IR) (Q : XK → St → Prop) (σ : St) : run C (.loop b) Q σ = awp C (.loop b) Q σ := rfl
theorem run_exit (C : FuncId → List AV → AV → Prop) (id : Nat) (Q : XK → St → Prop) (σ : St) : run C (.exit id) Q σ = Q (.exit id) σ := rfl
theorem run_ret (C : FuncId → List AV → AV → Prop) (Q : XK → St → Prop) (σ : St) : run C .ret Q σ = Q .ret σ := rfl
theorem runOps_nil (C : FuncId → List AV → AV → Prop) (σ : St) (K : St → Prop) : runOps C [] σ K = K σ := rfl
theorem runOps_op (C : FuncId → List AV → AV → Prop) (io : IOp) (d : Nat) (hid wr : List Nat) (l : List ROp) (σ : St) (K : St → Prop) : runOps C (⟨io, some d, none, hid, wr⟩ :: l) σ K = runOp C (runOps C l) K σ d hid io := rfl
theorem runOps_st (C : FuncId → List AV → AV → Prop) (z : Nat) (p x : IOpd) (hid wr : List Nat) (l : List ROp) (σ : St) (K : St → Prop) : runOps C (⟨.store z p x, none, none, hid, wr⟩ :: l) σ K = (stOk σ z (σ.get x) (σ.get p) ∧ runOps C l (stSt σ z (σ.get x) (σ.get p)) K) := rfl
theorem runOps_g (C : FuncId → List AV → AV → Prop) (io : IOp) (d t : Nat) (w : Bool) (hid wr : List Nat) (l : List ROp) (σ : St) (K : St → Prop) : runOps C (⟨io, some d, some (t, w), hid, wr⟩ :: l) σ K = (gB (σ.T t) = true ∧ if gIs w (σ.T t) = true then runOp C (runOps C l) K (σ.set t (.bool w)) d hid io else runOps C l ((if (σ.T t).isB then σ.set t (.bool (!w)) else σ).set d (.tup [])) K) := by
  rw [branch_ite]; rfl
theorem runHead_nil (C : FuncId → List AV → AV → Prop) (F0 : List Nat) (tl : List ROp) (σ : St) (K : St → Prop) : runHead C F0 tl [] σ K = runOps C tl σ K := rfl
theorem runHead_op (C : FuncId → List AV → AV → Prop) (F0 : List Nat) (tl : List ROp) (io : IOp) (d : Nat) (hid wr : List Nat) (l : List ROp) (σ : St) (K : St → Prop) : runHead C F0 tl (⟨io, some d, none, hid, wr⟩ :: l) σ K = headOp C F0 (runHead C F0 tl l) K σ d hid io := rfl
theorem runHead_st (C : FuncId → List AV → AV → Prop) (F0 : List Nat) (tl : List ROp) (z : Nat) (p x : IOpd) (hid wr : List Nat) (l : List ROp) (σ : St) (K : St → Prop) : runHead C F0 tl (⟨.store z p x, none, none, hid, wr⟩ :: l) σ K = (stHOk F0 hid wr σ z (σ.get x) (σ.get p) ∧ runHead C F0 tl l (stHSt σ z (σ.get x) (σ.get p)) K) := rfl
theorem runHead_g (C : FuncId → List AV → AV → Prop) (F0 : List Nat) (tl : List ROp) (io : IOp) (d t : Nat) (w : Bool) (hid wr : List Nat) (l : List ROp) (σ : St) (K : St → Prop) : runHead C F0 tl (⟨io, some d, some (t, w), hid, wr⟩ :: l) σ K = (gB (σ.T t) = true ∧ if gIs w (σ.T t) = true then headOp C F0 (runHead C F0 tl l) K (σ.set t (.bool w)) d hid io else runHead C F0 tl l ((if (σ.T t).isB then σ.set t (.bool (!w)) else σ).set d (.tup [])) K) := by
  rw [branch_ite]; rfl
theorem nameOk_none {hid : List Nat} {v : AV} (h : v.name = none) : nameOk hid v = true := by unfold nameOk; rw [h]
theorem nameOk_ptr' (hid : List Nat) (r i f : Nat) : nameOk hid (.ptr r i f) = !hid.contains r := rfl
theorem nameOk_rs' (hid : List Nat) (r i f : Nat) : nameOk hid (.rs r i f) = !hid.contains r := rfl
theorem run_regx (C : FuncId → List AV → AV → Prop) (P : Program) (l : List XOp) (Q : XK → St → Prop) (σ : St) : run C (.regx P l) Q σ = runXs P C l σ (Q .normal) := rfl
theorem runXs_nil (P : Program) (C : FuncId → List AV → AV → Prop) (σ : St) (K : St → Prop) : runXs P C [] σ K = K σ := rfl
theorem runXs_op (P : Program) (C : FuncId → List AV → AV → Prop) (k : List Nat) (r : ROp) (l : List XOp) (σ : St) (K : St → Prop) : runXs P C (.op k r :: l) σ K = runOps C [r] (σ.kills k) fun σ' => runXs P C l σ' K := rfl
theorem runXs_nilck (P : Program) (C : FuncId → List AV → AV → Prop) (d : Nat) (x : IOpd) (l : List XOp) (σ : St) (K : St → Prop) : runXs P C (.nilck d x none :: l) σ K = (ckOk σ (σ.get x) ∧ runXs P C l (σ.set d (σ.get x)) K) := rfl
theorem runXs_nilckg (P : Program) (C : FuncId → List AV → AV → Prop) (d : Nat) (x : IOpd) (t : Nat) (w : Bool) (l : List XOp) (σ : St) (K : St → Prop) : runXs P C (.nilck d x (some (t, w)) :: l) σ K = (gB (σ.T t) = true ∧ if gIs w (σ.T t) = true then ckOk (σ.set t (.bool w)) ((σ.set t (.bool w)).get x) ∧ runXs P C l ((σ.set t (.bool w)).set d ((σ.set t (.bool w)).get x)) K else runXs P C l ((if (σ.T t).isB then σ.set t (.bool (!w)) else σ).set d (.tup [])) K) := by
  rw [branch_ite]; rfl
theorem runXs_mkclo (P : Program) (C : FuncId → List AV → AV → Prop) (d : Nat) (f : FuncId) (x : IOpd) (l : List XOp) (σ : St) (K : St → Prop) : runXs P C (.mkclo d f x :: l) σ K = (cloOk σ (σ.get x) ∧ runXs P C l (σ.set d (.clom f (ptrAt (σ.get x)))) K) := rfl
theorem runXs_mcall (P : Program) (C : FuncId → List AV → AV → Prop) (d : Nat) (fx : IOpd) (xs : List IOpd) (l : List XOp) (σ : St) (K : St → Prop) : runXs P C (.mcall d fx xs :: l) σ K = (mOks σ (xs.map σ.get) ∧ mCalOk (σ.fzs (mFzs (xs.map σ.get))) (σ.get fx) ∧ MCalling P (mFn (σ.get fx)) (mArgs (mVals σ (xs.map σ.get)) (σ.get fx)) σ.T (σ.fzs (mFzs (xs.map σ.get))).H d (runXs P C l) K) := rfl
theorem nameOk_clom (hid : List Nat) (f : FuncId) (r : Nat) : nameOk hid (.clom f r) = !hid.contains r := rfl
theorem initM_T (args : List AV) (H : Nat → Option Arr) (t : Nat) : (initM args H).T t = sh (args.getD t .und) := rfl
theorem initM_H (args : List AV) (H : Nat → Option Arr) : (initM args H).H = shH H := rfl
theorem shH_big (H : Nat → Option Arr) (r : Nat) : shH H (r + 1000) = H r := by unfold shH; rw [if_neg (by omega), Nat.add_sub_cancel]
theorem shH_small (H : Nat → Option Arr) (r : Nat) (h : r < 1000) : shH H r = none := if_pos h
theorem endM_ret (ds : List RDesc) (r : AV) (H' : Nat → Option Arr) (σ : St) : endM ds r H' .ret σ = retM ds r H' σ := rfl
theorem endM_normal (ds : List RDesc) (r : AV) (H' : Nat → Option Arr) (σ : St) : endM ds r H' .normal σ = retM ds r H' σ := rfl
end Go.Proofs.YtkdbphhekpdmhaaDoor
