/-
  The plain machine: what an operation comes to hangs on its operands and on the objects that it sees, and is one thing.
-/
import Derived.Test.YtkdbphhekpdmhaaDoorAmJ
namespace Go.Proofs.YtkdbphhekpdmhaaDoor
open Go.RowKit
set_option linter.unusedVariables false
set_option linter.unusedSimpArgs false

def IOp.opds : IOp → List IOpd
  | .mv x | .mvs x | .un _ x | .ext _ x | .load _ _ x | .faddr _ x | .fld _ _ _ x | .len _ x | .conv _ x | .box _ _ x | .tobytes x | .tostr x => [x]
  | .pick a b c => [a, b, c]
  | .bin _ x y | .beq _ x y | .feq _ _ x y | .iaddr _ x y | .iaddrA _ _ x y | .idx x y | .idxA _ _ _ x y | .mx _ x y | .store _ x y | .append _ _ _ x y | .copy _ x y => [x, y]
  | .slc _ _ x lo hi => x :: (lo.toList ++ hi.toList)
  | .mkfn _ l m => l ++ m
  | .bld _ ps => ps.map (·.x)
  | .alloc .. | .mknil .. => []
  | .bsl _ _ l | .call _ l => l
  | .mksl _ _ _ _ x | .nileq _ x => [x]
  | .callv f l => f :: l

/-- another state that looks the same to an operation -/
structure Alike (io : IOp) (hid : List Nat) (σ σ' : St) : Prop where
  get : ∀ x, x ∈ io.opds → σ'.get x = σ.get x
  obj : ∀ r arr, hid.contains r = false → σ.H r = some arr → σ'.H r = some arr

theorem Alike.refl (io : IOp) (hid : List Nat) (σ : St) : Alike io hid σ σ := ⟨fun _ _ => rfl, fun _ _ _ h => h⟩

theorem binI_det {op : BinOp} {k : IntKind} {a b : Int} {K : AV → Prop} (h : binI op k a b K) : ∃ v, K v ∧ ∀ K', K' v → binI op k a b K' := by
  cases op <;> simp only [binI] at h ⊢ <;>
    first
      | exact ⟨_, h, fun K' hk => hk⟩
      | exact ⟨_, h.2, fun K' hk => ⟨h.1, hk⟩⟩
      | exact h.elim

theorem binS_det {op : BinOp} {a b : ByteArray} {K : AV → Prop} (h : binS op a b K) : ∃ v, K v ∧ ∀ K', K' v → binS op a b K' := by
  cases op <;> simp only [binS] at h ⊢ <;>
    first
      | exact ⟨_, h, fun K' hk => hk⟩
      | exact ⟨_, h.2, fun K' hk => ⟨h.1, hk⟩⟩
      | exact h.elim

theorem cellsV_det {agg : Bool} {z : Nat} {cs : List AV} {K : AV → Prop} (h : cellsV agg z cs K) : ∃ v, K v ∧ ∀ K', K' v → cellsV agg z cs K' := by
  unfold cellsV at h
  split at h
  · rename_i hg
    exact ⟨_, h.2, fun K' hk => by unfold cellsV; rw [if_pos hg]; exact ⟨h.1, hk⟩⟩
  · rename_i hg
    cases cs with
    | nil => exact h.elim
    | cons c cs => exact ⟨_, h, fun K' hk => by unfold cellsV; rw [if_neg hg]; exact hk⟩

theorem bound_det {σ : St} {x : Option IOpd} {d : Nat} {K : Nat → Prop} (h : bound σ x d K) : ∃ m, K m ∧ ∀ (σ' : St) K', (∀ y, x = some y → σ'.get y = σ.get y) → K' m → bound σ' x d K' := by
  unfold bound at h
  cases x with
  | none => exact ⟨_, h, fun σ' K' _ hk => hk⟩
  | some x =>
    simp only at h
    split at h
    · rename_i k m e
      exact ⟨_, h.2, fun σ' K' hx hk => by unfold bound; simp only; rw [hx x rfl, e]; exact ⟨h.1, hk⟩⟩
    · exact h.elim

theorem byval_det {hid : List Nat} {σ σ' : St} (hH : ∀ r arr, hid.contains r = false → σ.H r = some arr → σ'.H r = some arr) {v : AV} {q : AV × List Nat} (h : σ.byval hid v = some q) : σ'.byval hid v = some q := by
  unfold St.byval at h ⊢
  cases v with
  | rs r off len =>
    simp only at h ⊢
    split at h
    · cases h
    · rename_i hc
      rw [if_neg hc]
      split at h
      · rename_i arr ha
        rw [hH r arr (by simpa using hc) ha]; exact h
      · cases h
  | ptr r i f =>
    simp only at h ⊢
    split at h
    · cases h
    · rename_i hc
      rw [if_neg hc]
      split at h
      · rename_i arr ha
        rw [hH r arr (by simpa using hc) ha]; exact h
      · cases h
  | _ => exact h

theorem byvals_det {hid : List Nat} {σ σ' : St} (hH : ∀ r arr, hid.contains r = false → σ.H r = some arr → σ'.H r = some arr) : ∀ {l : List AV} {q : List AV × List Nat}, σ.byvals hid l = some q → σ'.byvals hid l = some q
  | [], q, h => h
  | v :: l, q, h => by
    simp only [St.byvals] at h ⊢
    split at h
    · rename_i d f h1
      rw [byval_det hH h1]
      split at h
      · rename_i ds fs h2
        rw [byvals_det hH h2]
        exact h
      · cases h
    · cases h

theorem map_get {io : IOp} {hid : List Nat} {σ σ' : St} (hA : Alike io hid σ σ') {l : List IOpd} (hl : ∀ x, x ∈ l → x ∈ io.opds) : l.map σ'.get = l.map σ.get :=
  List.map_congr_left fun x hx => hA.get x (hl x hx)

/-- the value kind -/
theorem evalV_det {hid : List Nat} {σ : St} {K : AV → List Nat → Prop} : ∀ {io : IOp}, evalV hid σ K io → ∃ v fz, K v fz ∧ ∀ σ' K', Alike io hid σ σ' → K' v fz → evalV hid σ' K' io := by
  intro io h
  cases io with
  | mv x => exact ⟨_, _, h, fun σ' K' hA hk => by simp only [evalV]; rw [hA.get x (by simp [IOp.opds])]; exact hk⟩
  | mvs x =>
    simp only [evalV] at h
    split at h
    · rename_i s e
      exact ⟨_, _, h, fun σ' K' hA hk => by simp only [evalV]; rw [hA.get x (by simp [IOp.opds]), e]; exact hk⟩
    · exact h.elim
  | pick c x y =>
    simp only [evalV] at h
    split at h
    · rename_i e
      exact ⟨_, _, h, fun σ' K' hA hk => by simp only [evalV]; rw [hA.get c (by simp [IOp.opds]), e, hA.get x (by simp [IOp.opds])]; exact hk⟩
    · rename_i e
      exact ⟨_, _, h, fun σ' K' hA hk => by simp only [evalV]; rw [hA.get c (by simp [IOp.opds]), e, hA.get y (by simp [IOp.opds])]; exact hk⟩
    · exact h.elim
  | bin op x y =>
    simp only [evalV] at h
    split at h
    · rename_i k m k' m' e1 e2
      obtain ⟨hk, h⟩ := h
      obtain ⟨v, h1, h2⟩ := binI_det h
      exact ⟨v, [], h1, fun σ' K' hA hk' => by simp only [evalV]; rw [hA.get x (by simp [IOp.opds]), e1, hA.get y (by simp [IOp.opds]), e2]; exact ⟨hk, h2 (fun v => K' v []) hk'⟩⟩
    · rename_i s s' e1 e2
      obtain ⟨v, h1, h2⟩ := binS_det h
      exact ⟨v, [], h1, fun σ' K' hA hk' => by simp only [evalV]; rw [hA.get x (by simp [IOp.opds]), e1, hA.get y (by simp [IOp.opds]), e2]; exact h2 (fun v => K' v []) hk'⟩
    · exact h.elim
  | beq neq x y =>
    simp only [evalV] at h
    split at h
    · rename_i e1 e2
      exact ⟨_, _, h, fun σ' K' hA hk => by simp only [evalV]; rw [hA.get x (by simp [IOp.opds]), e1, hA.get y (by simp [IOp.opds]), e2]; exact hk⟩
    · exact h.elim
  | feq neq sh x y =>
    simp only [evalV] at h
    split at h
    · rename_i e1 e2
      exact ⟨_, _, h.2, fun σ' K' hA hk => by simp only [evalV]; rw [hA.get x (by simp [IOp.opds]), e1, hA.get y (by simp [IOp.opds]), e2]; exact ⟨h.1, hk⟩⟩
    · exact h.elim
  | un op x =>
    simp only [evalV] at h
    split at h
    · rename_i e
      exact ⟨_, _, h, fun σ' K' hA hk => by simp only [evalV]; rw [hA.get x (by simp [IOp.opds]), e]; exact hk⟩
    · rename_i e
      exact ⟨_, _, h, fun σ' K' hA hk => by simp only [evalV]; rw [hA.get x (by simp [IOp.opds]), e]; exact hk⟩
    · exact h.elim
  | ext i x =>
    simp only [evalV] at h
    split at h
    · rename_i vs e
      split at h
      · rename_i c e2
        exact ⟨_, _, h, fun σ' K' hA hk => by simp only [evalV]; rw [hA.get x (by simp [IOp.opds]), e]; simp only [e2]; exact hk⟩
      · exact h.elim
    · exact h.elim
  | load z agg p =>
    simp only [evalV] at h
    split at h
    · rename_i cs e
      obtain ⟨v, h1, h2⟩ := cellsV_det h
      exact ⟨v, [], h1, fun σ' K' hA hk => by simp only [evalV]; rw [hA.get p (by simp [IOp.opds]), e]; exact h2 (fun v => K' v []) hk⟩
    · rename_i r i f e
      obtain ⟨hh, h⟩ := h
      split at h
      · rename_i arr ha
        split at h
        · rename_i d hd
          obtain ⟨v, h1, h2⟩ := cellsV_det h
          exact ⟨v, [], h1, fun σ' K' hA hk => by simp only [evalV]; rw [hA.get p (by simp [IOp.opds]), e]; simp only [hA.obj r arr hh ha, hd]; exact ⟨hh, h2 (fun v => K' v []) hk⟩⟩
        · exact h.elim
      · exact h.elim
    · exact h.elim
  | faddr off p =>
    simp only [evalV] at h
    split at h
    · rename_i cs e
      exact ⟨_, _, h, fun σ' K' hA hk => by simp only [evalV]; rw [hA.get p (by simp [IOp.opds]), e]; exact hk⟩
    · rename_i r i f e
      obtain ⟨hh, h⟩ := h
      split at h
      · rename_i arr ha
        exact ⟨_, _, h, fun σ' K' hA hk => by simp only [evalV]; rw [hA.get p (by simp [IOp.opds]), e]; simp only [hA.obj r arr hh ha]; exact ⟨hh, hk⟩⟩
      · exact h.elim
    · exact h.elim
  | fld off z agg x =>
    simp only [evalV] at h
    split at h
    · rename_i cs e
      obtain ⟨v, h1, h2⟩ := cellsV_det h
      exact ⟨v, [], h1, fun σ' K' hA hk => by simp only [evalV]; rw [hA.get x (by simp [IOp.opds]), e]; exact h2 (fun v => K' v []) hk⟩
    · exact h.elim
  | iaddr z x i =>
    simp only [evalV] at h
    split at h
    · rename_i k m l e1 e2
      obtain ⟨q1, q2, h⟩ := h
      exact ⟨_, _, h, fun σ' K' hA hk => by simp only [evalV]; rw [hA.get i (by simp [IOp.opds]), e1, hA.get x (by simp [IOp.opds]), e2]; exact ⟨q1, q2, hk⟩⟩
    · rename_i k m r off len e1 e2
      obtain ⟨hh, q1, h⟩ := h
      split at h
      · rename_i arr ha
        exact ⟨_, _, h.2, fun σ' K' hA hk => by simp only [evalV]; rw [hA.get i (by simp [IOp.opds]), e1, hA.get x (by simp [IOp.opds]), e2]; simp only [hA.obj r arr hh ha]; exact ⟨hh, q1, h.1, hk⟩⟩
      · exact h.elim
    · exact h.elim
  | idx x i =>
    simp only [evalV] at h
    split at h
    · rename_i k m s e1 e2
      exact ⟨_, _, h.2, fun σ' K' hA hk => by simp only [evalV]; rw [hA.get i (by simp [IOp.opds]), e1, hA.get x (by simp [IOp.opds]), e2]; exact ⟨h.1, hk⟩⟩
    · exact h.elim
  | idxA len z agg x i =>
    simp only [evalV] at h
    split at h
    · rename_i k m cs e1 e2
      obtain ⟨q, h⟩ := h
      obtain ⟨v, h1, h2⟩ := cellsV_det h
      exact ⟨v, [], h1, fun σ' K' hA hk => by simp only [evalV]; rw [hA.get i (by simp [IOp.opds]), e1, hA.get x (by simp [IOp.opds]), e2]; exact ⟨q, h2 (fun v => K' v []) hk⟩⟩
    · exact h.elim
  | slc str z x lo hi =>
    have hlo : ∀ {σ' : St}, Alike (.slc str z x lo hi) hid σ σ' → ∀ y, lo = some y → σ'.get y = σ.get y := fun hA y hy => hA.get y (by simp [IOp.opds, hy])
    have hhi : ∀ {σ' : St}, Alike (.slc str z x lo hi) hid σ σ' → ∀ y, hi = some y → σ'.get y = σ.get y := fun hA y hy => hA.get y (by simp [IOp.opds, hy])
    simp only [evalV] at h
    split at h
    · rename_i s _ e
      obtain ⟨m, ⟨g1, h1⟩, b1⟩ := bound_det h
      obtain ⟨m2, ⟨g2, h2⟩, b2⟩ := bound_det h1
      refine ⟨_, _, h2, fun σ' K' hA hk => ?_⟩
      simp only [evalV]
      rw [hA.get x (by simp [IOp.opds]), e]
      exact b1 σ' _ (hhi hA) ⟨g1, b2 σ' _ (hlo hA) ⟨g2, hk⟩⟩
    · rename_i l _ e
      obtain ⟨m, ⟨g1, h1⟩, b1⟩ := bound_det h
      obtain ⟨m2, ⟨g2, g3, h2⟩, b2⟩ := bound_det h1
      refine ⟨_, _, h2, fun σ' K' hA hk => ?_⟩
      simp only [evalV]
      rw [hA.get x (by simp [IOp.opds]), e]
      exact b1 σ' _ (hhi hA) ⟨g1, b2 σ' _ (hlo hA) ⟨g2, g3, hk⟩⟩
    · rename_i r off len e
      obtain ⟨hh, h⟩ := h
      split at h
      · rename_i arr ha
        obtain ⟨hz, h⟩ := h
        obtain ⟨m, ⟨g1, h1⟩, b1⟩ := bound_det h
        cases lo with
        | none =>
          refine ⟨_, _, h1, fun σ' K' hA hk => ?_⟩
          simp only [evalV]
          rw [hA.get x (by simp [IOp.opds]), e]
          simp only [hA.obj r arr hh ha]
          exact ⟨hh, hz, b1 σ' _ (hhi hA) ⟨g1, hk⟩⟩
        | some lo =>
          simp only [slcEnd] at h1
          obtain ⟨m2, ⟨g2, h2⟩, b2⟩ := bound_det h1
          refine ⟨_, _, h2, fun σ' K' hA hk => ?_⟩
          simp only [evalV]
          rw [hA.get x (by simp [IOp.opds]), e]
          simp only [hA.obj r arr hh ha]
          exact ⟨hh, hz, b1 σ' _ (hhi hA) ⟨g1, b2 σ' (fun m2 => m2 ≤ m ∧ K' (.sl ((arr.cells.drop (off + m2)).take (m - m2))) [r]) (hlo hA) ⟨g2, hk⟩⟩⟩
      · exact h.elim
    · exact h.elim
  | len str x =>
    simp only [evalV] at h
    split at h
    · rename_i l e
      exact ⟨_, _, h, fun σ' K' hA hk => by simp only [evalV]; rw [hA.get x (by simp [IOp.opds]), e]; exact hk⟩
    · rename_i r off len e
      obtain ⟨hh, h⟩ := h
      split at h
      · rename_i arr ha
        exact ⟨_, _, h, fun σ' K' hA hk => by simp only [evalV]; rw [hA.get x (by simp [IOp.opds]), e]; simp only [hA.obj r arr hh ha]; exact ⟨hh, hk⟩⟩
      · exact h.elim
    · rename_i s e
      exact ⟨_, _, h, fun σ' K' hA hk => by simp only [evalV]; rw [hA.get x (by simp [IOp.opds]), e]; exact hk⟩
    · exact h.elim
  | mx b x y =>
    simp only [evalV] at h
    split at h
    · rename_i e1 e2
      exact ⟨_, _, h, fun σ' K' hA hk => by simp only [evalV]; rw [hA.get x (by simp [IOp.opds]), e1, hA.get y (by simp [IOp.opds]), e2]; exact hk⟩
    · rename_i e1 e2
      exact ⟨_, _, h, fun σ' K' hA hk => by simp only [evalV]; rw [hA.get x (by simp [IOp.opds]), e1, hA.get y (by simp [IOp.opds]), e2]; exact hk⟩
    · exact h.elim
  | conv k x =>
    simp only [evalV] at h
    split at h
    · rename_i e
      exact ⟨_, _, h, fun σ' K' hA hk => by simp only [evalV]; rw [hA.get x (by simp [IOp.opds]), e]; exact hk⟩
    · exact h.elim
  | mkfn f first caps =>
    simp only [evalV] at h
    split at h
    · rename_i vf f1 vc f2 e1 e2
      refine ⟨_, _, h, fun σ' K' hA hk => ?_⟩
      simp only [evalV]
      rw [map_get hA (l := first) (fun x hx => by simp [IOp.opds, hx]), map_get hA (l := caps) (fun x hx => by simp [IOp.opds, hx]), byvals_det hA.obj e1, byvals_det hA.obj e2]
      exact hk
    · exact h.elim
  | bld zero ps =>
    simp only [evalV] at h
    split at h
    · rename_i vs fz e1
      split at h
      · rename_i cs e2
        refine ⟨_, _, h, fun σ' K' hA hk => ?_⟩
        simp only [evalV]
        have hm : ps.map (fun p => σ'.get p.x) = ps.map fun p => σ.get p.x := List.map_congr_left fun p hp => hA.get p.x (by simp only [IOp.opds]; exact List.mem_map.2 ⟨p, hp, rfl⟩)
        rw [hm, byvals_det hA.obj e1]
        simp only [e2]
        exact hk
      · exact h.elim
    · exact h.elim
  | _ => exact h.elim

theorem takeRes_det {dst : Nat} {fz : List Nat} {r : AV} {K : AV → Option Arr → List Nat → Prop} (h : takeRes dst fz K r) : ∃ v s f, K v s f ∧ ∀ K', K' v s f → takeRes dst fz K' r := by
  have two : ∀ r : AV, (∀ K : AV → Option Arr → List Nat → Prop, takeRes dst fz K r = if r.flatB then K r none [] else K r none fz) → takeRes dst fz K r →
      ∃ v s f, K v s f ∧ ∀ K', K' v s f → takeRes dst fz K' r := by
    intro r e h
    rw [e] at h
    by_cases hb : r.flatB = true
    · rw [if_pos hb] at h
      exact ⟨_, _, _, h, fun K' hk => by rw [e, if_pos hb]; exact hk⟩
    · rw [if_neg hb] at h
      exact ⟨_, _, _, h, fun K' hk => by rw [e, if_neg hb]; exact hk⟩
  cases r with
  | own z ty l => exact ⟨_, _, _, h, fun K' hk => hk⟩
  | _ => exact two _ (fun _ => rfl) h

/-- operations that make memory, and calls, too -/
theorem evalM_det {C : FuncId → List AV → AV → Prop} {dst : Nat} {hid : List Nat} {σ : St} {K : AV → Option Arr → List Nat → Prop} : ∀ {io : IOp}, evalM C dst hid σ K io →
    ∃ v s fz, K v s fz ∧ (io.pure = true → s = none) ∧ ∀ σ' K', Alike io hid σ σ' → K' v s fz → evalM C dst hid σ' K' io := by
  intro io h
  have pureCase : io.pure = true → ∃ v s fz, K v s fz ∧ (io.pure = true → s = none) ∧ ∀ σ' K', Alike io hid σ σ' → K' v s fz → evalM C dst hid σ' K' io := by
    intro hp
    obtain ⟨v, fz, h1, h2⟩ := evalV_det (evalM_pure hp h)
    refine ⟨v, none, fz, h1, fun _ => rfl, fun σ' K' hA hk => ?_⟩
    have := h2 σ' (fun v fz => K' v none fz) hA hk
    cases io <;> first | exact this | cases hp
  cases io with
  | alloc z ty zero => 
    obtain ⟨a1, a2, a3, h⟩ := h
    exact ⟨_, _, _, h, (fun e => by cases e), fun σ' K' hA hk => ⟨a1, a2, a3, hk⟩⟩
  | box z ty x =>
    simp only [evalM] at h
    split at h
    · rename_i d fz e1
      obtain ⟨a1, a2, a3, h⟩ := h
      refine ⟨_, _, _, h, (fun e => by cases e), fun σ' K' hA hk => ?_⟩
      simp only [evalM]
      rw [hA.get x (by simp [IOp.opds]), byval_det hA.obj e1]
      exact ⟨a1, a2, a3, hk⟩
    · exact h.elim
  | mknil z ty => exact ⟨_, _, _, h.2, (fun e => by cases e), fun σ' K' hA hk => ⟨h.1, hk⟩⟩
  | bsl z ty xs =>
    simp only [evalM] at h
    split at h
    · rename_i ds fz e1
      obtain ⟨a1, a2, h⟩ := h
      refine ⟨_, _, _, h, (fun e => by cases e), fun σ' K' hA hk => ?_⟩
      simp only [evalM]
      rw [map_get hA (fun x hx => by simpa [IOp.opds] using hx), byvals_det hA.obj e1]
      exact ⟨a1, a2, hk⟩
    · exact h.elim
  | callv f xs =>
    simp only [evalM] at h
    split at h
    · rename_i g first caps e1
      split at h
      · rename_i ds fz e2
        obtain ⟨r, hC, h⟩ := h
        obtain ⟨v, s, f', h1, h2⟩ := takeRes_det h
        refine ⟨v, s, f', h1, (fun e => by cases e), fun σ' K' hA hk => ?_⟩
        simp only [evalM]
        rw [hA.get f (by simp [IOp.opds]), e1, map_get hA (l := xs) (fun x hx => by simp [IOp.opds, hx]), byvals_det hA.obj e2]
        exact ⟨r, hC, h2 K' hk⟩
      · exact h.elim
    · exact h.elim
  | call p xs =>
    simp only [evalM] at h
    split at h
    · rename_i ds fz e2
      obtain ⟨hC, h⟩ := h
      obtain ⟨v, s, f', h1, h2⟩ := takeRes_det h
      refine ⟨v, s, f', h1, (fun e => by cases e), fun σ' K' hA hk => ?_⟩
      simp only [evalM]
      rw [map_get hA (l := xs) (fun x hx => by simp [IOp.opds, hx]), byvals_det hA.obj e2]
      exact ⟨hC, h2 K' hk⟩
    · exact h.elim
  | _ => exact pureCase rfl
end Go.Proofs.YtkdbphhekpdmhaaDoor
