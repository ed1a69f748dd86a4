/-
  The plain machine, fifteenth part: code, functions.
-/
import Derived.Test.YtkdbphhekpdmhaaDoorAmN
namespace Go.Proofs.YtkdbphhekpdmhaaDoor
open Go.RowKit
set_option linter.unusedVariables false
set_option linter.unusedSimpArgs false

/-- what an end of the model's is here -/
inductive SameX : Exit → XK → Prop
  | normal : SameX .normal .normal
  | exit (id : Nat) : SameX (.exit id) (.exit id)
  | ret : SameX .ret .ret

def Post (w0 : Start) (Pr0 : Nat → Nat → Prop) (n : Nat) (Q : XK → St → Prop) : Exit → Act → World → Prop :=
  fun e a w => ∃ x μ σ, SameX e x ∧ Q x σ ∧ SR w0 Pr0 n μ σ a w

theorem iter_mono {F : (XK → St → Prop) → St → Prop} (hF : ∀ (Q Q' : XK → St → Prop), (∀ e σ, Q e σ → Q' e σ) → ∀ σ, F Q σ → F Q' σ) {Q Q' : XK → St → Prop} (h : ∀ e σ, Q e σ → Q' e σ) : ∀ n σ, iter F Q n σ → iter F Q' n σ
  | 0, _, h => h.elim
  | n + 1, σ, hi => by
    refine hF _ _ (fun e σ hq => ?_) σ hi
    cases e with
    | normal => exact iter_mono hF h n σ hq
    | exit id => exact h _ _ hq
    | ret => exact h _ _ hq

theorem evalT_mono {σ : St} {dst : Option Nat} {K K' : St → Prop} (h : ∀ σ, K σ → K' σ) {io : IOp} (hE : evalT σ dst K io) : evalT σ dst K' io := by
  cases io with
  | store z p x =>
    simp only [evalT] at hE ⊢
    split at hE
    · split at hE
      · split at hE
        · split at hE
          · obtain ⟨a1, a2, a3, a4, hK⟩ := hE
            exact ⟨a1, a2, a3, a4, h _ hK⟩
          · exact hE.elim
        · exact hE.elim
      · exact hE.elim
    · exact hE.elim
  | append z ty bytes x y =>
    simp only [evalT] at hE ⊢
    split at hE
    · split at hE
      · obtain ⟨a0, a1, a2, a3, a4, a5, hK⟩ := hE
        exact ⟨a0, a1, a2, a3, a4, a5, h _ hK⟩
      · exact hE.elim
    · exact hE.elim
  | nileq neq x =>
    simp only [evalT] at hE ⊢
    split at hE
    · exact ⟨fun e => h _ (hE.1 e), h _ hE.2⟩
    · exact ⟨hE.1, fun e => h _ (hE.2.1 e), h _ hE.2.2⟩
    · exact hE.elim
  | _ => exact hE.elim

theorem evalM_mono {C : FuncId → List AV → AV → Prop} {dst : Nat} {hid : List Nat} {σ : St} {K K' : AV → Option Arr → List Nat → Prop} (h : ∀ v s f, K v s f → K' v s f) {io : IOp} (hE : evalM C dst hid σ K io) : evalM C dst hid σ K' io := by
  obtain ⟨v, s, fz, h1, _, h2⟩ := evalM_det hE
  exact h2 σ K' (Alike.refl _ _ _) (h _ _ _ h1)

theorem guardV_mono {σ : St} {g : Option (Nat × Bool)} {y y' n n' : St → Prop} (hy : ∀ σ, y σ → y' σ) (hn : ∀ σ, n σ → n' σ) (h : guardV σ g y n) : guardV σ g y' n' := by
  unfold guardV at h ⊢
  cases g with
  | none => exact hy _ h
  | some g =>
    obtain ⟨t, w⟩ := g
    simp only at h ⊢
    split at h
    · exact ⟨fun e => hy _ (h.1 e), fun e => hn _ (h.2 e)⟩
    · exact hn _ h
    · exact h.elim

theorem evalOps_mono {C : FuncId → List AV → AV → Prop} {K K' : St → Prop} (h : ∀ σ, K σ → K' σ) : ∀ {l : List ROp} {σ : St}, evalOps C l σ K → evalOps C l σ K'
  | [], _, hE => h _ hE
  | r :: l, σ, hE => by
    simp only [evalOps] at hE ⊢
    refine guardV_mono (fun σ hs => ?_) (fun σ hs => evalOps_mono h hs) hE
    unfold stepV at hs ⊢
    split at hs
    · rename_i hm; rw [if_pos hm]; exact evalT_mono (fun σ => evalOps_mono h) hs
    · rename_i hm
      rw [if_neg hm]
      cases hd : r.dst with
      | none => rw [hd] at hs; exact hs.elim
      | some dst => rw [hd] at hs; exact evalM_mono (fun v s f hk => ⟨hk.1, evalOps_mono h hk.2⟩) hs

theorem evalS_mono {F0 hid wr : List Nat} {σ : St} {K K' : Nat → Arr → Prop} (h : ∀ r a, K r a → K' r a) {io : IOp} (hE : evalS F0 hid wr σ K io) : evalS F0 hid wr σ K' io := by
  cases io with
  | store z p x =>
    simp only [evalS] at hE ⊢
    split at hE
    · obtain ⟨a1, a2, a3, hE⟩ := hE
      refine ⟨a1, a2, a3, ?_⟩
      split at hE
      · obtain ⟨a4, hE⟩ := hE
        refine ⟨a4, ?_⟩
        split at hE
        · split at hE
          · exact ⟨hE.1, hE.2.1, hE.2.2.1, hE.2.2.2.1, h _ _ hE.2.2.2.2⟩
          · exact hE.elim
        · exact hE.elim
      · exact hE.elim
    · exact hE.elim
  | _ => exact hE.elim

theorem evalHead_mono {C : FuncId → List AV → AV → Prop} {F0 : List Nat} {K K' : St → Prop} (h : ∀ σ, K σ → K' σ) : ∀ {l : List ROp} {σ : St}, evalHead C F0 l σ K → evalHead C F0 l σ K'
  | [], _, hE => h _ hE
  | r :: l, σ, hE => by
    simp only [evalHead] at hE ⊢
    refine guardV_mono (fun σ hs => ?_) (fun σ hs => ?_) hE
    · cases hd : r.dst with
      | none => rw [hd] at hs; exact evalS_mono (fun r a hk => evalHead_mono h hk) hs
      | some dst => rw [hd] at hs; exact evalM_mono (fun v s f hk => ⟨hk.1, hk.2.1, evalHead_mono h hk.2.2⟩) hs
    · cases hd : r.dst with
      | none => rw [hd] at hs; exact evalHead_mono h hs
      | some dst => rw [hd] at hs; exact evalHead_mono h hs

theorem evalX_mono {P : Program} {C : FuncId → List AV → AV → Prop} {K K' : St → Prop} (h : ∀ σ, K σ → K' σ) {x : XOp} {σ : St} (hE : evalX P C x σ K) : evalX P C x σ K' := by
  cases x with
  | op k r => exact evalOps_mono h hE
  | nilck d x g =>
    simp only [evalX] at hE ⊢
    refine guardV_mono (fun σ hs => ?_) (fun σ hs => h _ hs) hE
    unfold nilckV at hs ⊢
    split at hs
    · exact ⟨hs.1, h _ hs.2⟩
    · exact h _ hs
    · exact hs.elim
  | mkclo d f x =>
    simp only [evalX] at hE ⊢
    split at hE
    · exact ⟨hE.1, h _ hE.2⟩
    · exact hE.elim
  | mcall d fx xs =>
    simp only [evalX] at hE ⊢
    split at hE
    · split at hE
      · obtain ⟨r, H', h1, h2⟩ := hE
        exact ⟨r, H', h1, h _ h2⟩
      · obtain ⟨h0, r, H', h1, h2⟩ := hE
        exact ⟨h0, r, H', h1, h _ h2⟩
      · exact hE.elim
    · exact hE.elim
theorem evalXs_mono {P : Program} {C : FuncId → List AV → AV → Prop} {K K' : St → Prop} (h : ∀ σ, K σ → K' σ) : ∀ {l : List XOp} {σ : St}, evalXs P C l σ K → evalXs P C l σ K'
  | [], _, hE => h _ hE
  | x :: l, σ, hE => evalX_mono (fun σ => evalXs_mono h) hE

theorem awp_mono {C : FuncId → List AV → AV → Prop} : ∀ (c : IR) {Q Q' : XK → St → Prop}, (∀ e σ, Q e σ → Q' e σ) → ∀ σ, awp C c Q σ → awp C c Q' σ
  | .skip, Q, Q', h, σ, hE => h _ _ hE
  | .reg g, Q, Q', h, σ, hE => by
    simp only [awp, evalReg] at hE ⊢
    split at hE
    · rename_i hd; rw [if_pos hd]; exact evalHead_mono (fun σ => evalOps_mono (h .normal)) hE
    · rename_i hd; rw [if_neg hd]; exact evalOps_mono (h .normal) hE
  | .regx P l, Q, Q', h, σ, hE => evalXs_mono (h .normal) hE
  | .seq x y, Q, Q', h, σ, hE => by
    simp only [awp] at hE ⊢
    refine awp_mono x (fun e σ hq => ?_) σ hE
    cases e with
    | normal => exact awp_mono y h σ hq
    | exit id => exact h _ _ hq
    | ret => exact h _ _ hq
  | .cond c x y, Q, Q', h, σ, hE => by
    simp only [awp] at hE ⊢
    split at hE
    · exact ⟨fun e => awp_mono x h σ (hE.1 e), fun e => awp_mono y h σ (hE.2 e)⟩
    · exact hE.elim
  | .block id b, Q, Q', h, σ, hE => by
    simp only [awp] at hE ⊢
    refine awp_mono b (fun e σ hq => ?_) σ hE
    cases e with
    | normal => exact h _ _ hq
    | exit j =>
      simp only [blockQ] at hq ⊢
      split at hq
      · rename_i e; rw [if_pos e]; exact h _ _ hq
      · rename_i e; rw [if_neg e]; exact h _ _ hq
    | ret => exact h _ _ hq
  | .loop b, Q, Q', h, σ, hE => by
    simp only [awp] at hE ⊢
    obtain ⟨k, hk⟩ := hE
    exact ⟨k, iter_mono (fun Q Q' h' => awp_mono b h') h k σ hk⟩
  | .exit id, Q, Q', h, σ, hE => h _ _ hE
  | .ret, Q, Q', h, σ, hE => h _ _ hE

section
variable {P : Program} {w0 : Start} {Pr0 : Nat → Nat → Prop} {n : Nat}

/-- CODE -/
theorem code_sound (hm : P.follows .mixedOrders = true) {hint : Nat → List Nat} : ∀ (c : Code) {ir : IR}, comp P n hint c = some ir → ∀ {Q : XK → St → Prop} {μ : Nat → Option Nat} {σ : St} {a : Act} {w : World}, SR w0 Pr0 n μ σ a w → awp (AFn P) ir Q σ → c.wp P (Post w0 Pr0 n Q) a w
  | .skip, ir, hc, Q, μ, σ, a, w, hS, hE => by
    cases hc
    exact wp_skip ⟨.normal, μ, σ, .normal, hE, hS⟩
  | .region id ops draw, ir, hc, Q, μ, σ, a, w, hS, hE => by
    simp only [comp] at hc
    split at hc
    · rename_i hd
      obtain ⟨l, hl, rfl⟩ := Option.map_eq_some_iff.1 hc
      have hdraw : draw = false := by
        cases draw with
        | false => rfl
        | true => simp at hd
      subst hdraw
      exact regx_sound hl hS hE (fun μ' σ' a' w' hk hS' => ⟨.normal, μ', σ', .normal, hk, hS'⟩)
    · obtain ⟨g, hg, rfl⟩ := Option.map_eq_some_iff.1 hc
      exact reg_sound hm hg hS hE (fun μ' σ' a' w' hk hS' => ⟨.normal, μ', σ', .normal, hk, hS'⟩)
  | .seq x y, ir, hc, Q, μ, σ, a, w, hS, hE => by
    simp only [comp] at hc
    split at hc
    · rename_i ix iy hx hy
      cases hc
      refine wp_seq (wp_mono (code_sound hm x hx hS hE) ?_)
      rintro e a' w' ⟨k, μ', σ', hs, hq, hS'⟩
      cases hs with
      | normal => exact code_sound hm y hy hS' hq
      | exit id => exact ⟨_, μ', σ', .exit id, hq, hS'⟩
      | ret => exact ⟨_, μ', σ', .ret, hq, hS'⟩
    · cases hc
  | .cond c x y, ir, hc, Q, μ, σ, a, w, hS, hE => by
    simp only [comp] at hc
    split at hc
    · rename_i ic ix iy h1 hx hy
      cases hc
      simp only [awp] at hE
      have tc := hS.get h1
      split at hE
      · rename_i b e
        rw [e] at tc
        cases b with
        | true => exact wp_cond_true tc.bool (code_sound hm x hx hS (hE.1 rfl))
        | false => exact wp_cond_false tc.bool (code_sound hm y hy hS (hE.2 rfl))
      · exact hE.elim
    · cases hc
  | .block id b, ir, hc, Q, μ, σ, a, w, hS, hE => by
    simp only [comp, Option.map_eq_some_iff] at hc
    obtain ⟨ib, hb, rfl⟩ := hc
    refine wp_block (wp_mono (code_sound hm b hb hS hE) ?_)
    rintro e a' w' ⟨k, μ', σ', hs, hq, hS'⟩
    cases hs with
    | normal => exact ⟨_, μ', σ', .normal, hq, hS'⟩
    | exit j =>
      simp only [blockQ] at hq
      by_cases e : j = id
      · subst e
        rw [if_pos rfl] at hq
        simp only [Exit.inBlock, if_true]
        exact ⟨_, μ', σ', .normal, hq, hS'⟩
      · rw [if_neg e] at hq
        simp only [Exit.inBlock, if_neg e]
        exact ⟨_, μ', σ', .exit j, hq, hS'⟩
    | ret => exact ⟨_, μ', σ', .ret, hq, hS'⟩
  | .loop b, ir, hc, Q, μ, σ, a, w, hS, hE => by
    simp only [comp, Option.map_eq_some_iff] at hc
    obtain ⟨ib, hb, rfl⟩ := hc
    simp only [awp] at hE
    obtain ⟨k, hk⟩ := hE
    refine wp_loop_rounds k ?_
    have key : ∀ (k : Nat) {μ : Nat → Option Nat} {σ : St} {a : Act} {w : World}, SR w0 Pr0 n μ σ a w → iter (awp (AFn P) ib) Q k σ → Code.rounds P b (Post w0 Pr0 n Q) k a w := by
      intro k
      induction k with
      | zero => intro μ σ a w _ h; exact h.elim
      | succ k ih =>
        intro μ σ a w hS hi
        rw [rounds_succ]
        refine wp_mono (code_sound hm b hb hS hi) ?_
        rintro e a' w' ⟨x, μ', σ', hs, hq, hS'⟩
        cases hs with
        | normal => exact ih hS' hq
        | exit j => exact ⟨_, μ', σ', .exit j, hq, hS'⟩
        | ret => exact ⟨_, μ', σ', .ret, hq, hS'⟩
    exact key k hS hk
  | .exit id, ir, hc, Q, μ, σ, a, w, hS, hE => by
    cases hc
    exact wp_exit ⟨_, μ, σ, .exit id, hE, hS⟩
  | .ret, ir, hc, Q, μ, σ, a, w, hS, hE => by
    cases hc
    exact wp_ret ⟨_, μ, σ, .ret, hE, hS⟩
  | .rangeFunc .., ir, hc, Q, μ, σ, a, w, hS, hE => by cases hc
  | .scope .., ir, hc, Q, μ, σ, a, w, hS, hE => by cases hc
  | .label .., ir, hc, Q, μ, σ, a, w, hS, hE => by cases hc
  | .goto .., ir, hc, Q, μ, σ, a, w, hS, hE => by cases hc
  | .refuse .., ir, hc, Q, μ, σ, a, w, hS, hE => by cases hc

end

/-! ### Functions -/

inductive RDesc where
  | tmp (t : Nat)
  | cell (p z : Nat) (agg : Bool)

def compRes (P : Program) : List ResultVar → Option (List RDesc)
  | [] => some []
  | .tmp t :: l => (compRes P l).map (.tmp t :: ·)
  | .cell p t :: l => match tyOf P t, compRes P l with
    | some (z, agg), some l => if agg || z == 1 then some (.cell p z agg :: l) else none
    | _, _ => none

/-- a result by itself -/
def resV (σ : St) (d : RDesc) (K : AV → List Nat → Prop) : Prop :=
  match d with
  | .tmp t => match σ.byval [] (σ.T t) with
    | some (v, fz) => K v fz
    | none => False
  | .cell p z agg => evalV [] σ K (.load z agg (.t p))

def resVs (σ : St) : List RDesc → (List AV → List Nat → Prop) → Prop
  | [], K => K [] []
  | d :: l, K => resV σ d fun v f => resVs σ l fun vs fs => K (v :: vs) (f ++ fs)

/-- what is handed back -/
def retV (ds : List RDesc) (r : AV) (σ : St) : Prop :=
  match ds with
  | [.tmp t] => (match r with
    | .own z ty l => (match σ.T t with
      | .rs x 0 len => (match σ.H x with
        | some arr => arr.prot = 0 ∧ arr.z = z ∧ arr.ty = ty ∧ len = arr.cells.length ∧ l = arr.cells
        | none => False)
      | _ => False)
    | r => resV σ (.tmp t) fun v _ => r = v)
  | [d] => (match r with
    | .own .. => False
    | r => resV σ d fun v _ => r = v)
  | ds => resVs σ ds fun vs _ => r = .tup vs

def initSt (args : List AV) : St := ⟨fun t => args.getD t .und, fun _ => none⟩

/-- what leads to a function's end -/
def endQ (ds : List RDesc) (r : AV) : XK → St → Prop
  | .ret, σ => retV ds r σ
  | .normal, σ => retV ds r σ
  | .exit _, _ => False

/-- a function, ready to be walked -/
structure FnIR (P : Program) (f : FuncId) where
  n : Nat
  body : IR
  res : List RDesc

structure FnIR.Ok (P : Program) (f : FuncId) (F : FnIR P f) : Prop where
  ok : funcOk P f = true
  body : ∃ fn c hint, P.funcs[f]? = some fn ∧ fn.body = some c ∧ fn.ntmps = F.n ∧ comp P F.n hint c = some F.body ∧ compRes P fn.results.toList = some F.res

section
variable {P : Program} {w0 : Start} {Pr0 : Nat → Nat → Prop} {n : Nat} {μ : Nat → Option Nat} {σ : St} {a : Act} {w : World}

theorem frozenKept (h : SR w0 Pr0 n μ σ a w) {σ' : St} {f : List Nat} (hf : ∀ s arr, σ.H s = some arr → ∃ arr', σ'.H s = some arr' ∧ Frozen arr arr' ∧ (s ∈ f → arr'.prot = arr.cells.length)) : Kept (PrOf w0 Pr0 μ σ.H) (PrOf w0 Pr0 μ σ'.H) w w := by
  refine ⟨Nat.le_refl _, fun b o _ hp => ⟨hp.1, fun s hs => ?_⟩, fun _ _ _ _ => rfl, fun _ _ _ _ _ h => h⟩
  obtain ⟨arr, q1, q2⟩ := hp.2 s hs
  obtain ⟨arr', p1, p2, _⟩ := hf s arr q1
  refine ⟨arr', p1, ?_⟩
  rw [p2.z]
  rcases p2.prot with e | e <;> rw [e]
  · exact q2
  · exact Nat.lt_of_lt_of_le q2 (Nat.mul_le_mul_right _ (h.obj s arr q1).2.1)

def resOne (tmps : Array Value) : ResultVar → Sem Value
  | .tmp t => pure (tmps.getD t undef)
  | .cell p t => do loadVar t (← asAddr (tmps.getD p undef))

/-- a result, in the model -/
theorem resV_sound {rv : ResultVar} {d : RDesc} (hd : ∃ l, compRes P [rv] = some (d :: l)) (h : SR w0 Pr0 n μ σ a w) {K : AV → List Nat → Prop} (hE : resV σ d K) :
    ∃ v fz u, K v fz ∧ (resOne a.tmps rv).run P w = .ok u w ∧ ∀ σ', SR w0 Pr0 n μ σ' a w → (∀ s arr, σ.H s = some arr → ∃ arr', σ'.H s = some arr' ∧ Frozen arr arr' ∧ (s ∈ fz → arr'.prot = arr.cells.length)) → VR (PrOf w0 Pr0 μ σ'.H) w v u := by
  obtain ⟨l, hd⟩ := hd
  cases rv with
  | tmp t =>
    simp only [compRes, Option.map_some, Option.some.injEq, List.cons.injEq] at hd
    obtain ⟨rfl, _⟩ := hd
    simp only [resV] at hE
    split at hE
    · rename_i v fz hbv
      exact ⟨v, fz, _, hE, rfl, fun σ' hS' hf => h.byval hbv (h.tmp t) hS' hf⟩
    · exact hE.elim
  | cell p t =>
    simp only [compRes] at hd
    split at hd
    · rename_i z agg l' ht hl
      split at hd
      · rename_i hz
        simp only [Option.some.injEq, List.cons.injEq] at hd
        obtain ⟨rfl, _⟩ := hd
        simp only [resV] at hE
        obtain ⟨v, u, ad, hK, had, hrun, hv⟩ := load_core (P := P) (x := .tmp p) (ix := .t p) ht hz rfl h hE
        have hev : a.eval (.tmp p) = a.tmps.getD p undef := by simp [Act.eval, Array.getD_eq_getD_getElem?]
        rw [hev] at had hrun
        rw [had] at hrun
        refine ⟨v, [], u, hK, ?_, fun σ' hS' hf => hv.kept (frozenKept h hf)⟩
        simp only [resOne, Sem.run_bind, had, asAddr, Sem.run_pure, Result.andThen_ok]
        simpa [Instr.loadAt, Instr.sureAddr] using hrun
      · cases hd
    · cases hd

theorem compRes_cons {rv : ResultVar} {l : List ResultVar} {ds : List RDesc} (h : compRes P (rv :: l) = some ds) : ∃ d ds', ds = d :: ds' ∧ compRes P [rv] = some [d] ∧ compRes P l = some ds' := by
  cases rv with
  | tmp t =>
    simp only [compRes, Option.map_eq_some_iff] at h
    obtain ⟨ds', h1, rfl⟩ := h
    exact ⟨_, ds', rfl, rfl, h1⟩
  | cell p t =>
    simp only [compRes] at h ⊢
    split at h
    · rename_i z agg l' h1 h2
      split at h
      · rename_i hz
        cases h
        refine ⟨.cell p z agg, l', rfl, ?_, h2⟩
        rw [h1]; simp only; rw [if_pos hz]
      · cases h
    · cases h

/-- all results -/
theorem resVs_sound (h : SR w0 Pr0 n μ σ a w) : ∀ {l : List ResultVar} {ds : List RDesc}, compRes P l = some ds → ∀ {K : List AV → List Nat → Prop}, resVs σ ds K →
    ∃ (vs : List AV) (fs : List Nat) (us : List Value), K vs fs ∧ vs.length = us.length ∧ l.length = us.length ∧ (∀ (j : Nat) (rv : ResultVar) (u : Value), l[j]? = some rv → us[j]? = some u → (resOne a.tmps rv).run P w = .ok u w) ∧
      ∀ σ', SR w0 Pr0 n μ σ' a w → (∀ s arr, σ.H s = some arr → ∃ arr', σ'.H s = some arr' ∧ Frozen arr arr' ∧ (s ∈ fs → arr'.prot = arr.cells.length)) → ∀ (j : Nat) (v : AV) (u : Value), vs[j]? = some v → us[j]? = some u → VR (PrOf w0 Pr0 μ σ'.H) w v u
  | [], ds, hc, K, hE => by
    cases hc
    exact ⟨[], [], [], hE, rfl, rfl, (fun j rv u hj => by simp at hj), (fun σ' _ _ j v u hj => by simp at hj)⟩
  | rv :: l, ds, hc, K, hE => by
    obtain ⟨d, ds', rfl, h1, h2⟩ := compRes_cons hc
    simp only [resVs] at hE
    obtain ⟨v, fz, u, hK, hrun, hv⟩ := resV_sound ⟨[], h1⟩ h hE
    obtain ⟨vs, fs, us, hK2, hl, hl2, hrun2, hvs⟩ := resVs_sound h h2 hK
    refine ⟨v :: vs, fz ++ fs, u :: us, hK2, by simp [hl], by simp [hl2], fun j rv' u' hj hu => ?_, fun σ' hS' hf j v' u' hj hu => ?_⟩
    · cases j with
      | zero => cases hj; cases hu; exact hrun
      | succ j => exact hrun2 j rv' u' (by simpa using hj) (by simpa using hu)
    · cases j with
      | zero =>
        cases hj; cases hu
        exact hv σ' hS' (fun s arr hs => let ⟨a', q1, q2, q3⟩ := hf s arr hs; ⟨a', q1, q2, fun hm => q3 (List.mem_append.2 (.inl hm))⟩)
      | succ j => exact hvs σ' hS' (fun s arr hs => let ⟨a', q1, q2, q3⟩ := hf s arr hs; ⟨a', q1, q2, fun hm => q3 (List.mem_append.2 (.inr hm))⟩) j v' u' (by simpa using hj) (by simpa using hu)

def oneOrAll : List Value → Value
  | [u] => u
  | us => .tuple us.toArray

theorem run_results {fn : Func} {rv : List ResultVar} {us : List Value} {tmps : Array Value} (hr : fn.results.toList = rv) (hlen : rv.length ≤ 3) (hl : rv.length = us.length) (h : ∀ (j : Nat) (r : ResultVar) (u : Value), rv[j]? = some r → us[j]? = some u → (resOne tmps r).run P w = .ok u w) :
    (results fn tmps).run P w = .ok (oneOrAll us) w := by
  have hres : fn.results = rv.toArray := by apply Array.ext'; simpa using hr
  have e : results fn tmps = (do
      let vs ← fn.results.mapM (resOne tmps)
      pure (if h : vs.size = 1 then vs[0] else .tuple vs)) := rfl
  rw [e, hres]
  clear e hres hr
  match rv, us, hlen, hl, h with
  | [], [], _, _, h => simp [oneOrAll]
  | [r1], [u1], _, _, h =>
    have h1 := h 0 r1 u1 rfl rfl
    simp [h1, oneOrAll]
  | [r1, r2], [u1, u2], _, _, h =>
    have h1 := h 0 r1 u1 rfl rfl
    have h2 := h 1 r2 u2 rfl rfl
    simp [h1, h2, oneOrAll]
  | [r1, r2, r3], [u1, u2, u3], _, _, h =>
    have h1 := h 0 r1 u1 rfl rfl
    have h2 := h 1 r2 u2 rfl rfl
    have h3 := h 2 r3 u3 rfl rfl
    simp [h1, h2, h3, oneOrAll]

theorem kept_res (h : SR w0 Pr0 n μ σ a w) : Kept (PrOf w0 Pr0 μ σ.H) (fun b o => Pr0 b o ∨ w0.w.heap.size ≤ b) w w := by
  refine ⟨Nat.le_refl _, fun b o _ hp => ?_, fun _ _ _ _ => rfl, fun _ _ _ _ _ h => h⟩
  rcases Nat.lt_or_ge b w0.w.heap.size with h1 | h1
  · exact .inl (hp.1 h1)
  · exact .inr h1

/-- THE END OF A FUNCTION -/
theorem ret_sound {fn : Func} {ds : List RDesc} (hc : compRes P fn.results.toList = some ds) (hlen : fn.results.size ≤ 3) (h : SR w0 Pr0 n μ σ a w) {r : AV} (hE : retV ds r σ) :
    ∃ v, (results fn a.tmps).run P w = .ok v w ∧ Below w0.w.heap.size w0.w w ∧ RR (fun b o => Pr0 b o ∨ w0.w.heap.size ≤ b) w0.w.heap.size w r v := by
  obtain ⟨rv, hrv⟩ : ∃ rv, fn.results.toList = rv := ⟨_, rfl⟩
  rw [hrv] at hc
  have hlen' : rv.length ≤ 3 := by rw [← hrv]; simpa using hlen
  -- one result, by itself
  have one : ∀ {d : RDesc}, ds = [d] → (∀ z ty l, r ≠ .own z ty l) → resV σ d (fun v _ => r = v) → ∃ v, (results fn a.tmps).run P w = .ok v w ∧ Below w0.w.heap.size w0.w w ∧ RR (fun b o => Pr0 b o ∨ w0.w.heap.size ≤ b) w0.w.heap.size w r v := by
    intro d hd hno hE1
    clear hE
    subst hd
    match rv, hc with
    | [r1], hc =>
      obtain ⟨v, fz, u, hK, hrun, hv⟩ := resV_sound ⟨[], hc⟩ h hE1
      subst hK
      have hS' : SR w0 Pr0 n μ (σ.fzs fz) a w := SR.fzs h
      have hV := (hv _ hS' fzs_all).kept (kept_res hS')
      refine ⟨u, ?_, h.below, ?_⟩
      · have := run_results (P := P) (w := w) (us := [u]) (tmps := a.tmps) hrv (by simp) rfl (fun j r u' hj hu => by
          cases j with
          | zero => cases hj; cases hu; exact hrun
          | succ j => simp at hj)
        simpa [oneOrAll] using this
      · cases r with
        | own z ty l => exact absurd rfl (hno z ty l)
        | _ => exact hV
    | [], hc => cases hc
    | r1 :: r2 :: l, hc =>
      obtain ⟨d1, ds', e, _, h2⟩ := compRes_cons hc
      obtain ⟨d2, ds2, e2, _, _⟩ := compRes_cons h2
      subst e2; cases e
  unfold retV at hE
  split at hE
  · rename_i t
    split at hE
    · rename_i z ty l
      split at hE
      · rename_i x len e
        split at hE
        · rename_i arr ha
          obtain ⟨e1, e2, e3, e4, e5⟩ := hE
          subst e2; subst e3; subst e5; subst e4
          match rv, hc with
          | [r1], hc =>
            have hr1 : r1 = .tmp t := by
              cases r1 with
              | tmp t' => simp only [compRes, Option.map_some, Option.some.injEq, List.cons.injEq, RDesc.tmp.injEq] at hc; rw [hc.1]
              | cell p t' =>
                simp only [compRes] at hc
                split at hc
                · split at hc
                  · cases hc
                  · cases hc
                · cases hc
            subst hr1
            have hres := run_results (P := P) (w := w) (us := [a.tmps.getD t undef]) (tmps := a.tmps) hrv (by simp) rfl (fun j r u' hj hu => by
              cases j with
              | zero => cases hj; cases hu; rfl
              | succ j => simp at hj)
            have ht := h.tmp t
            rw [e] at ht
            obtain ⟨o1, o2, o3, o4⟩ := h.obj x arr ha
            refine ⟨a.tmps.getD t undef, by simpa [oneOrAll] using hres, h.below, o1, o3, ?_⟩
            rcases ht arr ha with ⟨m1, m2, m3, m4⟩ | ⟨g, cap, cs, m1, m2, m3, m4, m5, m6, m7⟩
            · exact .inl ⟨List.length_eq_zero_iff.1 m4, m2⟩
            · rw [m1] at o4
              rcases o4 with ⟨_, ms, c, q⟩ | ⟨cs', f1, f2, f3⟩
              · rw [m3] at q; cases q
              rw [m3] at f1; cases f1
              refine .inr ⟨g, cap, cs, by rw [m2]; simp, (h.range x g m1).1, m3, by rw [Nat.zero_add] at m4; exact m4, m6, m7, fun i d j c hi hj => ?_⟩
              obtain ⟨u, q1, q2⟩ := f3 i d j c hi hj
              refine ⟨u, q1, q2.kept ⟨Nat.le_refl _, fun b o hlt hp => ⟨?_, fun eb => ?_⟩, fun _ _ _ _ => rfl, fun _ _ _ _ _ h => h⟩⟩
              · exact (kept_res h).pr b o hlt hp
              · subst eb
                obtain ⟨ar, p1, p2⟩ := hp.2 x m1
                rw [ha] at p1; cases p1
                rw [e1, Nat.zero_mul] at p2; omega
          | [], hc => cases hc
          | r1 :: r2 :: l, hc =>
            obtain ⟨d1, ds', e, _, h2⟩ := compRes_cons hc
            obtain ⟨d2, ds2, e2, _, _⟩ := compRes_cons h2
            subst e2; cases e
        · exact hE.elim
      · exact hE.elim
    · rename_i hno2
      exact one rfl (fun z ty l q => hno2 z ty l q) hE
  · rename_i d hnt
    split at hE
    · exact hE.elim
    · rename_i hno
      exact one rfl (fun z ty l q => hno z ty l q) hE
  · rename_i hn1 hn2
    obtain ⟨vs, fs, us, hK, hl1, hl2, hrun, hv⟩ := resVs_sound h hc hE
    subst hK
    have hS' : SR w0 Pr0 n μ (σ.fzs fs) a w := SR.fzs h
    have hres := run_results (P := P) (w := w) (us := us) (tmps := a.tmps) hrv hlen' hl2 hrun
    have hnot1 : us.length ≠ 1 := by
      intro e
      rw [← hl2] at e
      match rv, hc, e with
      | [r1], hc, _ =>
        obtain ⟨d1, ds', e1, _, h2⟩ := compRes_cons hc
        cases h2
        exact hn2 d1 e1
    have htup : oneOrAll us = .tuple us.toArray := by
      match us, hnot1 with
      | [], _ => rfl
      | _ :: _ :: _, _ => rfl
    rw [htup] at hres
    exact ⟨_, hres, h.below, .tup vs us hl1 fun j c v hc' hv' => (hv _ hS' fzs_all j c v hc' hv').kept (kept_res hS')⟩

/-- A FUNCTION -/
theorem AFn.of_code (hm : P.follows .mixedOrders = true) {f : FuncId} {fn : Func} {c : Code} {ir : IR} {ds : List RDesc} {hint : Nat → List Nat} (hok : funcOk P f = true) (hf : P.funcs[f]? = some fn) (hb : fn.body = some c) (hc : comp P fn.ntmps hint c = some ir)
    (hr : compRes P fn.results.toList = some ds) (hlen : fn.results.size ≤ 3) {args : List AV} (hargs : args.length ≤ fn.ntmps) (hsm : fn.ntmps ≤ 1000) {r : AV} (h : awp (AFn P) ir (endQ ds r) (initSt args)) : AFn P f args r := by
  refine ⟨hok, fun w Pr vs hG hPr hl hvs => calls_of_wp hf hb ?_⟩
  have hS : SR ⟨w, fun _ _ => False⟩ Pr fn.ntmps (fun _ => none) (initSt args) { tmps := vs.toArray ++ Array.replicate (fn.ntmps - vs.toArray.size) undef, defers := [] } w := by
    refine ⟨Below.refl _ _, (fun r r' g e => by cases e), (fun r g e => by cases e), (fun r g e => by cases e), by simp; omega, fun t => ?_, (fun r arr e => by cases e), rfl, hG, hsm, (fun d v hf => hf.elim)⟩
    show TR _ _ _ _ (args.getD t .und) _
    cases ha : args[t]? with
    | none =>
      have : args.getD t .und = .und := by rw [List.getD_eq_getElem?_getD, ha]; rfl
      rw [this]; trivial
    | some d =>
      have htl := (List.getElem?_eq_some_iff.1 ha).1
      have hv : vs[t]? = some (vs[t]'(by omega)) := List.getElem?_eq_getElem _
      have e1 : args.getD t .und = d := by rw [List.getD_eq_getElem?_getD, ha]; rfl
      have e2 : (vs.toArray ++ Array.replicate (fn.ntmps - vs.toArray.size) undef).getD t undef = vs[t]'(by omega) := by
        rw [Array.getD_eq_getD_getElem?, Array.getElem?_append_left (by simp; omega)]
        simp [hv]
      rw [e1, e2]
      exact TR.of_VR ((hvs t d _ ha hv).kept ⟨Nat.le_refl _, fun b o hlt hp => ⟨fun _ => hp, fun r e => by cases e⟩, fun _ _ _ _ => rfl, fun _ _ _ _ _ h => h⟩)
  refine wp_mono (code_sound hm c hc hS h) ?_
  rintro e a' w' ⟨x, μ', σ', hs, hq, hS'⟩
  cases hs with
  | normal =>
    obtain ⟨v, h1, h2, h3⟩ := ret_sound hr hlen hS' hq
    exact ⟨hS'.defers, v, h1, v, rfl, h2, h3⟩
  | ret =>
    obtain ⟨v, h1, h2, h3⟩ := ret_sound hr hlen hS' hq
    exact ⟨hS'.defers, v, h1, v, rfl, h2, h3⟩
  | exit id => exact hq.elim

/-! ### Functions that write through pointers -/
def sh : AV → AV
  | .ptr r i f => .ptr (r + 1000) i f
  | .rs r o l => .rs (r + 1000) o l
  | .clom f r => .clom f (r + 1000)
  | .mp r es => .mp (r + 1000) es
  | d => d
def shH (H : Nat → Option Arr) (r : Nat) : Option Arr := if r < 1000 then none else H (r - 1000)
def initM (args : List AV) (H : Nat → Option Arr) : St := ⟨fun t => sh (args.getD t .und), shH H⟩
def retM (ds : List RDesc) (r : AV) (H' : Nat → Option Arr) (σ : St) : Prop :=
  match ds with
  | [d] => resV σ d fun v fz => r = v ∧ ∀ q, (σ.fzs fz).H (q + 1000) = H' q
  | ds => resVs σ ds fun vs fz => r = .tup vs ∧ ∀ q, (σ.fzs fz).H (q + 1000) = H' q
def endM (ds : List RDesc) (r : AV) (H' : Nat → Option Arr) : XK → St → Prop
  | .ret, σ => retM ds r H' σ
  | .normal, σ => retM ds r H' σ
  | .exit _, _ => False

theorem sh_TR {Pr : Nat → Nat → Prop} {μ μ' : Nat → Option Nat} {H H' : Nat → Option Arr} {w : World} (hμ : ∀ r, μ' (r + 1000) = μ r) (hH : ∀ r, H' (r + 1000) = H r) {d : AV} {v : Value} : TR Pr μ' H' w (sh d) v ↔ TR Pr μ H w d v := by
  cases d with
  | ptr r i f => simp only [sh, TR, hμ, hH]
  | rs r o l => simp only [sh, TR, hμ, hH]
  | clom f r => simp only [sh, TR, hμ, hH]
  | mp r es => simp only [sh, TR, hμ, hH]
  | _ => exact Iff.rfl
theorem sh_name {d : AV} {r : Nat} (h : (sh d).name = some r) : 1000 ≤ r := by
  cases d with
  | ptr s i f => simp only [sh, AV.name, Option.some.injEq] at h; omega
  | rs s o l => simp only [sh, AV.name, Option.some.injEq] at h; omega
  | clom f s => simp only [sh, AV.name, Option.some.injEq] at h; omega
  | mp s es => simp only [sh, AV.name, Option.some.injEq] at h; omega
  | _ => cases h

theorem TR.kept' {Pr Pr' : Nat → Nat → Prop} {μ : Nat → Option Nat} {H : Nat → Option Arr} {w : World} (k : Kept Pr Pr' w w) {d : AV} {v : Value} (h : TR Pr μ H w d v) : TR Pr' μ H w d v :=
  h.kept k (fun r g _ cs ty hc => ⟨cs, hc, rfl⟩) (fun r g _ ms c hc => hc)

theorem MFn.of_code (hm : P.follows .mixedOrders = true) {f : FuncId} {fn : Func} {c : Code} {ir : IR} {ds : List RDesc} {hint : Nat → List Nat} (hok : funcOk P f = true) (hf : P.funcs[f]? = some fn) (hb : fn.body = some c) (hc : comp P fn.ntmps hint c = some ir)
    (hr : compRes P fn.results.toList = some ds) (hlen : fn.results.size ≤ 3) {args : List AV} (hargs : args.length ≤ fn.ntmps) (hsm : fn.ntmps ≤ 1000) {r : AV} {H H' : Nat → Option Arr} (h : awp (AFn P) ir (endM ds r H') (initM args H)) : MFn P f args H r H' := by
  refine ⟨hok, fun w0 Pr0 n μ T a w vs hS0 hl hvs => calls_of_wp hf hb ?_⟩
  obtain ⟨μc, hμc⟩ : ∃ μc : Nat → Option Nat, μc = fun r => if r < 1000 then none else μ (r - 1000) := ⟨_, rfl⟩
  have hμ1 : ∀ r, μc (r + 1000) = μ r := fun r => by rw [hμc]; simp only []; rw [if_neg (by omega), Nat.add_sub_cancel]
  have hμ0 : ∀ r, r < 1000 → μc r = none := fun r hr => by rw [hμc]; exact if_pos hr
  have hH1 : ∀ r, shH H (r + 1000) = H r := fun r => by unfold shH; rw [if_neg (by omega), Nat.add_sub_cancel]
  have hH0 : ∀ r, r < 1000 → shH H r = none := fun r hr => if_pos hr
  have big : ∀ {r g}, μc r = some g → ∃ q, r = q + 1000 ∧ μ q = some g := fun {r g} e => by
    rcases Nat.lt_or_ge r 1000 with h1 | h1
    · rw [hμ0 r h1] at e; cases e
    · refine ⟨r - 1000, by omega, ?_⟩
      rw [← hμ1, show r - 1000 + 1000 = r by omega]; exact e
  obtain ⟨w1, hw1⟩ : ∃ w1 : Start, w1 = ⟨w0.w, fun d v => (∃ t, d = sh (T t) ∧ v = a.tmps.getD t undef) ∨ ∃ d0, d = sh d0 ∧ w0.F d0 v⟩ := ⟨_, rfl⟩
  have hw1w : w1.w = w0.w := by rw [hw1]
  have hPr : PrOf w1 Pr0 μc (shH H) = PrOf w0 Pr0 μ H := by
    funext b o
    unfold PrOf
    rw [hw1w]
    apply propext
    refine and_congr_right fun _ => ⟨fun hp r hr => ?_, fun hp r hr => ?_⟩
    · obtain ⟨arr, e1, e2⟩ := hp (r + 1000) (by rw [hμ1]; exact hr)
      rw [hH1] at e1
      exact ⟨arr, e1, e2⟩
    · obtain ⟨q, rfl, hq⟩ := big hr
      obtain ⟨arr, e1, e2⟩ := hp q hq
      exact ⟨arr, by rw [hH1]; exact e1, e2⟩
  have hS : SR w1 Pr0 fn.ntmps μc (initM args H) { tmps := vs.toArray ++ Array.replicate (fn.ntmps - vs.toArray.size) undef, defers := [] } w := by
    refine ⟨by rw [hw1w]; exact hS0.below, fun r r' g e1 e2 => ?_, fun r g e => ?_, fun r g e => ?_, by simp; omega, fun t => ?_, fun r arr e => ?_, rfl, by rw [hw1w]; exact hS0.glob, hsm, fun d v hf => ?_⟩
    · obtain ⟨q, rfl, hq⟩ := big e1
      obtain ⟨q', rfl, hq'⟩ := big e2
      rw [hS0.inj q q' g hq hq']
    · obtain ⟨q, rfl, hq⟩ := big e
      rw [hw1w]; exact hS0.range q g hq
    · obtain ⟨q, rfl, hq⟩ := big e
      have e0 : (initM args H).H = shH H := rfl
      rw [e0, hH1]; exact hS0.live q g hq
    · show TR (PrOf w1 Pr0 μc (shH H)) μc (shH H) w (sh (args.getD t .und)) _
      rw [hPr, sh_TR hμ1 hH1]
      cases ha : args[t]? with
      | none =>
        have : args.getD t .und = .und := by rw [List.getD_eq_getElem?_getD, ha]; rfl
        rw [this]; trivial
      | some d =>
        have htl := (List.getElem?_eq_some_iff.1 ha).1
        have hv : vs[t]? = some (vs[t]'(by omega)) := List.getElem?_eq_getElem _
        have e1 : args.getD t .und = d := by rw [List.getD_eq_getElem?_getD, ha]; rfl
        have e2 : (vs.toArray ++ Array.replicate (fn.ntmps - vs.toArray.size) undef).getD t undef = vs[t]'(by omega) := by
          rw [Array.getD_eq_getD_getElem?, Array.getElem?_append_left (by simp; omega)]
          simp [hv]
        rw [e1, e2]
        exact hvs t d _ ha hv
    · have e' : shH H r = some arr := e
      rcases Nat.lt_or_ge r 1000 with h1 | h1
      · rw [hH0 r h1] at e'; cases e'
      · obtain ⟨q, rfl⟩ : ∃ q, r = q + 1000 := ⟨r - 1000, by omega⟩
        rw [hH1] at e'
        obtain ⟨o1, o2, o3, o4⟩ := hS0.obj q arr e'
        refine ⟨o1, o2, o3, ?_⟩
        show match μc (q + 1000) with | none => _ | some g => _
        rw [hμ1]
        show match μ q with | none => arr.cells = [] | some g => (arr.cells = [] ∧ ∃ ms c, w.heap[g]? = some (.map ms c)) ∨ ∃ cs, w.heap[g]? = some (.cells cs arr.ty (0, 0)) ∧ arr.cells.length * arr.z ≤ cs.size ∧ ∀ (i : Nat) (d : AV) (j : Nat) (c : AV), arr.cells[i]? = some d → d.cells[j]? = some c → ∃ u, cs[i * arr.z + j]? = some u ∧ VR (PrOf w1 Pr0 μc (shH H)) w c u
        rw [hPr]
        exact o4
    · rw [hw1] at hf
      show _ ∧ TR (PrOf w1 Pr0 μc (shH H)) μc (shH H) w d v
      rw [hPr]
      rcases hf with ⟨t, rfl, rfl⟩ | ⟨d0, rfl, hf⟩
      · exact ⟨fun r hr => sh_name hr, (sh_TR hμ1 hH1).2 (hS0.tmp t)⟩
      · exact ⟨fun r hr => sh_name hr, (sh_TR hμ1 hH1).2 (hS0.frame d0 v hf).2⟩
  refine wp_mono (code_sound hm c hc hS h) ?_
  -- back to the caller
  have back : ∀ {μe : Nat → Option Nat} {σe : St} {ae : Act} {we : World}, SR w1 Pr0 fn.ntmps μe σe ae we → (∀ q, σe.H (q + 1000) = H' q) →
      SR w0 Pr0 n (fun q => μe (q + 1000)) ⟨T, H'⟩ a we ∧ Kept (PrOf w1 Pr0 μe σe.H) (PrOf w0 Pr0 (fun q => μe (q + 1000)) H') we we := by
    intro μe σe ae we hE hH'
    have k : Kept (PrOf w1 Pr0 μe σe.H) (PrOf w0 Pr0 (fun q => μe (q + 1000)) H') we we := by
      refine ⟨Nat.le_refl _, fun b o _ hp => ⟨by rw [← hw1w]; exact hp.1, fun r hr => ?_⟩, fun _ _ _ _ => rfl, fun _ _ _ _ _ h => h⟩
      obtain ⟨arr, e1, e2⟩ := hp.2 (r + 1000) hr
      rw [hH'] at e1
      exact ⟨arr, e1, e2⟩
    have tr : ∀ {d : AV} {v : Value}, TR (PrOf w1 Pr0 μe σe.H) μe σe.H we (sh d) v → TR (PrOf w0 Pr0 (fun q => μe (q + 1000)) H') (fun q => μe (q + 1000)) H' we d v := fun ht =>
      TR.kept' k ((sh_TR (fun _ => rfl) hH').1 ht)
    refine ⟨⟨by rw [← hw1w]; exact hE.below, fun r r' g e1 e2 => ?_, fun r g e => by rw [← hw1w]; exact hE.range (r + 1000) g e, fun r g e => ?_, hS0.size, fun t => ?_, fun r arr e => ?_, hS0.defers, hS0.glob, hS0.small, fun d v hf => ⟨(hS0.frame d v hf).1, ?_⟩⟩, k⟩
    · have := hE.inj (r + 1000) (r' + 1000) g e1 e2
      omega
    · show (H' r).isSome
      rw [← hH']; exact hE.live (r + 1000) g e
    · exact tr (hE.frame (sh (T t)) (a.tmps.getD t undef) (by rw [hw1]; exact .inl ⟨t, rfl, rfl⟩)).2
    · obtain ⟨o1, o2, o3, o4⟩ := hE.obj (r + 1000) arr (by rw [hH']; exact e)
      refine ⟨o1, o2, o3, ?_⟩
      show match μe (r + 1000) with | none => _ | some g => _
      cases hr : μe (r + 1000) with
      | none => rw [hr] at o4; exact o4
      | some g =>
        rw [hr] at o4
        rcases o4 with o4 | ⟨cs, p1, p2, p3⟩
        · exact .inl o4
        exact .inr ⟨cs, p1, p2, fun i d j c hi hj => let ⟨u, m1, m2⟩ := p3 i d j c hi hj; ⟨u, m1, m2.kept k⟩⟩
    · exact tr (hE.frame (sh d) v (by rw [hw1]; exact .inr ⟨d, rfl, hf⟩)).2
  have fin : ∀ {μe : Nat → Option Nat} {σe : St} {ae : Act} {we : World}, SR w1 Pr0 fn.ntmps μe σe ae we → retM ds r H' σe →
      ∃ v, (results fn ae.tmps).run P we = .ok v we ∧ ∃ μ', SR w0 Pr0 n μ' ⟨T, H'⟩ a we ∧ VR (PrOf w0 Pr0 μ' H') we r v := by
    intro μe σe ae we hE hret
    obtain ⟨rv, hrv⟩ : ∃ rv, fn.results.toList = rv := ⟨_, rfl⟩
    rw [hrv] at hr
    have hlen' : rv.length ≤ 3 := by rw [← hrv]; simpa using hlen
    unfold retM at hret
    split at hret
    · rename_i d
      match rv, hr with
      | [r1], hr =>
        obtain ⟨v, fz, u, ⟨hK, hq⟩, hrun, hv⟩ := resV_sound ⟨[], hr⟩ hE hret
        subst hK
        have hS' : SR w1 Pr0 fn.ntmps μe (σe.fzs fz) ae we := SR.fzs hE
        obtain ⟨b1, b2⟩ := back hS' hq
        refine ⟨u, ?_, _, b1, (hv _ hS' fzs_all).kept b2⟩
        have := run_results (P := P) (w := we) (us := [u]) (tmps := ae.tmps) hrv (by simp) rfl (fun j r u' hj hu => by
          cases j with
          | zero => cases hj; cases hu; exact hrun
          | succ j => simp at hj)
        simpa [oneOrAll] using this
      | [], hr => cases hr
      | r1 :: r2 :: l, hr =>
        obtain ⟨d1, ds', e, _, h2⟩ := compRes_cons hr
        obtain ⟨d2, ds2, e2, _, _⟩ := compRes_cons h2
        subst e2; cases e
    · rename_i hn1
      obtain ⟨vs', fs, us, ⟨hK, hq⟩, hl1, hl2, hrun, hv⟩ := resVs_sound hE hr hret
      subst hK
      have hS' : SR w1 Pr0 fn.ntmps μe (σe.fzs fs) ae we := SR.fzs hE
      obtain ⟨b1, b2⟩ := back hS' hq
      have hres := run_results (P := P) (w := we) (us := us) (tmps := ae.tmps) hrv hlen' hl2 hrun
      have hnot1 : us.length ≠ 1 := by
        intro e
        rw [← hl2] at e
        match rv, hr, e with
        | [r1], hr, _ =>
          obtain ⟨d1, ds', e1, _, h2⟩ := compRes_cons hr
          cases h2
          exact hn1 d1 e1
      have htup : oneOrAll us = .tuple us.toArray := by
        match us, hnot1 with
        | [], _ => rfl
        | _ :: _ :: _, _ => rfl
      rw [htup] at hres
      exact ⟨_, hres, _, b1, .tup vs' us hl1 fun j c v hc' hv' => (hv _ hS' fzs_all j c v hc' hv').kept b2⟩
  rintro e a' w' ⟨x, μ', σ', hs, hq, hS'⟩
  cases hs with
  | normal =>
    obtain ⟨v, h1, μ2, h2, h3⟩ := fin hS' hq
    exact ⟨hS'.defers, v, h1, v, μ2, rfl, h2, h3⟩
  | ret =>
    obtain ⟨v, h1, μ2, h2, h3⟩ := fin hS' hq
    exact ⟨hS'.defers, v, h1, v, μ2, rfl, h2, h3⟩
  | exit id => exact hq.elim
end
end Go.Proofs.YtkdbphhekpdmhaaDoor
