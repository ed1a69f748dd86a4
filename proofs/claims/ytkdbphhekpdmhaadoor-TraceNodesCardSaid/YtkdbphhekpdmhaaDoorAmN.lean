/-
  The plain machine, fourteenth part: regions, code and functions.
-/
import Derived.Test.YtkdbphhekpdmhaaDoorAmX
import Derived.LoopN
namespace Go.Proofs.YtkdbphhekpdmhaaDoor
open Go.RowKit
set_option linter.unusedVariables false
set_option linter.unusedSimpArgs false

structure Reg where
  head : List ROp
  tail : List ROp
  kills : List Nat
  fzT : List Nat
  draw : Bool

def evalReg (C : FuncId → List AV → AV → Prop) (g : Reg) (σ : St) (K : St → Prop) : Prop :=
  if g.draw then
    evalHead C (g.fzT.filterMap fun t => ((σ.kills g.kills).T t).name) g.head ((σ.kills g.kills).fzs (g.fzT.filterMap fun t => ((σ.kills g.kills).T t).name)) fun σ => evalOps C g.tail σ K
  else evalOps C g.tail (σ.kills g.kills) K

inductive IR where
  | skip
  | reg (g : Reg)
  | regx (P : Program) (l : List XOp)
  | seq (x y : IR)
  | cond (c : IOpd) (x y : IR)
  | block (id : Nat) (b : IR)
  | loop (b : IR)
  | exit (id : Nat)
  | ret

inductive XK where
  | normal
  | exit (id : Nat)
  | ret

def thenQ (K : St → Prop) (Q : XK → St → Prop) : XK → St → Prop
  | .normal, σ => K σ
  | e, σ => Q e σ
def blockQ (id : Nat) (Q : XK → St → Prop) : XK → St → Prop
  | .exit j, σ => if j = id then Q .normal σ else Q (.exit j) σ
  | e, σ => Q e σ

def iter (F : (XK → St → Prop) → St → Prop) (Q : XK → St → Prop) : Nat → St → Prop
  | 0, _ => False
  | n + 1, σ => F (thenQ (iter F Q n) Q) σ

def awp (C : FuncId → List AV → AV → Prop) : IR → (XK → St → Prop) → St → Prop
  | .skip, Q, σ => Q .normal σ
  | .reg g, Q, σ => evalReg C g σ (Q .normal)
  | .regx P l, Q, σ => evalXs P C l σ (Q .normal)
  | .seq x y, Q, σ => awp C x (thenQ (awp C y Q) Q) σ
  | .cond c x y, Q, σ => match σ.get c with
    | .bool b => (b = true → awp C x Q σ) ∧ (b = false → awp C y Q σ)
    | _ => False
  | .block id b, Q, σ => awp C b (blockQ id Q) σ
  | .loop b, Q, σ => ∃ k, iter (awp C b) Q k σ
  | .exit id, Q, σ => Q (.exit id) σ
  | .ret, Q, σ => Q .ret σ

/-! ### Out of the model's code -/

def compR (P : Program) (n : Nat) (ops : Array Oper) (o : Oper) : Option ROp :=
  match compIO P o with
  | some io => if o.dst.all (· < n) then match o.guard with
      | none => some ⟨io, o.dst, none, [], []⟩
      | some (j, w) => match (ops[j]?).bind (·.dst) with
        | some t => if t < n then some ⟨io, o.dst, some (t, w), [], []⟩ else none
        | none => none
    else none
  | none => none

def makers (rs : List ROp) : List (Nat × Nat) := rs.zipIdx.filterMap fun p => if p.1.io.pure then none else p.1.dst.map fun d => (p.2, d)

def hidLaterB : List ROp → Bool
  | [] => true
  | o :: l => (l.all fun r => r.io.pure || match r.dst with
      | some d => o.hid.contains d && o.dst != some d
      | none => true) && hidLaterB l

def opdTmps (l : List IOpd) : List Nat := l.filterMap fun | .t t => some t | .c _ => none

def ordB (tab : List (List Nat)) (k i : Nat) : Bool := ((tab.getD i []).contains k && decide (k < i)) || ((tab.getD k []).contains i && decide (i < k))

def drawOkB (ops : Array Oper) (rs : List ROp) (m : Nat) : Bool :=
  let tab := depTab ops.toList
  let hd := (rs.take m).zipIdx
  rs.length == ops.size && decide (m ≤ rs.length) &&
  (ops.toList.zipIdx.all fun p => (direct p.1).all fun j => decide (j < p.2)) &&
  (hd.all fun p => hd.all fun q => p.2 == q.2 || p.1.dst != q.1.dst || p.1.dst.isNone) &&
  (hd.all fun p => hd.all fun q => match q.1.dst with
    | some t => q.2 == p.2 || !((opdTmps p.1.io.opds).contains t || (match p.1.guard with | some (g, _) => g == t | none => false)) || ordB tab q.2 p.2
    | none => true) &&
  (hd.all fun p => rs.zipIdx.all fun q => q.2 == p.2 || q.1.wrs.all fun x => p.1.hid.contains x || ((tab.getD p.2 []).contains q.2 && decide (q.2 < p.2)) || (q.1.dst.isNone && (tab.getD q.2 []).contains p.2 && decide (p.2 < q.2))) &&
  (hd.all fun p => (rs.zipIdx.drop m).all fun q => q.1.io.pure || match q.1.dst with
    | some d => !p.1.wrs.contains d
    | none => true) &&
  ((List.range ops.size).all fun k => decide (k < m) || (List.range k).all fun j => (tab.getD k []).contains j) &&
  hidLaterB (rs.drop m) &&
  (hd.all fun p => hd.all fun q => q.2 == p.2 || p.1.wrs.all fun x => !q.1.wrs.contains x || ((tab.getD q.2 []).contains p.2 && decide (p.2 < q.2)) || ((tab.getD p.2 []).contains q.2 && decide (q.2 < p.2) && p.1.dst.isNone))

def setHid (rs : List ROp) (f : Nat → List Nat) : List ROp := rs.zipIdx.map fun p => { p.1 with hid := f p.2 }

/-- the slot that a pointer comes from -/
def rootOf (rs : List ROp) : Nat → Nat → Nat
  | 0, t => t
  | d + 1, t => match rs.find? (fun r => r.dst == some t) with
    | some r => match r.io with
      | .faddr _ (.t s) | .iaddr _ (.t s) _ | .mv (.t s) => rootOf rs d s
      | _ => t
    | none => t

def setWr (rs : List ROp) : List ROp := rs.map fun r => match r.io with
  | .store _ (.t p) _ => { r with wr := [rootOf rs 6 p] }
  | _ => r

/-- where the tail begins -/
def tailAt (tab : List (List Nat)) (n : Nat) : Nat := n - ((List.range n).reverse.takeWhile fun k => (List.range k).all fun j => (tab.getD k []).contains j).length

def compReg (P : Program) (n : Nat) (fzT : List Nat) (ops : Array Oper) (draw : Bool) : Option Reg :=
  match ops.toList.mapM (compR P n ops) with
  | none => none
  | some rs0 =>
    let mk := makers rs0
    if draw then
      let tab := depTab ops.toList
      let m := tailAt tab ops.size
      let rs1 := setWr rs0
      let rs := setHid rs1 fun i => (mk.filterMap fun p => if p.1 = i then none else if i < m then (if (tab.getD i []).contains p.1 then none else some p.2) else (if i < p.1 then some p.2 else none)) ++
        (if i < m then (rs1.take m).zipIdx.flatMap fun p => if p.2 = i then [] else if ordB tab p.2 i then [] else p.1.wr else [])
      if drawOkB ops rs m then some ⟨rs.take m, rs.drop m, mk.map (·.2), fzT, true⟩ else none
    else
      let rs := setHid rs0 fun i => mk.filterMap fun p => if i < p.1 then some p.2 else none
      if hidLaterB rs then some ⟨[], rs, mk.map (·.2), [], false⟩ else none

def isTmpX : Operand → Bool | .tmp _ => true | _ => false
def anyPtr (P : Program) (ts : Array TypeId) : Bool := ts.any fun t => match P.underlying t with | some (.pointer _) => true | _ => false
def compG (n : Nat) (ops : Array Oper) : Option (Nat × Bool) → Option (Option (Nat × Bool))
  | none => some none
  | some (j, w) => match (ops[j]?).bind (·.dst) with
    | some t => if t < n then some (some (t, w)) else none
    | none => none
/-- an operation of a region with pointers handed on -/
def compX (P : Program) (n : Nat) (ops : Array Oper) (o : Oper) : Option XOp :=
  let other := (compR P n ops o).map fun r => .op (killOf r) r
  match o.op, o.dst, o.guard.isNone with
  | .nilCheck x, some d, _ => if d < n then match compOpd x, compG n ops o.guard with
      | some ix, some gd => some (.nilck d ix gd)
      | _, _ => none
    else none
  | .makeFunc (.func f) first caps, some d, true => match first.toList, caps.toList with
    | [], [x] => if d < n then (compOpd x).map (.mkclo d f) else none
    | _, _ => other
  | .call c, some d, true => match c.callee with
    | .value f => if anyPtr P c.argTypes || isTmpX f then
        (if d < n then match compOpd f, compOpds c.args.toList with
          | some fx, some xs => some (.mcall d fx xs)
          | _, _ => none
        else none) else other
    | _ => other
  | _, _, _ => other

def needsX (P : Program) (n : Nat) (ops : Array Oper) : Bool := ops.any fun o => (compR P n ops o).isNone || (match o.op with
  | .call c => match c.callee with
    | .value _ => anyPtr P c.argTypes
    | _ => false
  | _ => false)

def comp (P : Program) (n : Nat) (hint : Nat → List Nat) : Code → Option IR
  | .skip => some .skip
  | .region id ops draw => if !draw && (!(hint id).isEmpty || needsX P n ops) then (ops.toList.mapM (compX P n ops)).map (.regx P) else (compReg P n (hint id) ops draw).map .reg
  | .seq a b => match comp P n hint a, comp P n hint b with
    | some x, some y => some (.seq x y)
    | _, _ => none
  | .cond c a b => match compOpd c, comp P n hint a, comp P n hint b with
    | some c, some x, some y => some (.cond c x y)
    | _, _, _ => none
  | .block id b => (comp P n hint b).map (.block id)
  | .loop b => (comp P n hint b).map .loop
  | .exit id => some (.exit id)
  | .ret => some .ret
  | _ => none

theorem all_zip {α : Type} {l : List α} {p : α × Nat → Bool} (h : l.zipIdx.all p = true) {i : Nat} {x : α} (hx : l[i]? = some x) : p (x, i) = true := by
  rw [List.all_eq_true] at h
  refine h (x, i) ?_
  rw [List.mem_iff_getElem?]
  exact ⟨i, by rw [List.getElem?_zipIdx, hx]; simp⟩

theorem hidLater_of : ∀ {l : List ROp}, hidLaterB l = true → hidLater l
  | [], _ => trivial
  | o :: l, h => by
    simp only [hidLaterB, Bool.and_eq_true] at h
    refine ⟨fun r hr hp d hd => ?_, hidLater_of h.2⟩
    have := List.all_eq_true.1 h.1 r hr
    rw [hp, hd] at this
    simpa using this

theorem ordB_ok {tab : List (List Nat)} {k i : Nat} (h : ordB tab k i = true) : Ord tab k i := by
  unfold ordB at h
  simp only [Bool.or_eq_true, Bool.and_eq_true, decide_eq_true_eq, List.contains_iff_mem] at h
  exact h

theorem drawOk_of {ops : Array Oper} {rs : List ROp} {m : Nat} (h : drawOkB ops rs m = true) : DrawOk ops rs m := by
  unfold drawOkB at h
  simp only [Bool.and_eq_true, beq_iff_eq, decide_eq_true_eq] at h
  obtain ⟨⟨⟨⟨⟨⟨⟨⟨⟨h1, h2⟩, h3⟩, h4⟩, h5⟩, h6⟩, h7⟩, h8⟩, h9⟩, h10⟩ := h
  have ht : ∀ {i : Nat} {r : ROp}, i < m → rs[i]? = some r → (rs.take m)[i]? = some r := fun hi hr => by rw [List.getElem?_take, if_pos hi]; exact hr
  have five : ∀ {i : Nat} {r : ROp} {t k : Nat} {r' : ROp}, i < m → rs[i]? = some r → k < m → rs[k]? = some r' → r'.dst = some t → k ≠ i →
      ((opdTmps r.io.opds).contains t || (match r.guard with | some (g, _) => g == t | none => false)) = true → Ord (depTab ops.toList) k i := by
    intro i r t k r' hi hr hk hr' hd hne hc
    have := all_zip (all_zip h5 (ht hi hr)) (ht hk hr')
    simp only [hd] at this
    rw [hc] at this
    simp only [Bool.not_true, Bool.or_false, Bool.or_eq_true, beq_iff_eq] at this
    rcases this with h | h
    · exact absurd h hne
    · exact ordB_ok h
  refine ⟨h1, h2, fun i o ho j hj => ?_, fun i j r r' d hi hj hd hd' => ?_, fun i r t k r' hi hr hx hk hr' hd hne => ?_, fun i r t b k r' hi hr hg hk hr' hd hne => ?_, fun i r k r' x hi hr hr' hne hx => ?_, fun i r k r' x hi hr hk hr' hne hx hx' => ?_, fun i r k r' d hi hr hk hr' hp hd e => ?_, fun k hk hks j hj => ?_, hidLater_of h9⟩
  · have := all_zip h3 (i := i) (x := o) (by rw [Array.getElem?_toList]; exact ho)
    have := List.all_eq_true.1 this j hj
    simpa using this
  · have := all_zip (all_zip h4 hi) hj
    simp only [hd, hd'] at this
    simpa using this
  · refine five hi hr hk hr' hd hne ?_
    have : t ∈ opdTmps r.io.opds := List.mem_filterMap.2 ⟨.t t, hx, rfl⟩
    simp [this]
  · refine five hi hr hk hr' hd hne ?_
    simp [hg]
  · have := all_zip (all_zip h6 (ht hi hr)) hr'
    simp only [Bool.or_eq_true, beq_iff_eq] at this
    rcases this with h | h
    · exact absurd h hne
    · have := List.all_eq_true.1 h x hx
      simp only [Bool.or_eq_true, Bool.and_eq_true, decide_eq_true_eq, List.contains_iff_mem, Option.isNone_iff_eq_none] at this
      rcases this with (h | h) | ⟨⟨a, b⟩, c⟩
      · exact .inl (by simpa using h)
      · exact .inr (.inl h)
      · exact .inr (.inr ⟨a, b, c⟩)
  · have := all_zip (all_zip h10 (ht hi hr)) (ht hk hr')
    simp only [Bool.or_eq_true, beq_iff_eq] at this
    rcases this with h | h
    · exact absurd h hne
    · have := List.all_eq_true.1 h x hx
      simp only [Bool.or_eq_true, Bool.and_eq_true, decide_eq_true_eq, List.contains_iff_mem, Option.isNone_iff_eq_none, Bool.not_eq_true'] at this
      rcases this with (h | h) | ⟨⟨a, b⟩, c⟩
      · rw [List.contains_iff_mem.2 hx'] at h; cases h
      · exact .inl h
      · exact .inr ⟨a, b, c⟩
  · have h7' := all_zip h7 (ht hi hr)
    rw [List.all_eq_true] at h7'
    have := h7' (r', k) (by
      rw [List.mem_iff_getElem?]
      refine ⟨k - m, ?_⟩
      rw [List.getElem?_drop, show m + (k - m) = k by omega, List.getElem?_zipIdx, hr']; simp)
    simp only [hp, hd, Bool.false_or, Bool.not_eq_true'] at this
    rw [List.contains_iff_mem.2 e] at this; cases this
  · have := List.all_eq_true.1 h8 k (by simpa using hks)
    simp only [Bool.or_eq_true, decide_eq_true_eq] at this
    rcases this with h | h
    · omega
    · have := List.all_eq_true.1 h j (by simpa using hj)
      simpa using this

theorem compR_isOp {P : Program} {n : Nat} {ops : Array Oper} {o : Oper} {r : ROp} (h : compR P n ops o = some r) (hid wr : List Nat) : IsOp P ops n o { r with hid := hid, wr := wr } := by
  unfold compR at h
  split at h
  · rename_i io hio
    split at h
    · rename_i hd
      have hd' : ∀ d, o.dst = some d → d < n := fun d e => by rw [e] at hd; simpa using hd
      split at h
      · rename_i hg
        cases h
        exact ⟨hio, rfl, hd', by rw [hg]⟩
      · rename_i j w hg
        split at h
        · rename_i t ht
          split at h
          · rename_i hlt
            cases h
            exact ⟨hio, rfl, hd', by rw [hg]; exact ⟨t, ht, hlt, rfl⟩⟩
          · cases h
        · cases h
    · cases h
  · cases h

theorem mapM_get {α β : Type} {f : α → Option β} : ∀ {l : List α} {m : List β}, l.mapM f = some m → l.length = m.length ∧ ∀ (i : Nat) (b : β), m[i]? = some b → ∃ a, l[i]? = some a ∧ f a = some b
  | [], m, h => by
    simp at h; subst h
    exact ⟨rfl, fun i b h => by simp at h⟩
  | a :: l, m, h => by
    rw [List.mapM_cons] at h
    simp only [Option.bind_eq_bind, Option.bind_eq_some_iff] at h
    obtain ⟨b, h1, bs, h2, h3⟩ := h
    cases h3
    obtain ⟨k1, k2⟩ := mapM_get h2
    refine ⟨by simp [k1], fun i b' hi => ?_⟩
    cases i with
    | zero => simp at hi; subst hi; exact ⟨a, rfl, h1⟩
    | succ i => exact k2 i b' hi

theorem setHid_get {rs : List ROp} {f : Nat → List Nat} {i : Nat} {r : ROp} (h : (setHid rs f)[i]? = some r) : ∃ r0, rs[i]? = some r0 ∧ r = { r0 with hid := f i } := by
  unfold setHid at h
  rw [List.getElem?_map, Option.map_eq_some_iff] at h
  obtain ⟨p, hp, rfl⟩ := h
  rw [List.getElem?_zipIdx, Option.map_eq_some_iff] at hp
  obtain ⟨r0, hr, rfl⟩ := hp
  exact ⟨r0, hr, by simp⟩

theorem mem_makers {rs : List ROp} {r : ROp} {d : Nat} (hr : r ∈ rs) (hp : r.io.pure = false) (hd : r.dst = some d) : d ∈ (makers rs).map (·.2) := by
  obtain ⟨i, hi⟩ := List.mem_iff_getElem?.1 hr
  refine List.mem_map.2 ⟨(i, d), List.mem_filterMap.2 ⟨(r, i), ?_, by simp [hp, hd]⟩, rfl⟩
  rw [List.mem_iff_getElem?]
  exact ⟨i, by rw [List.getElem?_zipIdx, hi]; simp⟩

section
variable {P : Program} {w0 : Start} {Pr0 : Nat → Nat → Prop} {n : Nat} {μ : Nat → Option Nat} {σ : St} {a : Act} {w : World}

theorem SR.kills : ∀ (l : List Nat) {μ : Nat → Option Nat} {σ : St}, (∀ r, r ∈ l → r < 1000) → SR w0 Pr0 n μ σ a w → ∃ μ', SR w0 Pr0 n μ' (σ.kills l) a w
  | [], μ, σ, _, h => ⟨μ, h⟩
  | r :: l, μ, σ, hl, h => SR.kills l (fun s hs => hl s (List.mem_cons_of_mem _ hs)) (h.kill r (hl r (List.mem_cons_self ..)))

/-- behind an end there is nothing of that name, and nothing leads there -/
def Gone (σ : St) (d : Nat) : Prop := σ.H d = none ∧ ∀ t, (σ.T t).name ≠ some d

theorem Gone.kill {σ : St} {d : Nat} (h : Gone σ d) (r : Nat) : Gone (σ.kill r) d := by
  refine ⟨?_, fun t => ?_⟩
  · show upd σ.H r none d = none
    by_cases e : d = r
    · subst e; exact upd_same _ _ _
    · rw [upd_ne _ _ e]; exact h.1
  · show (if (σ.T t).name = some r then AV.und else σ.T t).name ≠ some d
    split
    · intro e; cases e
    · exact h.2 t

theorem kill_gone (σ : St) (r : Nat) : Gone (σ.kill r) r := by
  refine ⟨upd_same _ _ _, fun t => ?_⟩
  show (if (σ.T t).name = some r then AV.und else σ.T t).name ≠ some r
  split
  · intro e; cases e
  · rename_i h; exact h

theorem Gone.kills : ∀ (l : List Nat) {σ : St} {d : Nat}, Gone σ d → Gone (σ.kills l) d
  | [], _, _, h => h
  | r :: l, _, _, h => Gone.kills l (h.kill r)

theorem kills_gone : ∀ (l : List Nat) {σ : St} {d : Nat}, d ∈ l → Gone (σ.kills l) d
  | r :: l, σ, d, h => by
    rcases List.mem_cons.1 h with e | e
    · subst e; exact Gone.kills l (kill_gone σ d)
    · exact kills_gone l e

theorem makers_setHid {rs : List ROp} {f : Nat → List Nat} {r : ROp} {d : Nat} (hr : r ∈ setHid rs f) (hp : r.io.pure = false) (hd : r.dst = some d) : d ∈ (makers rs).map (·.2) := by
  obtain ⟨i, hi⟩ := List.mem_iff_getElem?.1 hr
  obtain ⟨r0, h1, rfl⟩ := setHid_get hi
  exact mem_makers (List.mem_of_getElem? h1) hp hd

theorem setWr_get {rs : List ROp} {i : Nat} {r : ROp} (h : (setWr rs)[i]? = some r) : ∃ r0 wr, rs[i]? = some r0 ∧ r = { r0 with wr := wr } := by
  unfold setWr at h
  rw [List.getElem?_map, Option.map_eq_some_iff] at h
  obtain ⟨r0, h1, h2⟩ := h
  refine ⟨r0, r.wr, h1, ?_⟩
  split at h2 <;> (subst h2; rfl)

theorem makers_setWr {rs : List ROp} {r : ROp} {d : Nat} (hr : r ∈ setWr rs) (hp : r.io.pure = false) (hd : r.dst = some d) : ∃ r0, r0 ∈ rs ∧ r0.io.pure = false ∧ r0.dst = some d := by
  obtain ⟨i, hi⟩ := List.mem_iff_getElem?.1 hr
  obtain ⟨r0, wr, h1, rfl⟩ := setWr_get hi
  exact ⟨r0, List.mem_of_getElem? h1, hp, hd⟩

theorem makers_both {rs : List ROp} {f : Nat → List Nat} {r : ROp} {d : Nat} (hr : r ∈ setHid (setWr rs) f) (hp : r.io.pure = false) (hd : r.dst = some d) : d ∈ (makers rs).map (·.2) := by
  obtain ⟨i, hi⟩ := List.mem_iff_getElem?.1 hr
  obtain ⟨r0, h1, rfl⟩ := setHid_get hi
  obtain ⟨r1, h2, h3, h4⟩ := makers_setWr (List.mem_of_getElem? h1) hp hd
  exact mem_makers h2 h3 h4

theorem reg_sound {id : Nat} {ops : Array Oper} {draw : Bool} {fzT : List Nat} {g : Reg} {Q : Exit → Act → World → Prop} {K : St → Prop} (hm : P.follows .mixedOrders = true) (hc : compReg P n fzT ops draw = some g) (hS : SR w0 Pr0 n μ σ a w) (hE : evalReg (AFn P) g σ K)
    (hQ : ∀ μ σ' a w, K σ' → SR w0 Pr0 n μ σ' a w → Q .normal a w) : (Code.region id ops draw).wp P Q a w := by
  unfold compReg at hc
  split at hc
  · cases hc
  · rename_i rs0 hrs
    obtain ⟨l1, l2⟩ := mapM_get hrs
    have hio : ∀ (f : Nat → List Nat) (j : Nat) (r : ROp), (setHid rs0 f)[j]? = some r → ∃ o, ops[j]? = some o ∧ IsOp P ops n o r := by
      intro f j r hr
      obtain ⟨r0, h1, rfl⟩ := setHid_get hr
      obtain ⟨o, h2, h3⟩ := l2 j r0 h1
      exact ⟨o, by rw [← Array.getElem?_toList]; exact h2, compR_isOp h3 _ _⟩
    have hio2 : ∀ (f : Nat → List Nat) (j : Nat) (r : ROp), (setHid (setWr rs0) f)[j]? = some r → ∃ o, ops[j]? = some o ∧ IsOp P ops n o r := by
      intro f j r hr
      obtain ⟨r1, h1, rfl⟩ := setHid_get hr
      obtain ⟨r0, wr, h0, rfl⟩ := setWr_get h1
      obtain ⟨o, h2, h3⟩ := l2 j r0 h0
      exact ⟨o, by rw [← Array.getElem?_toList]; exact h2, compR_isOp h3 _ _⟩
    have hmk : ∀ d, d ∈ (makers rs0).map (·.2) → d < 1000 := by
      intro d hd
      obtain ⟨p, hp, rfl⟩ := List.mem_map.1 hd
      obtain ⟨q, hq, hq2⟩ := List.mem_filterMap.1 hp
      obtain ⟨i, hi⟩ := List.mem_iff_getElem?.1 hq
      rw [List.getElem?_zipIdx, Option.map_eq_some_iff] at hi
      obtain ⟨r0, hr0, rfl⟩ := hi
      obtain ⟨o, _, ho⟩ := l2 i r0 hr0
      have hI := compR_isOp ho [] []
      simp only at hq2
      split at hq2
      · cases hq2
      · obtain ⟨d', hd', rfl⟩ := Option.map_eq_some_iff.1 hq2
        exact Nat.lt_of_lt_of_le (hI.lt d' (by rw [← hI.dst]; exact hd')) hS.small
    have hFr : ∀ (f : Nat → List Nat) {σ' : St}, (∀ d, d ∈ (makers rs0).map (·.2) → Gone σ' d) → Fresh (setHid rs0 f) σ' := fun f σ' hg r hr hp d hd => hg d (makers_setHid hr hp hd)
    have hFr2 : ∀ (f : Nat → List Nat) {σ' : St}, (∀ d, d ∈ (makers rs0).map (·.2) → Gone σ' d) → Fresh (setHid (setWr rs0) f) σ' := fun f σ' hg r hr hp d hd => hg d (makers_both hr hp hd)
    cases draw with
    | true =>
      simp only [if_true] at hc
      split at hc
      · rename_i hok
        cases hc
        have hok' := drawOk_of hok
        unfold evalReg at hE
        simp only [if_true] at hE
        obtain ⟨μ1, hS1⟩ := SR.kills ((makers rs0).map (·.2)) hmk hS
        have hgone : ∀ d, d ∈ (makers rs0).map (·.2) → Gone (σ.kills ((makers rs0).map (·.2))) d := fun d hd => kills_gone _ hd
        generalize σ.kills ((makers rs0).map (·.2)) = σ1 at *
        generalize hF0 : fzT.filterMap (fun t => (σ1.T t).name) = F0 at *
        refine draw_sound hm hok' (hio2 _) (SR.fzs (l := F0) hS1) (hFr2 _ fun d hd => ⟨fzs_none (hgone d hd).1, by rw [fzs_T]; exact (hgone d hd).2⟩) (fun r hr => ⟨fun arr ha => ?_, fun x hx hp hd => ?_⟩) hE hQ
        · cases hh : σ1.H r with
          | none => rw [fzs_none hh] at ha; cases ha
          | some a0 =>
            obtain ⟨a', q1, q2, q3⟩ := fzs_H (l := F0) hh
            rw [ha] at q1; cases q1
            rw [q3 hr, q2.cells]
        · have := makers_both hx hp hd
          rw [← hF0, List.mem_filterMap] at hr
          obtain ⟨t, _, ht⟩ := hr
          exact (hgone r this).2 t ht
      · cases hc
    | false =>
      simp only [Bool.false_eq_true, if_false] at hc
      split at hc
      · rename_i hok
        cases hc
        unfold evalReg at hE
        simp only [Bool.false_eq_true, if_false] at hE
        obtain ⟨μ1, hS1⟩ := SR.kills ((makers rs0).map (·.2)) hmk hS
        refine wp_region ?_
        have hlen : (setHid rs0 fun i => (makers rs0).filterMap fun p => if i < p.1 then some p.2 else none).length = ops.size := by
          unfold setHid
          simp [← l1]
        rw [List.range_eq_range', ← hlen]
        exact ops_sound hQ _ 0 (by intro j r hr; obtain ⟨o, h1, h2⟩ := hio _ j r hr; exact ⟨o, by rw [Nat.zero_add]; exact h1, h2⟩) (hidLater_of hok) hS1 (hFr _ fun d hd => kills_gone _ hd) hE
      · cases hc

theorem compX_isX {ops : Array Oper} {o : Oper} {x : XOp} (h : compX P n ops o = some x) : IsX P ops n o x := by
  have other : (compR P n ops o).map (fun r => XOp.op (killOf r) r) = some x → IsX P ops n o x := by
    intro h
    obtain ⟨r, hr, rfl⟩ := Option.map_eq_some_iff.1 h
    exact ⟨compR_isOp hr r.hid r.wr, rfl⟩
  unfold compX at h
  simp only at h
  split at h
  · rename_i y d ho hd
    split at h
    · rename_i hlt
      split at h
      · rename_i ix gd h1 h2
        cases h
        refine ⟨?_, hd, hlt, y, ho, h1⟩
        unfold compG at h2
        split at h2
        · rename_i hg; rw [hg]; cases h2; rfl
        · rename_i j w hg
          rw [hg]
          split at h2
          · rename_i t ht
            split at h2
            · rename_i hlt2
              cases h2
              exact ⟨t, ht, hlt2, rfl⟩
            · cases h2
          · cases h2
      · cases h
    · cases h
  · rename_i f first caps d ho hd hg
    split at h
    · rename_i y h1 h2
      split at h
      · rename_i hlt
        obtain ⟨ix, h3, rfl⟩ := Option.map_eq_some_iff.1 h
        exact ⟨Option.isNone_iff_eq_none.1 hg, hd, hlt, first, caps, y, ho, h1, h2, h3⟩
      · cases h
    · exact other h
  · rename_i c d ho hd hg
    split at h
    · rename_i f hc
      split at h
      · split at h
        · rename_i hlt
          split at h
          · rename_i fx xs h1 h2
            cases h
            exact ⟨Option.isNone_iff_eq_none.1 hg, hd, hlt, c, f, ho, hc, h1, h2⟩
          · cases h
        · cases h
      · exact other h
    · exact other h
  · exact other h

theorem regx_sound {id : Nat} {ops : Array Oper} {l : List XOp} {Q : Exit → Act → World → Prop} {K : St → Prop} (hc : ops.toList.mapM (compX P n ops) = some l) (hS : SR w0 Pr0 n μ σ a w) (hE : evalXs P (AFn P) l σ K)
    (hQ : ∀ μ σ' a w, K σ' → SR w0 Pr0 n μ σ' a w → Q .normal a w) : (Code.region id ops false).wp P Q a w := by
  obtain ⟨l1, l2⟩ := mapM_get hc
  refine wp_region ?_
  rw [List.range_eq_range', show ops.size = l.length by rw [← l1, Array.length_toList]]
  refine xs_sound hQ l 0 (fun j x hx => ?_) hS hE
  obtain ⟨o, h1, h2⟩ := l2 j x hx
  exact ⟨o, by rw [Nat.zero_add, ← Array.getElem?_toList]; exact h1, compX_isX h2⟩
end
end Go.Proofs.YtkdbphhekpdmhaaDoor
