/-
  Part 8 of a proof: WaD, WaF, WaH.
-/
import Derived.Maps.AppendAt
import Derived.Deep.RegionLaw
import Derived.Lib.AppendZeros
import Derived.Test.YtcpendbmohfjcaaWG7
section
/-
  A map of lists that the call has made: what lies where; look-up, and the way back.
-/
namespace Go.Proofs.Ytcpendbmohfjcaa
open Go.RowKit Go.MapKept
set_option linter.unusedVariables false
set_option linter.unusedSimpArgs false
def upl : List (Int × List Int) → Int → List Int → List (Int × List Int)
  | [], k, d => [(k, d)]
  | e :: l, k, d => if k == e.1 then (e.1, d) :: l else e :: upl l k d
def lkl : List (Int × List Int) → Int → List Int
  | [], _ => []
  | e :: l, k => if k == e.1 then e.2 else lkl l k
def idl : List (Int × List Int) → Int → Option Nat
  | [], _ => none
  | e :: l, k => if k == e.1 then some 0 else (idl l k).map (· + 1)
/-- the map's block: keys, and rows of their own, no two in one block -/
structure Grp (w : World) (base gm : Nat) (es : List (Int × List Int)) (ms : Array MapEntry) (c : Nat) : Prop where
  map : w.heap[gm]? = some (.map ms c)
  st : Stamped ms c
  lt : gm < base
  len : es.length = ms.size
  key : ∀ (i : Nat) (e : Int × List Int) (m : MapEntry), es[i]? = some e → ms[i]? = some m → m.key = .int .i64 e.1
  row : ∀ (i : Nat) (e : Int × List Int) (m : MapEntry), es[i]? = some e → ms[i]? = some m → w.ownsRow base 3 1 m.val e.2.length (e.2.map (Value.int .i64))
  apart : ∀ (i j : Nat) (m m' : MapEntry), ms[i]? = some m → ms[j]? = some m' → i ≠ j → m.val.ownBlock = none ∨ m.val.ownBlock ≠ m'.val.ownBlock
theorem idl_some : ∀ {es : List (Int × List Int)} {k : Int} {j : Nat}, idl es k = some j → ∃ e, es[j]? = some e ∧ e.1 = k ∧ lkl es k = e.2 ∧ ∀ d, upl es k d = es.set j (k, d)
  | [], k, j, h => by cases h
  | e :: l, k, j, h => by
    rw [idl] at h
    by_cases hk : (k == e.1) = true
    · rw [if_pos hk] at h; cases h
      have : k = e.1 := by simpa using hk
      subst this
      exact ⟨e, rfl, rfl, by simp [lkl], fun d => by simp [upl]⟩
    · rw [if_neg hk] at h
      obtain ⟨i, hi, rfl⟩ := Option.map_eq_some_iff.1 h
      obtain ⟨e', h1, h2, h3, h4⟩ := idl_some hi
      exact ⟨e', by simpa using h1, h2, by rw [lkl, if_neg hk, h3], fun d => by rw [upl, if_neg hk, h4]; rfl⟩
theorem idl_none : ∀ {es : List (Int × List Int)} {k : Int}, idl es k = none → lkl es k = [] ∧ (∀ d, upl es k d = es ++ [(k, d)])
  | [], k, _ => ⟨rfl, fun d => rfl⟩
  | e :: l, k, h => by
    rw [idl] at h
    by_cases hk : (k == e.1) = true
    · rw [if_pos hk] at h; cases h
    · rw [if_neg hk] at h
      have := idl_none (by simpa using h : idl l k = none)
      exact ⟨by rw [lkl, if_neg hk, this.1], fun d => by rw [upl, if_neg hk, this.2]; rfl⟩
theorem idl_none_ne : ∀ {es : List (Int × List Int)} {k : Int}, idl es k = none → ∀ e, e ∈ es → e.1 ≠ k
  | [], k, _, e, he => by cases he
  | x :: l, k, h, e, he => by
    rw [idl] at h
    by_cases hk : (k == x.1) = true
    · rw [if_pos hk] at h; cases h
    · rw [if_neg hk] at h
      rcases List.mem_cons.1 he with e1 | e1
      · subst e1; exact fun e2 => hk (by simp [e2])
      · exact idl_none_ne (by simpa using h) e e1
/-- the entries as the plain machine has them -/
def avE (es : List (Int × List Int)) : List (Int × AV) := es.map fun e => (e.1, intsA e.2)
theorem idxM_idl : ∀ {es : List (Int × List Int)} {k : Int}, idxM (avE es) k = idl es k
  | [], k => rfl
  | e :: l, k => by
    show (if k == e.1 then some 0 else (idxM (avE l) k).map (· + 1)) = _
    rw [idxM_idl]; rfl
variable {P : Program}
theorem findG {es : List (Int × List Int)} {ms : Array MapEntry} (k : Int) (hl : es.length = ms.size) (hk : ∀ (i : Nat) (e : Int × List Int) (m : MapEntry), es[i]? = some e → ms[i]? = some m → m.key = .int .i64 e.1) :
    (idl es k = none ∧ Instr.findNow (.int .i64) (.int .i64 k) ms.toList 0 = some none) ∨
    ∃ (j : Nat) (e : Int × List Int) (m : MapEntry), idl es k = some j ∧ es[j]? = some e ∧ ms[j]? = some m ∧ m.key = .int .i64 k ∧ Instr.findNow (.int .i64) (.int .i64 k) ms.toList 0 = some (some (j, m.val)) := by
  have hf := findNow_idx k (avE es) ms.toList 0 (by simpa [avE] using hl) (fun j e m h1 h2 => by
    simp only [avE, List.getElem?_map] at h1
    obtain ⟨e', h3, rfl⟩ := Option.map_eq_some_iff.1 h1
    exact hk j e' m h3 (by simpa using h2))
  rw [idxM_idl] at hf
  cases hi : idl es k with
  | none => rw [hi] at hf; exact .inl ⟨rfl, hf⟩
  | some j =>
    rw [hi] at hf
    obtain ⟨e, h1, h2, h3, h4⟩ := idl_some hi
    have hj : j < ms.size := by rw [← hl]; exact (List.getElem?_eq_some_iff.1 h1).1
    have hmj : ms[j]? = some ms[j] := Array.getElem?_eq_getElem hj
    refine .inr ⟨j, e, ms[j], rfl, h1, hmj, by rw [hk j e _ h1 hmj, h2], ?_⟩
    rw [hf]
    simp only [Option.bind_some, Array.getElem?_toList, hmj, Option.map_some, Nat.zero_add]
/-- what may be done between the look-up and the store -/
structure Way (w : World) (v : Value) (w1 : World) (v' : Value) (zs' : List Int) (base : Nat) : Prop where
  grown : w.grownBy w1 v.ownBlock
  row : w1.ownsRow base 3 1 v' zs'.length (zs'.map (Value.int .i64))
  loc : v'.ownBlock = v.ownBlock ∨ ∃ g, v'.ownBlock = some g ∧ w.heap.size ≤ g
/-- what a look-up yields -/
def grV (es : List (Int × List Int)) (ms : Array MapEntry) (q : Int) : Value := match idl es q with
  | none => .slice none 0 0
  | some j => (ms[j]?.map (·.val)).getD (.slice none 0 0)
theorem Grp.look {w : World} {base gm : Nat} {es : List (Int × List Int)} {ms : Array MapEntry} {c : Nat} (hG : Grp w base gm es ms c) (q : Int) {t kt et : TypeId} {i : TypeInfo} (ht : P.underlying t = some (.map kt et)) (hkt : P.underlying kt = some (.int .i64)) (hi : P.info? et = some i) (hz : i.zero = some (.slice none 0 0)) :
    ∃ v, v = grV es ms q ∧ (Instr.lookup t (.map (some gm)) (.int .i64 q) false).run P w = .ok v w ∧ w.ownsRow base 3 1 v (lkl es q).length ((lkl es q).map (Value.int .i64)) ∧
      ∀ w1 v' zs', Way w v w1 v' zs' base → ∃ ms' c', (Instr.mapUpdate t (.map (some gm)) (.int .i64 q) v').run P w1 = .ok () { w1 with heap := w1.heap.setIfInBounds gm (.map ms' c') } ∧
        Grp { w1 with heap := w1.heap.setIfInBounds gm (.map ms' c') } base gm (upl es q zs') ms' c' := by
  have hK : IsKey (.int .i64) (.int .i64 q) := rfl
  have hgs : gm < w.heap.size := by
    have := hG.map
    exact (Array.getElem?_eq_some_iff.1 this).1
  -- what the way back wants: the block as it stood, the rows but one
  have back : ∀ (v : Value), (∀ (w1 : World) (v' : Value) (zs' : List Int), Way w v w1 v' zs' base → v.ownBlock ≠ some gm → (w1.heap[gm]? = some (.map ms c)) ∧ ∀ (i : Nat) (e : Int × List Int) (m : MapEntry), es[i]? = some e → ms[i]? = some m → (m.val.ownBlock = none ∨ m.val.ownBlock ≠ v.ownBlock) → ∀ ms' c', { w1 with heap := w1.heap.setIfInBounds gm (.map ms' c') : World }.ownsRow base 3 1 m.val e.2.length (e.2.map (Value.int .i64))) := by
    intro v w1 v' zs' hW hne
    have h1 : w1.heap[gm]? = some (.map ms c) := (hW.grown.block gm hgs (fun e => hne e.symm)).trans hG.map
    refine ⟨h1, fun i e m he hm ha ms' c' => ?_⟩
    have r1 := (hG.row i e m he hm).kept hW.grown ha
    refine r1.kept (row := some gm) ⟨rfl, rfl, rfl, by simp, fun k hk hne => (heap_set h1).2 k (fun e => hne (by rw [e]))⟩ ?_
    cases hb : m.val.ownBlock with
    | none => exact .inl rfl
    | some g =>
      refine .inr fun e => ?_
      cases e
      have := ((hG.row i _ m he hm).lt gm hb).1
      have := hG.lt
      omega
  have newrow : ∀ (w1 : World) (v v' : Value) (zs' : List Int), Way w v w1 v' zs' base → w1.heap[gm]? = some (.map ms c) → ∀ ms' c', { w1 with heap := w1.heap.setIfInBounds gm (.map ms' c') : World }.ownsRow base 3 1 v' zs'.length (zs'.map (Value.int .i64)) := by
    intro w1 v v' zs' hW h1 ms' c'
    refine hW.row.kept (row := some gm) ⟨rfl, rfl, rfl, by simp, fun k hk hne => (heap_set h1).2 k (fun e => hne (by rw [e]))⟩ ?_
    cases hb : v'.ownBlock with
    | none => exact .inl rfl
    | some g =>
      refine .inr fun e => ?_
      cases e
      have := (hW.row.lt gm hb).1
      have := hG.lt
      omega
  rcases findG q hG.len hG.key with ⟨l1, l2⟩ | ⟨j, e, m, l1, l3, l4, l5, l6⟩
  · obtain ⟨n1, n2⟩ := idl_none l1
    refine ⟨.slice none 0 0, by unfold grV; rw [l1], ?_, by rw [n1]; exact World.ownsRow_nil _ _ _ _, fun w1 v' zs' hW => ?_⟩
    · simp [Instr.lookup, run_underlying ht, Go.MapKept.run_getObj_map hG.map, run_checkKey hkt hK, run_findKey hkt l2, zeroValue, typeInfo, hi, hz]
    · obtain ⟨h1, hrows⟩ := back _ w1 v' zs' hW (by simp [Value.ownBlock])
      refine ⟨ms.push ⟨.int .i64 q, v', c⟩, c + 1, ?_, ?_⟩
      · simp [Instr.mapUpdate, run_underlying ht, Go.MapKept.run_getObj_map h1, run_checkKey hkt hK, run_findKey hkt l2, Go.MapKept.run_setObj_map _ h1]
      · have part : ∀ (i : Nat) (x : Int × List Int) (m : MapEntry), (es ++ [(q, zs')])[i]? = some x → (ms.push ⟨.int .i64 q, v', c⟩)[i]? = some m → (es[i]? = some x ∧ ms[i]? = some m) ∨ (x = (q, zs') ∧ m = ⟨.int .i64 q, v', c⟩) := by
          intro i x m h1 h2
          rw [Array.getElem?_push] at h2
          by_cases hi : i = ms.size
          · rw [if_pos hi] at h2
            rw [List.getElem?_append_right (by rw [hi, hG.len]; exact Nat.le_refl _), hi, hG.len, Nat.sub_self] at h1
            cases h1; cases h2
            exact .inr ⟨rfl, rfl⟩
          · rw [if_neg hi] at h2
            have := (Array.getElem?_eq_some_iff.1 h2).1
            rw [List.getElem?_append_left (by rw [hG.len]; exact this)] at h1
            exact .inl ⟨h1, h2⟩
        have hold : ∀ (k : Nat) (m' : MapEntry), ms[k]? = some m' → m'.val.ownBlock = none ∨ m'.val.ownBlock ≠ v'.ownBlock := by
          intro k m' hm'
          have hk := (Array.getElem?_eq_some_iff.1 hm').1
          have hek : es[k]? = some (es[k]'(by rw [hG.len]; exact hk)) := List.getElem?_eq_getElem _
          cases hb : m'.val.ownBlock with
          | none => exact .inl rfl
          | some g =>
            refine .inr fun e => ?_
            have hg := ((hG.row k _ m' hek hm').lt g hb).2
            rcases hW.loc with hl | ⟨g', hl, hge⟩
            · rw [hl] at e; simp [Value.ownBlock] at e
            · rw [hl] at e; cases e; omega
        rw [n2]
        refine ⟨(heap_set h1).1, stamped_push hG.st (fun x hx => ?_), hG.lt, by rw [List.length_append, Array.size_push, hG.len]; rfl, fun i x m h1' h2' => ?_, fun i x m h1' h2' => ?_, fun i j m m' h1' h2' hij => ?_⟩
        · obtain ⟨i, hi⟩ := List.mem_iff_getElem?.1 hx
          rw [Array.getElem?_toList] at hi
          have hil := (Array.getElem?_eq_some_iff.1 hi).1
          have he : es[i]? = some (es[i]'(by rw [hG.len]; exact hil)) := List.getElem?_eq_getElem _
          rw [hG.key i _ x he hi]
          intro e
          cases e
          exact idl_none_ne l1 _ (List.mem_of_getElem? he) rfl
        · rcases part i x m h1' h2' with ⟨q1, q2⟩ | ⟨rfl, rfl⟩
          · exact hG.key i x m q1 q2
          · rfl
        · rcases part i x m h1' h2' with ⟨q1, q2⟩ | ⟨rfl, rfl⟩
          · exact hrows i x m q1 q2 (by cases hb : m.val.ownBlock; exact .inl rfl; exact .inr (by simp [Value.ownBlock])) _ _
          · exact newrow w1 _ v' zs' hW h1 _ _
        · rw [Array.getElem?_push] at h1' h2'
          by_cases a1 : i = ms.size
          · by_cases a2 : j = ms.size
            · omega
            · rw [if_pos a1] at h1'; rw [if_neg a2] at h2'
              cases h1'
              rcases hold j m' h2' with q | q
              · cases hb : v'.ownBlock with
                | none => exact .inl rfl
                | some g => exact .inr (by rw [q]; simp)
              · cases hb : v'.ownBlock with
                | none => exact .inl rfl
                | some g => exact .inr (fun e => q (by rw [hb, e]))
          · by_cases a2 : j = ms.size
            · rw [if_neg a1] at h1'; rw [if_pos a2] at h2'
              cases h2'
              exact hold i m h1'
            · rw [if_neg a1] at h1'; rw [if_neg a2] at h2'
              exact hG.apart i j m m' h1' h2' hij
  · obtain ⟨e', n0, n1, n2, n3⟩ := idl_some l1
    rw [l3] at n0; cases n0
    have hvb : m.val.ownBlock ≠ some gm := fun hb => by
      have := ((hG.row j e m l3 l4).lt gm hb).1
      have := hG.lt
      omega
    refine ⟨m.val, by unfold grV; rw [l1]; simp [l4], ?_, by rw [n2]; exact hG.row j e m l3 l4, fun w1 v' zs' hW => ?_⟩
    · simp [Instr.lookup, run_underlying ht, Go.MapKept.run_getObj_map hG.map, run_checkKey hkt hK, run_findKey hkt l6]
    · obtain ⟨h1, hrows⟩ := back _ w1 v' zs' hW hvb
      refine ⟨ms.modify j fun x => { x with key := .int .i64 q, val := v' }, c, ?_, ?_⟩
      · simp [Instr.mapUpdate, run_underlying ht, Go.MapKept.run_getObj_map h1, run_checkKey hkt hK, run_findKey hkt l6, l4, l5, run_keyThatStays hK, Go.MapKept.run_setObj_map _ h1]
      · have part : ∀ (i : Nat) (m' : MapEntry), (ms.modify j fun x => { x with key := .int .i64 q, val := v' })[i]? = some m' → (i ≠ j ∧ ms[i]? = some m') ∨ (i = j ∧ m'.key = .int .i64 q ∧ m'.val = v') := by
          intro i m' h2
          rw [Array.getElem?_modify] at h2
          by_cases hi : j = i
          · subst hi
            rw [if_pos rfl, l4] at h2
            cases h2
            exact .inr ⟨rfl, rfl, rfl⟩
          · rw [if_neg hi] at h2
            exact .inl ⟨fun e => hi e.symm, h2⟩
        have hold : ∀ (k : Nat) (m' : MapEntry), k ≠ j → ms[k]? = some m' → m'.val.ownBlock = none ∨ m'.val.ownBlock ≠ v'.ownBlock := by
          intro k m' hkj hm'
          have hk := (Array.getElem?_eq_some_iff.1 hm').1
          have hek : es[k]? = some (es[k]'(by rw [hG.len]; exact hk)) := List.getElem?_eq_getElem _
          rcases hG.apart k j m' m hm' l4 hkj with q | q
          · exact .inl q
          · rcases hW.loc with hl | ⟨g', hl, hge⟩
            · exact .inr (by rw [hl]; exact q)
            · cases hb : m'.val.ownBlock with
              | none => exact .inl rfl
              | some g =>
                refine .inr fun e => ?_
                have hg := ((hG.row k _ m' hek hm').lt g hb).2
                rw [hl] at e; cases e; omega
        rw [n3]
        refine ⟨(heap_set h1).1, stamped_modify hG.st j _ (fun _ _ => rfl) (fun x _ hx => by rw [l4] at hx; cases hx; exact l5.symm), hG.lt, by rw [List.length_set, Array.size_modify, hG.len], fun i x m' h1' h2' => ?_, fun i x m' h1' h2' => ?_, fun i k m' m'' h1' h2' hik => ?_⟩
        · rcases part i m' h2' with ⟨q1, q2⟩ | ⟨rfl, q2, q3⟩
          · rw [List.getElem?_set_ne (fun e => q1 e.symm)] at h1'
            exact hG.key i x m' h1' q2
          · rw [List.getElem?_set_self (List.getElem?_eq_some_iff.1 l3).1] at h1'
            cases h1'; exact q2
        · rcases part i m' h2' with ⟨q1, q2⟩ | ⟨rfl, q2, q3⟩
          · rw [List.getElem?_set_ne (fun e => q1 e.symm)] at h1'
            exact hrows i x m' h1' q2 (hG.apart i j m' m q2 l4 q1) _ _
          · rw [List.getElem?_set_self (List.getElem?_eq_some_iff.1 l3).1] at h1'
            cases h1'; rw [q3]; exact newrow w1 _ v' zs' hW h1 _ _
        · rcases part i m' h1' with ⟨q1, q2⟩ | ⟨rfl, q2, q3⟩
          · rcases part k m'' h2' with ⟨p1, p2⟩ | ⟨rfl, p2, p3⟩
            · exact hG.apart i k m' m'' q2 p2 hik
            · rw [p3]; exact hold i m' q1 q2
          · rcases part k m'' h2' with ⟨p1, p2⟩ | ⟨rfl, p2, p3⟩
            · rw [q3]
              rcases hold k m'' p1 p2 with q | q
              · cases hb : v'.ownBlock with
                | none => exact .inl rfl
                | some g => exact .inr (by rw [q]; simp)
              · cases hb : v'.ownBlock with
                | none => exact .inl rfl
                | some g => exact .inr (fun e => q (by rw [hb, e]))
            · exact absurd rfl hik
end Go.Proofs.Ytcpendbmohfjcaa
end
section
/-
  The map behind all edges.
-/
namespace Go.Proofs.Ytcpendbmohfjcaa
open Go.RowKit
set_option linter.unusedVariables false
set_option linter.unusedSimpArgs false
def grF : List Edge → List (Int × List Int) → List (Int × List Int)
  | [], es => es
  | e :: l, es => grF l (upl es e.1 (lkl es e.1 ++ [e.2]))
theorem lkl_upl {k : Int} {d : List Int} : ∀ {es : List (Int × List Int)} {j : Int}, lkl (upl es k d) j = if j = k then d else lkl es j
  | [], j => by
    simp only [upl, lkl]
    by_cases h : j = k
    · simp [h]
    · simp [h]
  | e :: es, j => by
    unfold upl
    by_cases hk : k = e.1
    · subst hk
      simp only [beq_self_eq_true, if_true, lkl]
      by_cases h : j = e.1
      · simp [h]
      · simp [h]
    · rw [if_neg (by simpa using hk)]
      simp only [lkl, lkl_upl (es := es)]
      by_cases h : j = e.1
      · subst h
        have hk' : ¬ e.1 = k := fun e' => hk e'.symm
        simp [hk']
      · simp [h]
theorem keys_upl {k : Int} {d : List Int} : ∀ {es : List (Int × List Int)}, (upl es k d).map (·.1) = if k ∈ es.map (·.1) then es.map (·.1) else es.map (·.1) ++ [k]
  | [] => by simp [upl]
  | e :: es => by
    unfold upl
    by_cases hk : k = e.1
    · subst hk; simp
    · rw [if_neg (by simpa using hk)]
      simp only [List.map_cons, keys_upl (es := es), List.mem_cons, hk, false_or]
      split <;> simp
/-- the entries so far stand for the edges so far -/
structure GrOk (p : List Edge) (es : List (Int × List Int)) : Prop where
  look : ∀ k, lkl es k = outs p k
  nodup : (es.map (·.1)).Nodup
  keys : ∀ k, k ∈ es.map (·.1) ↔ k ∈ p.map (·.1)
theorem GrOk.nil : GrOk [] [] := ⟨fun k => rfl, by simp, fun k => by simp⟩
theorem GrOk.step {p : List Edge} {es : List (Int × List Int)} (h : GrOk p es) (e : Edge) : GrOk (p ++ [e]) (upl es e.1 (lkl es e.1 ++ [e.2])) := by
  refine ⟨fun k => ?_, ?_, fun k => ?_⟩
  · rw [lkl_upl, outs_snoc, h.look, h.look]
    by_cases hk : k = e.1
    · subst hk; simp
    · have hk' : ¬ e.1 = k := fun e' => hk e'.symm
      rw [if_neg hk, if_neg hk']
  · rw [keys_upl]
    split
    · exact h.nodup
    · rename_i hn
      refine List.nodup_append.2 ⟨h.nodup, by simp, fun x hx y hy e' => ?_⟩
      have hy' : y = e.1 := by simpa using hy
      subst hy'; subst e'; exact hn hx
  · rw [keys_upl]
    split
    · rename_i hm
      rw [h.keys k, List.map_append, List.mem_append]
      refine ⟨.inl, fun h' => ?_⟩
      rcases h' with h' | h'
      · exact h'
      · have : k = e.1 := by simpa using h'
        subst this; exact (h.keys _).1 hm
    · rw [List.mem_append, h.keys k, List.map_append, List.mem_append]
      simp
theorem grF_ok : ∀ (l p : List Edge) (es : List (Int × List Int)), GrOk p es → GrOk (p ++ l) (grF l es)
  | [], p, es, h => by rw [List.append_nil]; exact h
  | e :: l, p, es, h => by
    have := grF_ok l (p ++ [e]) _ (h.step e)
    rw [List.append_assoc] at this
    exact this
def grL (l : List Edge) : List (Int × List Int) := grF l []
theorem grL_ok (l : List Edge) : GrOk l (grL l) := by
  have := grF_ok l [] [] GrOk.nil
  rw [List.nil_append] at this
  exact this
theorem grF_app : ∀ (a b : List Edge) (es : List (Int × List Int)), grF (a ++ b) es = grF b (grF a es)
  | [], b, es => rfl
  | e :: a, b, es => by simp only [List.cons_append, grF, grF_app a b]
theorem grL_snoc (p : List Edge) (e : Edge) : grL (p ++ [e]) = upl (grL p) e.1 (lkl (grL p) e.1 ++ [e.2]) := by
  unfold grL
  rw [grF_app]; rfl
/-- what a look-up yields, whether the key is there or not -/
theorem look_avE {es : List (Int × List Int)} {k : Int} : lkV false (.sl []) (lkp (avE es) k) = intsA (lkl es k) := by
  induction es with
  | nil => rfl
  | cons e es ih =>
    show lkV false (.sl []) (if k == e.1 then some (intsA e.2) else lkp (avE es) k) = _
    unfold lkl
    by_cases h : (k == e.1) = true
    · rw [if_pos h, if_pos h]; rfl
    · rw [if_neg h, if_neg h]; exact ih
theorem keys_avE (es : List (Int × List Int)) : (avE es).map (·.1) = es.map (·.1) := by
  simp [avE]
theorem Grp.out {w : World} {base gm : Nat} {es : List (Int × List Int)} {ms : Array MapEntry} {c : Nat} (hG : Grp w base gm es ms c) {Pr : Nat → Nat → Prop} (hP : ∀ b o, gm ≤ b → Pr b o) : VR Pr w (.mv (avE es)) (.map (some gm)) := by
  refine .mv _ gm ms c (block_lt hG.map) (hP gm 0 (Nat.le_refl _)) hG.map (by rw [← hG.len]; simp [avE]) hG.st (fun i e m he hm => ?_) (fun i e m he hm => ?_)
  · simp only [avE, List.getElem?_map] at he
    obtain ⟨e', h3, rfl⟩ := Option.map_eq_some_iff.1 he
    exact hG.key i e' m h3 hm
  · simp only [avE, List.getElem?_map] at he
    obtain ⟨e', h3, rfl⟩ := Option.map_eq_some_iff.1 he
    obtain ⟨r1, r2⟩ := hG.row i e' m h3 hm
    show VR Pr w (.sl (e'.2.map (AV.int .i64))) m.val
    have hlen : (e'.2.map (AV.int .i64)).length = e'.2.length := List.length_map _
    rcases r2 with ⟨q1, q2⟩ | ⟨g, cap, cur, q1, q2, q3, q4, q5, q6, q7⟩
    · have : e'.2 = [] := List.length_eq_zero_iff.1 q2
      rw [q1, this]
      have := VR.sl (Pr := Pr) (w := w) [] none 0 1 (fun _ _ => undef) (Nat.le_refl _) (Nat.zero_le _) (fun h => by simp at h) (fun i d j c h => by simp at h)
      exact this
    · rw [q1, ← hlen]
      refine .sl _ _ cap 1 (fun i j => ((e'.2.map (Value.int .i64))[i]?).getD undef) (by rw [hlen]; exact q4) q5 (fun h0 => ⟨g, 0, rfl, block_lt q3, fun d hd => ?_, fun i j hi hj => ⟨hP g _ (by have := hG.lt; omega), ?_⟩⟩) (fun i d j c hi hj => ?_)
      · obtain ⟨x, _, rfl⟩ := List.mem_map.1 hd; rfl
      · have hj0 : j = 0 := by omega
        subst hj0
        rw [hlen] at hi
        rw [cell_row q3]
        have h1 : (cur.toList.take (e'.2.length * 1))[i]? = (e'.2.map (Value.int .i64))[i]? := by rw [q7]
        rw [List.getElem?_take, if_pos (by omega), Array.getElem?_toList] at h1
        rw [show 0 + (i * 1 + 0) = i by omega, h1]
        rw [List.getElem?_map, List.getElem?_eq_getElem hi]
        rfl
      · rw [List.getElem?_map] at hi
        obtain ⟨x, hx, rfl⟩ := Option.map_eq_some_iff.1 hi
        match j, hj with
        | 0, hj =>
          cases hj
          simp only [List.getElem?_map, hx, Option.map_some, Option.getD_some]
          exact .int _ _
end Go.Proofs.Ytcpendbmohfjcaa
end
section
/-
  The map behind all edges: the code, over the model.
-/
namespace Go.Proofs.Ytcpendbmohfjcaa
open Go.RowKit Go.MapKept
set_option linter.unusedVariables false
set_option linter.unusedSimpArgs false
def edA (e : Edge) : AV := .agg [.int .i64 e.1, .int .i64 e.2]
/-- a slice of edges in memory -/
def EdAt (w : World) (A : Option Addr) (l : List Edge) : Prop := ∀ (i : Nat) (e : Edge), l[i]? = some e → ∃ b off, A = some ⟨b, off, none⟩ ∧ b < w.heap.size ∧ w.cell? ⟨b, off + i * 2, none⟩ = some (.int .i64 e.1) ∧ w.cell? ⟨b, off + (i * 2 + 1), none⟩ = some (.int .i64 e.2)
theorem EdAt.of {Pr : Nat → Nat → Prop} {w : World} {l : List Edge} {v : Value} (h : VR Pr w (.sl (l.map edA)) v) : ∃ A cap, v = .slice A l.length cap ∧ l.length ≤ cap ∧ cap ≤ maxLen ∧ EdAt w A l := by
  have hl : (l.map edA).length = l.length := List.length_map _
  generalize hx : l.map edA = x at h
  cases h with
  | sl _ A cap z u hcap hmax hA hr =>
    subst hx
    rw [hl] at hcap
    refine ⟨A, cap, by rw [hl], hcap, hmax, fun i e he => ?_⟩
    have hi := (List.getElem?_eq_some_iff.1 he).1
    obtain ⟨b, off, rfl, hL⟩ := hA (by rw [hl]; omega)
    have hd : (l.map edA)[i]? = some (edA e) := by rw [List.getElem?_map, he]; rfl
    have hz : z = 2 := (hL.len _ (List.mem_of_getElem? hd)).symm
    subst hz
    have h0 := (hL.at_ i 0 (by rw [hl]; exact hi) (by omega)).2
    have h1 := (hL.at_ i 1 (by rw [hl]; exact hi) (by omega)).2
    have v0 := VR.int_of (hr i _ 0 (.int .i64 e.1) hd rfl)
    have v1 := VR.int_of (hr i _ 1 (.int .i64 e.2) hd rfl)
    rw [v0] at h0
    rw [v1] at h1
    exact ⟨b, off, rfl, hL.lt, h0, h1⟩
section
variable {P : Program} {ops : Array Oper} {o : Oper} {a : Act} {w : World} {K : Act → World → Prop} {Q : Exit → Act → World → Prop} {E : Prop}
theorem step_lookup (hg : o.guard = none) (x ix : Operand) (t : TypeId) (hop : o.op = .lookup t x ix false) (u k : Value) (hx : a.eval x = u) (hk : a.eval ix = k) {v : Value} {w' : World} (hr : (Instr.lookup t u k false).run P w = .ok v w') (hK : K (a.put o.dst v) w') :
    if Region.wanted o (yielded ops a.tmps) = true then Oper.wp P o a w K Q else E := by
  have hw : Region.wanted o (yielded ops a.tmps) = true := by simp [Region.wanted, hg]
  rw [if_pos hw]
  unfold Oper.wp
  simp [execOp, hop, hx, hk, hr, Result.andThen]
  exact hK
theorem step_update (hg : o.guard = none) (x ix y : Operand) (t : TypeId) (hop : o.op = .mapUpdate t x ix y) (hd : o.dst = none) (u k v : Value) (hx : a.eval x = u) (hk : a.eval ix = k) (hy : a.eval y = v) {w' : World} (hr : (Instr.mapUpdate t u k v).run P w = .ok () w') (hK : K a w') :
    if Region.wanted o (yielded ops a.tmps) = true then Oper.wp P o a w K Q else E := by
  have hw : Region.wanted o (yielded ops a.tmps) = true := by simp [Region.wanted, hg]
  rw [if_pos hw]
  unfold Oper.wp
  simp [execOp, hop, hx, hk, hy, hr, Result.andThen]
  rw [Oper.upon_skip, hd]
  exact hK
theorem step_append (hg : o.guard = none) (x y : Operand) (t t' : TypeId) (hop : o.op = .call { callee := .builtin .append, args := #[x, y], argTypes := #[t, t'] }) (u k : Value) (hx : a.eval x = u) (hk : a.eval y = k) {v : Value} {w' : World} (hr : (Builtin.append_ #[t, t'] o.type #[u, k]).run P w = .ok v w') (hK : K (a.put o.dst v) w') :
    if Region.wanted o (yielded ops a.tmps) = true then Oper.wp P o a w K Q else E := by
  have hw : Region.wanted o (yielded ops a.tmps) = true := by simp [Region.wanted, hg]
  rw [if_pos hw]
  unfold Oper.wp
  simp [execOp, hop, resolve, invoke, builtin, hx, hk, hr, Result.andThen]
  exact hK
end
theorem Grp.alloc {w : World} {base gm : Nat} {es : List (Int × List Int)} {ms : Array MapEntry} {c : Nat} (h : Grp w base gm es ms c) (o : Obj) : Grp (w.alloc o) base gm es ms c :=
  ⟨(Below.heap_alloc w o gm (block_lt h.map)).trans h.map, h.st, h.lt, h.len, h.key, fun i e m h1 h2 => (h.row i e m h1 h2).alloc o, h.apart⟩
theorem Grp.drew {w : World} {base gm : Nat} {es : List (Int × List Int)} {ms : Array MapEntry} {c : Nat} (h : Grp w base gm es ms c) : Grp w.drew base gm es ms c :=
  ⟨h.map, h.st, h.lt, h.len, h.key, h.row, h.apart⟩
theorem infoInt : (Try.prog.info? 3).map (fun i => (i.zero, i.size, i.bytes)) = some (some (.int .i64 0), 1, 8) := by kernel_rfl
theorem infoInts : (Try.prog.info? 34).map (fun i => (i.zero, i.size, i.bytes)) = some (some (.slice none 0 0), 1, 24) := by kernel_rfl
set_option maxRecDepth 100000 in
set_option maxHeartbeats 4000000 in
theorem graph_any (l : List Edge) (hl : l.length ≤ 1000000) (A : Option Addr) (cap : Nat) (w : World) (hE : EdAt w A l) :
    Calls Try.prog 18 #[.slice A l.length cap] w fun e w' => ∃ ms c, e = .returned (.map (some w.heap.size)) ∧ Below w.heap.size w w' ∧ Grp w' (w.heap.size + 1) w.heap.size (grL l) ms c := by
  obtain ⟨n, hn⟩ : ∃ n, l.length = n := ⟨_, rfl⟩
  obtain ⟨gm, hgm⟩ : ∃ gm, w.heap.size = gm := ⟨_, rfl⟩
  rw [hn, hgm]
  have hG0 : Hid (Grp (w.alloc (.map #[] 0)) (gm + 1) gm (grL []) #[] 0) := by
    refine ⟨by rw [← hgm]; exact (heap_alloc w _).1, stamped_empty 0, by omega, rfl, fun i e m h => by simp [grL, grF] at h, fun i e m h => by simp [grL, grF] at h, fun i j m m' h => by simp at h⟩
  have hB0 : Hid (Below gm w (w.alloc (.map #[] 0))) := (Below.refl gm w).alloc (by omega) _
  have HE := Lib.hid hE
  have HN := Lib.hid hn
  have HM := Lib.hid hgm
  have HL := Lib.hid hl
  have hmk : ∀ W : World, Sem.run Try.prog (Instr.makeMap 42 none) W = Result.ok (Value.map (some W.heap.size)) (W.alloc (.map #[] 0)) := fun _ => rfl
  clear hE hn hl
  go_enter Try.func18, Try.ntmps18
  go_wp2_with fail
  go_loopw [9] (fun j wr => ∃ (k : Nat) (ms : Array MapEntry) (c : Nat), j = .int .i64 k ∧ k ≤ n ∧ Hid (Grp wr (gm + 1) gm (grL (l.take k)) ms c) ∧ Hid (Below gm w wr)) (fun j _ => n - (intOf j).toNat)
  case atStart => exact ⟨0, #[], 0, rfl, Nat.zero_le _, hG0, hB0⟩
  case round =>
    obtain ⟨k, ms, c, rfl, hk, HG, HB⟩ := hrel
    by_cases hlt : k < n
    · obtain ⟨e, he⟩ : ∃ e, l[k]? = some e := ⟨_, List.getElem?_eq_getElem (by rw [HN.out]; exact hlt)⟩
      obtain ⟨b, off, rfl, hb, c0, c1⟩ := HE.out k e he
      have d0 : wr.cell? ⟨b, off + k * 2, none⟩ = some (.int .i64 e.1) := by rw [← c0]; exact World.cell?_of_block (HB.out.block b (by omega))
      have d1 : wr.cell? ⟨b, off + k * 2 + 1, none⟩ = some (.int .i64 e.2) := by rw [← c1]; exact World.cell?_of_block (HB.out.block b (by omega))
      have HX := Lib.hid he
      have hw1 : IntKind.i64.wrap ((k : Int) + 1) = (k : Int) + 1 := by
        have := HL.out
        rw [HN.out] at this
        rw [IntKind.wrap_i64]; omega
      clear he c0 c1 hb
      obtain ⟨W, hWW⟩ : ∃ W, wr.alloc (.cells #[.int .i64 e.1, .int .i64 e.2] 30) = W := ⟨_, rfl⟩
      obtain ⟨W5, hW5⟩ : ∃ W5, (W.alloc (.cells #[.int .i64 e.2] 3)).drew = W5 := ⟨_, rfl⟩
      have hGW : Grp W5 (gm + 1) gm (grL (l.take k)) ms c := by rw [← hW5, ← hWW]; exact ((HG.out.alloc _).alloc _).drew
      have hgs : gm < wr.heap.size := block_lt HG.out.map
      have hBW : Below gm w W5 := by rw [← hW5, ← hWW]; exact ((HB.out.alloc (by omega) _).alloc (by simp; omega) _).drew
      have hWs : W.heap.size = wr.heap.size + 1 := by rw [← hWW]; simp
      have hWs5 : W5.heap.size = wr.heap.size + 2 := by rw [← hW5]; show (W.alloc _).heap.size = _; simp [hWs]
      obtain ⟨b0, hb0⟩ : ∃ b0, wr.heap.size = b0 := ⟨_, rfl⟩
      rw [hb0] at hWs hgs hWs5
      have x0 : W.cell? ⟨b0, 0, none⟩ = some (.int .i64 e.1) := by rw [cell_row (by rw [← hWW, ← hb0]; exact (heap_alloc wr _).1 : W.heap[b0]? = some (.cells #[.int .i64 e.1, .int .i64 e.2] 30 (0, 0)))]; rfl
      have x1 : W.cell? ⟨b0, 1, none⟩ = some (.int .i64 e.2) := by rw [cell_row (by rw [← hWW, ← hb0]; exact (heap_alloc wr _).1 : W.heap[b0]? = some (.cells #[.int .i64 e.1, .int .i64 e.2] 30 (0, 0)))]; rfl
      obtain ⟨ii, hii, hiz, his, hib⟩ := info_parts infoInts
      obtain ⟨ij, hij, hjz, hjs, hjb⟩ := info_parts infoInt
      have ht25 := Try.underlying34
      obtain ⟨v, hv, hlk, hrow, hway⟩ := hGW.look (P := Try.prog) e.1 Try.underlying42 Try.underlying3 hii hiz
      have hlk0 : (Instr.lookup 42 (.map (some gm)) (.int .i64 e.1) false).run Try.prog W.drew = .ok v W.drew := by
        have hG0' : Grp W.drew (gm + 1) gm (grL (l.take k)) ms c := by rw [← hWW]; exact (HG.out.alloc _).drew
        obtain ⟨v2, hv2, hlk2, _⟩ := hG0'.look (P := Try.prog) e.1 Try.underlying42 Try.underlying3 hii hiz
        rw [hv, ← hv2]; exact hlk2
      have hlk1 : (Instr.lookup 42 (.map (some gm)) (.int .i64 e.1) false).run Try.prog (W.alloc (.cells #[.int .i64 e.2] 3)).drew = .ok v (W.alloc (.cells #[.int .i64 e.2] 3)).drew := by rw [hW5]; exact hlk
      have hzl : (lkl (grL (l.take k)) e.1).length ≤ n := by
        rw [(grL_ok (l.take k)).look]
        unfold outs
        rw [List.length_map]
        refine Nat.le_trans (List.length_filter_le _ _) ?_
        rw [List.length_take]; have := HN.out; omega
      have hL' := HL.out
      obtain ⟨v', W3, happ, hrow', hgrow, _, hloc⟩ := run_append_own_at (P := Try.prog) W5 (gm + 1) 34 34 3 ij _ 1 8 ht25 hij hjz hjs hjb rfl (by decide) v _ _ hrow ⟨W.heap.size, 0, none⟩ 1 1 [.int .i64 e.2] rfl (fun j u hj => by
        match j with
        | 0 =>
          cases hj
          rw [← hW5]
          exact cell_row (o := 0) (heap_alloc W (.cells #[.int .i64 e.2] 3)).1
        | j + 1 => simp at hj) (fun u hu => by rw [List.mem_singleton.1 hu]; rfl) (by unfold maxLen; rw [HN.out] at hL'; omega) (by rw [HN.out] at hL'; omega) (by omega)
      obtain ⟨ms', c', hupd, hG'⟩ := hway W3 v' (lkl (grL (l.take k)) e.1 ++ [e.2]) ⟨hgrow, by simpa using hrow', by
        rcases hloc with h | h
        · exact .inl h
        · exact .inr ⟨_, h, Nat.le_refl _⟩⟩
      obtain ⟨W4, hW4⟩ : ∃ W4, ({ W3 with heap := W3.heap.setIfInBounds gm (.map ms' c') } : World) = W4 := ⟨_, rfl⟩
      rw [hW4] at hupd hG'
      have hB4 : Hid (Below gm w W4) := by
        have h3 : Below gm w W3 := hBW.trans ⟨hgrow.os, hgrow.tape, hgrow.output, hgrow.size, fun k hk => hgrow.block k (by omega) (fun e => by
          have := (hrow.lt k e.symm).1
          omega)⟩
        have hm3 : W3.heap[gm]? = some (.map ms c) :=
          (hgrow.block gm (by omega) (fun e => by
            have := (hrow.lt gm e.symm).1
            omega)).trans hGW.map
        rw [← hW4]
        exact h3.trans ⟨rfl, rfl, rfl, by simp, fun k hk => (heap_set hm3).2 k (by omega)⟩
      have hG4 : Hid (Grp W4 (gm + 1) gm (grL (l.take (k + 1))) ms' c') := by
        show Grp _ _ _ _ _ _
        rw [List.take_add_one, HX.out, Option.toList_some, grL_snoc]
        exact hG'
      have happ1 : (Builtin.append_ #[34, 34] 34 #[v, .slice (some ⟨W.heap.size, 0, none⟩) 1 1]).run Try.prog (W.alloc (.cells #[.int .i64 e.2] 3)).drew = .ok v' W3 := by rw [hW5]; exact happ
      have hb0W : W.heap[b0]? = some (.cells #[.int .i64 e.1, .int .i64 e.2] 30 (0, 0)) := by rw [← hWW, ← hb0]; exact (heap_alloc wr _).1
      have hb0W2 : (W.alloc (.cells #[.int .i64 e.2] 3)).heap[b0]? = some (.cells #[.int .i64 e.1, .int .i64 e.2] 30 (0, 0)) := (Below.heap_alloc W _ b0 (by omega)).trans hb0W
      have y2 : (W.alloc (.cells #[.int .i64 e.2] 3)).cell? ⟨b0, 0, none⟩ = some (.int .i64 e.1) := by rw [cell_row hb0W2]; rfl
      have y3 : (W.alloc (.cells #[.int .i64 e.2] 3)).cell? ⟨b0, 1, none⟩ = some (.int .i64 e.2) := by rw [cell_row hb0W2]; rfl
      have hb05 : W5.heap[b0]? = some (.cells #[.int .i64 e.1, .int .i64 e.2] 30 (0, 0)) := by rw [← hW5]; exact hb0W2
      have hvb : some b0 ≠ v.ownBlock := fun e' => by
        rcases hrow.2 with ⟨q1, _⟩ | ⟨g, cap', cur, q1, _, q3, _⟩
        · rw [q1] at e'; cases e'
        · rw [q1] at e'
          cases e'
          rw [hb05] at q3; cases q3
      have y4 : W3.cell? ⟨b0, 0, none⟩ = some (.int .i64 e.1) := hgrow.cell (by rw [cell_row hb05]; rfl) hvb
      have y5 : W3.cell? ⟨b0, 1, none⟩ = some (.int .i64 e.2) := hgrow.cell (by rw [cell_row hb05]; rfl) hvb
      have y0 : W.drew.cell? ⟨b0, 0, none⟩ = some (.int .i64 e.1) := x0
      have y1 : W.drew.cell? ⟨b0, 1, none⟩ = some (.int .i64 e.2) := x1
      clear hb0W hb0W2 hb05 hvb hlk happ hv hW5 hGW hBW hrow hway hrow' hgrow hloc hG' hzl hiz his hib hjz hjs hjb hii hij hW4 hgs hWs hWs5 hL' x0 x1
      go_wp2_with fail
      go_region_law (first
        | (refine step_lookup rfl (.tmp 16) (.tmp 18) 42 rfl _ _ (by simp [Act.eval, Act.put]) (by simp [Act.eval, Act.put]) (by first | exact hlk0 | exact hlk1) ?_)
        | (refine step_append rfl (.tmp 19) (.tmp 22) 34 34 rfl _ _ (by simp [Act.eval, Act.put]) (by simp [Act.eval, Act.put]) happ1 ?_)
        | (refine step_update rfl (.tmp 13) (.tmp 15) (.tmp 23) 42 rfl rfl _ _ _ (by simp [Act.eval, Act.put]) (by simp [Act.eval, Act.put]) (by simp [Act.eval, Act.put]) hupd ?_))
      all_goals
        go_wp2_with fail
        go_roundw
        case rel => exact ⟨k + 1, ms', c', by go_num, by omega, hG4, hB4⟩
        case measure => simp [intOf]; omega
    · have hkn : k = n := by omega
      subst hkn
      go_wp2_with fail
      go_ret
      have e1 : l.take k = l := by rw [← HN.out]; exact List.take_length
      have hG := HG.out
      rw [e1] at hG
      exact ⟨ms, c, rfl, HB.out, hG⟩
end Go.Proofs.Ytcpendbmohfjcaa
end
