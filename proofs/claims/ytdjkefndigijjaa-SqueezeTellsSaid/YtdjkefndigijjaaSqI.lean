/-
  A slice of messages that came in, on the plain machine.
-/
import Derived.Test.YtdjkefndigijjaaSqH
import Derived.SizedLaws
namespace Go.Proofs.Ytdjkefndigijjaa
open Go.ChangeShapes Go.WideShapes Go.ChangeAt Go.RowKit
set_option linter.unusedVariables false
set_option linter.unusedSimpArgs false
set_option maxRecDepth 100000

instance : Inhabited Msg := ⟨⟨0, 0, ⟨#[]⟩, ⟨#[]⟩, false, ⟨#[]⟩⟩⟩
def Msg.vals (m : Msg) : List Value := [.int .i64 m.stamp, .int .i64 m.kind, .string m.key, .string m.hi, .bool m.op, .string m.val]
def msgE : Enc Msg := ⟨6, Msg.vals, fun m => m.key.size ≤ 281474976710656 ∧ m.hi.size ≤ 281474976710656 ∧ m.val.size ≤ 281474976710656, by decide, fun _ => rfl, fun a u hu => by
  simp only [Msg.vals, List.mem_cons, List.not_mem_nil, or_false] at hu
  rcases hu with rfl | rfl | rfl | rfl | rfl | rfl <;> rfl⟩

section
variable {H : Type} {enc : TypeId × Value → H} {w : World} {sp : Nat → Bool} {held : Bool}
theorem Sl.of_msgs {fuel : Nat} {v : Value} {x : DataW H × List MemPlace} (hbz : 1 ≤ Try.prog.bytesOf 55) (hw : (x.1.weights Try.prog 36).all (· ≤ reachBytes) = true)
    (h : DataW.trod enc Try.prog w 0 sp held fuel 36 [v] = some x) : ∃ l : List Msg, Sl msgE w v l := by
  have c3 : Try.prog.cellsOf 3 = 1 := by kernel_rfl
  have c9 : Try.prog.cellsOf 9 = 1 := by kernel_rfl
  have c4 : Try.prog.cellsOf 4 = 1 := by kernel_rfl
  obtain ⟨l, h1, _⟩ := Sl.of_trod (E := msgE) (Q := fun _ => True) Try.underlying36 (by kernel_rfl) (fun n cs' y hy hwy hlen => by
    obtain ⟨xs, n', _, rfl, hl, hxs, hf⟩ := DataW.trod_struct Try.underlying55 hy
    match cs', hlen, xs, hxs with
    | [v0, v1, v2, v3, v4, v5], _, [y0, y1, y2, y3, y4, y5], _ =>
      have h0 := hf 0 _ rfl
      have h1 := hf 1 _ rfl
      have h2 := hf 2 _ rfl
      have h3 := hf 3 _ rfl
      have h4 := hf 4 _ rfl
      have h5 := hf 5 _ rfl
      simp only [c3, c9, c4, List.drop_zero, List.drop_succ_cons, List.take_succ_cons, List.take_zero, List.getElem?_cons_zero, List.getElem?_cons_succ] at h0 h1 h2 h3 h4 h5
      obtain ⟨n0, e0, r0, b0⟩ := DataW.trod_int Try.underlying3 h0
      obtain ⟨n1, e1, r1, b1⟩ := DataW.trod_int Try.underlying3 h1
      obtain ⟨s2, e2, r2, b2⟩ := DataW.trod_string Try.underlying9 h2
      obtain ⟨s3, e3, r3, b3⟩ := DataW.trod_string Try.underlying9 h3
      obtain ⟨o4, e4, r4⟩ := DataW.trod_bool Try.underlying4 h4
      obtain ⟨s5, e5, r5, b5⟩ := DataW.trod_string Try.underlying9 h5
      cases e0; cases e1; cases e2; cases e3; cases e4; cases e5
      subst r0; subst r1; subst r2; subst r3; subst r4; subst r5
      simp only [DataW.weights, Try.underlying55, List.map_cons, List.map_nil] at hwy
      refine ⟨⟨n0, n1, s2, s3, o4, s5⟩, rfl, ?_, trivial⟩
      exact ⟨str_reach (weightsEach_mem hwy 2 _ _ rfl rfl), str_reach (weightsEach_mem hwy 3 _ _ rfl rfl), str_reach (weightsEach_mem hwy 5 _ _ rfl rfl)⟩) hbz hw h
  exact ⟨l, h1⟩
end

theorem msg_vr (Pr : Nat → Nat → Prop) (w : World) (m : Msg) : ∀ (j : Nat) (c : AV), m.a.cells[j]? = some c → ∃ u, m.vals[j]? = some u ∧ VR Pr w c u
  | 0, c, h => by cases h; exact ⟨_, rfl, .int _ _⟩
  | 1, c, h => by cases h; exact ⟨_, rfl, .int _ _⟩
  | 2, c, h => by cases h; exact ⟨_, rfl, .str _⟩
  | 3, c, h => by cases h; exact ⟨_, rfl, .str _⟩
  | 4, c, h => by cases h; exact ⟨_, rfl, .bool _⟩
  | 5, c, h => by cases h; exact ⟨_, rfl, .str _⟩
  | n + 6, c, h => by simp [Msg.a, AV.cells] at h

theorem VR.of_msgs {w : World} {v : Value} {l : List Msg} (h : Sl msgE w v l) : VR (fun b _ => b < w.heap.size) w (.sl (l.map Msg.a)) v := by
  obtain ⟨A, cap, rfl, h2, h3, _, _, h5⟩ := h
  have hlen : (l.map Msg.a).length = l.length := List.length_map _
  rw [← hlen]
  refine .sl _ A cap 6 (fun i j => ((l[i]?).map fun m => m.vals.getD j (.bool false)).getD (.bool false)) (by rw [hlen]; exact h2) h3 (fun h0 => ?_) (fun i d j c hi hj => ?_)
  · rw [hlen] at h0
    obtain ⟨b, off, e, hb, hc⟩ := h5 h0
    refine ⟨b, off, e, hb, fun d hd => ?_, fun i j hi hj => ⟨hb, ?_⟩⟩
    · obtain ⟨m, _, rfl⟩ := List.mem_map.1 hd; rfl
    · rw [hlen] at hi
      have hm : l[i]? = some (l[i]) := List.getElem?_eq_getElem hi
      have hv : (l[i]).vals[j]? = some ((l[i]).vals.getD j (.bool false)) := by
        rw [List.getD_eq_getElem?_getD, List.getElem?_eq_getElem (by show j < 6; exact hj)]; rfl
      have := Sl.cellAt (E := msgE) hc hm hv
      simp only [hm, Option.map_some, Option.getD_some]
      exact this
  · rw [List.getElem?_map, Option.map_eq_some_iff] at hi
    obtain ⟨m, hm, rfl⟩ := hi
    obtain ⟨u, hu, hv⟩ := msg_vr (fun b _ => b < w.heap.size) w m j c hj
    simp only [hm, Option.map_some, Option.getD_some]
    rw [List.getD_eq_getElem?_getD, hu]
    exact hv

theorem big_of {w : World} {v : Value} {l : List Msg} (h : Sl msgE w v l) : MBig l := by
  obtain ⟨A, cap, _, _, _, hL, hok, _⟩ := h
  refine ⟨hL, fun m hm => ?_⟩
  obtain ⟨i, hi⟩ := List.mem_iff_getElem?.1 hm
  exact hok i m hi

/-- a law of one slice of messages -/
theorem run_msgs {f : FuncId} {w : World} {v : Value} {l : List Msg} (h : Sl msgE w v l) (hA : AFn Try.prog f [.sl (l.map Msg.a)] (.bool true)) : Calls Try.prog f #[v] w fun e w' => e = .returned (.bool true) ∧ Below w.heap.size w w' := by
  have := hA.calls w (fun b _ => b < w.heap.size) [v] (fun b o hb => hb) rfl (fun j d u hj hu => by
    cases j with
    | zero => cases hj; cases hu; exact VR.of_msgs h
    | succ j => simp at hj)
  refine this.mono fun e w' ⟨u, he, hb, hr⟩ => ?_
  have hr' : VR (fun b o => (fun b _ => b < w.heap.size) b o ∨ w.heap.size ≤ b) w' (.bool true) u := hr
  cases hr'
  exact ⟨he, hb⟩
theorem once_walk (v : Value) (l : List Msg) (w : World) (h : Sl msgE w v l) : Calls Try.prog 6 #[v] w fun e w' => e = .returned (.bool true) ∧ Below w.heap.size w w' :=
  run_msgs h (once_law l (big_of h))
end Go.Proofs.Ytdjkefndigijjaa
