/-
  The chapter's examples of layer 6, and the law PackTexts.
-/
import Derived.Test.YtkdbphhekpdmhaaDoorPkE
namespace Go.Proofs.YtkdbphhekpdmhaaDoor
open Go.RowKit
set_option linter.unusedVariables false
set_option linter.unusedSimpArgs false
set_option maxRecDepth 100000
theorem bext {a b : ByteArray} (h : a.data.toList = b.data.toList) : a = b := by
  cases a; cases b; congr 1; exact Array.ext' h
theorem ext_list (s : ByteArray) (i j : Nat) : (s.extract i j).data.toList = (s.data.toList.take j).drop i := by
  rw [ByteArray.data_extract, Array.toList_extract, List.extract_eq_take_drop, List.drop_take]
theorem run_args {f : FuncId} {w : World} {ds : List AV} {vs : List Value} (hG : Glob w) (hl : ds.length = vs.length) (h : ∀ (j : Nat) (d : AV) (u : Value), ds[j]? = some d → vs[j]? = some u → VR (fun b _ => b < w.heap.size) w d u) (hA : AFn Tryd.prog f ds (.bool true)) :
    Calls Tryd.prog f ⟨vs⟩ w fun e w' => e = .returned (.bool true) ∧ Below w.heap.size w w' := by
  have := hA.calls w (fun b _ => b < w.heap.size) vs hG (fun b o hb => hb) hl h
  refine this.mono fun e w' ⟨u, he, hb, hr⟩ => ?_
  have hr' : VR (fun b o => (fun b _ => b < w.heap.size) b o ∨ w.heap.size ≤ b) w' (.bool true) u := hr
  cases hr'
  exact ⟨he, hb⟩
end Go.Proofs.YtkdbphhekpdmhaaDoor
