/-
  'Rows.TraceNodesSaid' is proved: the law percolatelaw46.TraceNodes returns true at every input, and its arguments read as they did. No condition.
-/
import Derived.Test.YtkdbphhekpdmhaaDoorTrH
import Derived.SizedLaws
import Derived.Test.YtkdbphhekpdmhaaDoorCards
import Derived.Test.YtkdbphhekpdmhaaDoorTie
import Derived.Deep.DeepHandedRow
import Derived.LaidLaws
import Derived.Lay
import Derived.SevenTiedAt
namespace Go.Proofs.YtkdbphhekpdmhaaDoor.traceNodes
open Go.ChangeShapes Go.WideShapes Go.ChangeAt Go.RowKit
open Go.ChangeMaps (open_string shut_string)
set_option linter.unusedVariables false

set_option maxRecDepth 100000 in
theorem lifted (os : Os) (started : os.Started) (H : Type) (enc : TypeId × Value → H) :
    ReturnsInHanded {} Tryd.checked os 8 .any (fun w args => (Rows.traceNodesSpec.pre enc Tryd.prog Tryd.f8 [] false w args ∧ laidMetH Tryd.prog Rows.traceNodesRow.laid w) ∧ sizedMet enc Tryd.prog Tryd.f8 (OpenSpec.ofChange Rows.traceNodesSpec) false w args) (Rows.traceNodesSpec.post enc Tryd.prog Tryd.f8 false true false false) := by
  refine returnsInHanded_of_row (C := Tryd.checked) (s := OpenSpec.ofChange Rows.traceNodesSpec) (F := fun _ _ _ => 0) ownK started (by kernel_rfl) Tryd.func8
    (ChangeSpec.witness_shaped (enc := enc) (C := Tryd.checked) (os := os) (X := fun w _ => laidMetH Tryd.prog Rows.traceNodesRow.laid w) false (World.laidAll Tryd.prog os Rows.traceNodesRow.laid) #[.agg #[.int .i64 0, .int .i64 0, .slice none 0 0, .slice none 0 0, .string .empty, .bool false, .int .i64 0, .int .i64 0, .slice none 0 0, .slice none 0 0], .agg #[.int .i64 0, .int .i64 0, .bool false], .agg #[.int .i64 0, .int .i64 0, .string .empty, .string .empty, .bool false, .string .empty]] 8 (World.laidAll_os _ _ _)
      (World.shaped_of_ZipB (by kernel_rfl) (by kernel_rfl)) (by kernel_rfl) (by kernel_rfl) (by kernel_rfl)
      (by rw [MakeChecks.laidMetH_plain _ _ _ (by kernel_rfl)]; exact laidMet_laidAll _ (by kernel_rfl) (by kernel_rfl))) ?_
  intro W base args ds gs before hval0 hW hcnd hk hsz hL hsh _
  have hval : ∀ (j : Nat) t v, Tryd.f8.params[j]? = some t → args[j]? = some v → Value.okWide Tryd.prog W .any base t v := hval0
  have hW' := hW
  obtain ⟨p, q, hA0, hV, rfl, hfz, hnd⟩ := hW
  have hA : DataW.TrodAll enc Tryd.prog W 0 (fun _ => true) true Tryd.f8.params.toList args.toList ds p := hA0
  rw [Tryd.params8] at hA hval
  obtain ⟨v0, vs0, d0, ds0, p0, q0, hargs, rfl, rfl, h0, r0⟩ := trodAll_cons hA
  obtain ⟨v1, vs1, d1, ds1, p1, q1, rfl, rfl, rfl, h1, r1⟩ := trodAll_cons r0
  obtain ⟨v2, vs2, d2, ds2, p2, q2, rfl, rfl, rfl, h2, r2⟩ := trodAll_cons r1
  obtain ⟨rfl, rfl, rfl⟩ := trodAll_nil r2
  obtain rfl : args = #[v0, v1, v2] := by cases args; simp_all
  obtain ⟨rfl, rfl⟩ := trodVars_none hV
  have hw0 : (d0.weights Tryd.prog 34).all (· ≤ reachBytes) = true := weightsEach_mem hsz 0 34 d0 rfl rfl
  obtain ⟨c0, rfl, hc0⟩ := okWide_struct Tryd.underlying34 (hval 0 34 v0 rfl rfl)
  obtain ⟨fu0, ht0⟩ := h0
  have f0 : ∃ ds, ReadsAs W (NdT) c0.toList ds := typed_in 8 (x := (d0, p0)) (by kernel_rfl) hw0 ht0
  have hw1 : (d1.weights Tryd.prog 63).all (· ≤ reachBytes) = true := weightsEach_mem hsz 1 63 d1 rfl rfl
  obtain ⟨c1, rfl, hc1⟩ := okWide_struct Tryd.underlying63 (hval 1 63 v1 rfl rfl)
  obtain ⟨fu1, ht1⟩ := h1
  have f1 : ∃ ds, ReadsAs W (HldT) c1.toList ds := typed_in 8 (x := (d1, p1)) (by kernel_rfl) hw1 ht1
  have hw2 : (d2.weights Tryd.prog 65).all (· ≤ reachBytes) = true := weightsEach_mem hsz 2 65 d2 rfl rfl
  obtain ⟨c2, rfl, hc2⟩ := okWide_struct Tryd.underlying65 (hval 2 65 v2 rfl rfl)
  obtain ⟨fu2, ht2⟩ := h2
  have f2 : ∃ ds, ReadsAs W (MsgT) c2.toList ds := typed_in 8 (x := (d2, p2)) (by kernel_rfl) hw2 ht2
  have hL' := hL
  rw [MakeChecks.laidMetH_plain _ _ _ (by kernel_rfl)] at hL'
  have hL3 : laidMet Tryd.prog (("internal/strconv.uint64pow10", Rows.laid_internal_strconv_uint64pow10) :: [("unicode/utf8.acceptRanges", Rows.laid_unicode_utf8_acceptRanges), ("unicode/utf8.first", Rows.laid_unicode_utf8_first)]) W := (laidMet.tail (laidMet.tail hL'))
  rw [show (Rows.laid_internal_strconv_uint64pow10 : DataW Unit) = Lib.tabData .u64 Lib.pow10Tab by kernel_rfl] at hL3
  have htab : PowTab W := Lib.tabIs_of_head (g := 1) (t := 205) (e := 173) (n := 20) (by kernel_rfl) (by kernel_rfl) Tryd.underlying205 Tryd.underlying173 (by kernel_rfl) (by kernel_rfl) hL3
  refine (nodesL_walk c0 c1 c2 W (Glob.start hsh htab) f0 f1 f2).mono fun e W' ⟨he, hb⟩ => ?_
  subst he
  exact ⟨_, rfl, post_law laidOut hW' rfl rfl rfl rfl rfl Tryd.underlying4 (by intro t ht; rw [Tryd.params8] at ht; simp only [List.mem_cons, List.not_mem_nil, or_false] at ht; rcases ht with rfl | rfl | rfl <;> exact ⟨by kernel_rfl, of_decide_eq_true (by kernel_rfl)⟩) hb⟩

theorem holds : Rows.TraceNodesSaid :=
  OpenClaim.holds_of_wide 8 Tryd.f8 rfl rfl rfl rfl rfl rfl rfl ⟨rfl, rfl, rfl, rfl, rfl⟩ rfl rfl rfl rfl rfl (by kernel_rfl) Tryd.func8 (by kernel_rfl)
    (of_decide_eq_true (by kernel_rfl)) (by unfold Func.isWrapper; first | (rw [if_pos (by decide +kernel)]; kernel_rfl) | (rw [if_neg (by decide +kernel)]; exact ⟨rfl, rfl⟩))
    (fun os started H enc _ => lifted os started H enc)

theorem proved : Rows.TraceNodesCardSaid :=
  Claim7.holds_tied_plain_at .later [] [.data, .data, .data, .data, .pinned] true (true, "6d4d48c3f6fefbf1e2cf982cc49fe5371c62b5ac4bab2572e20cc2156aad0ba8") false holds (fun _ h => by cases h) (by kernel_rfl) (fun _ h => by cases h) traceNodes_row_tie rfl ⟨rfl, rfl⟩ (by kernel_rfl) rfl
    (fun f fn hf hfn => by
      obtain rfl : f = 8 := Option.some.inj ((show Tryd.prog.funcNamed "percolate/percolatelaw46.TraceNodes" = some 8 by kernel_rfl).symm.trans hf) |>.symm
      obtain rfl : fn = Tryd.f8 := (Option.some.inj (Tryd.func8.symm.trans hfn)).symm
      exact ⟨by kernel_rfl, fun j t ht => by
        rw [Tryd.params8] at ht
        have hm : t ∈ [34, 63, 65] := by simpa using Array.mem_of_getElem? ht
        have hall : ([34, 63, 65].all fun u => !Tryd.prog.wantsStandIn u) = true := by kernel_rfl
        exact (show Tryd.prog.wantsStandIn t = false by simpa using List.all_eq_true.1 hall t hm)⟩)
    (by kernel_rfl)

end Go.Proofs.YtkdbphhekpdmhaaDoor.traceNodes
