/-
  Part 18 of a proof: SiA, SiB, SiC, ShR.
-/
import Derived.Deep.RegionLaw
import Derived.Test.YtkfciapeikkmfaaDoorST17
set_option linter.unusedVariables false
set_option linter.unusedSimpArgs false
set_option maxRecDepth 100000
section
namespace Go.Proofs.YtkfciapeikkmfaaDoor
open Go.RowKit Go.MapKept
set_option maxHeartbeats 4000000 in
theorem draw_calls (l : List Nd) (S : List Seat) (W : Whole l S) (hlt : ∀ n, n ∈ l → n.Lt) (hs2 : ∀ x, x ∈ S → x.s.le 2000) (a m : Nat) (w0 : World) (hG0 : Glob w0) : ∀ (f : Nat) (z : Seat), z ∈ S → z.n.level < f → ∀ (d : Int), 0 ≤ d → d + f ≤ 100000 → ∀ (gone : List Int) (out : List ByteArray),
    (∀ x, x ∈ preS (z33 S) f z.n.slot → x ∉ gone) → out.length + (preS (z33 S) f z.n.slot).length ≤ 1000 → ∀ (w : World), Art w0 l a m w gone out →
    Calls Tryd.prog 35 #[.pointer (some ⟨a, 0, none⟩), .int .i64 z.n.slot, .agg #[.string z.s.lo, .string z.s.hi, .bool z.s.op], .int .i64 d] w fun e w' => (∃ v, e = .returned v) ∧ KpA w0.heap.size a m w w' ∧
      Art w0 l a m w' (gone ++ preS (z33 S) f z.n.slot) (out ++ z4g l f z.n.slot z.s d) := by
  intro f
  induction f with
  | zero => intro z hz h0; have := W.seats.lev z hz; omega
  | succ f ih =>
    intro z hz hlev d hd hdf gone out hgone hlen w hA
    obtain ⟨v, ha, hrow⟩ := hA.art
    obtain ⟨ms, mc, hm, hmr⟩ := hA.map
    have hnz := W.seats.node z hz
    have hself : z.n.slot ∉ gone := hgone _ (by rw [preS]; exact List.mem_cons_self ..)
    obtain ⟨hmem, _⟩ := leftL_mem W.ord hnz hself
    have hlk := lkp_mem (zls W.ord gone) hmem
    rcases hmr.lookup z.n.slot with ⟨q, _⟩ | ⟨j, en, mm, q1, q2, q3, q4, q5, q6, _⟩
    · rw [hlk] at q; cases q
    rw [hlk] at q1
    rw [← Option.some.inj q1] at q6
    obtain ⟨c, hc, hnc⟩ := y86 q6
    rw [hc] at q6 q5
    obtain ⟨A2, A3, A8, A9, l2, k2, l3, k3, l8, k8, l9, k9, rfl⟩ := hnc
    have za : w.cell? ⟨a, 0, none⟩ = some (.map (some m)) := by rw [z04 ha]; rfl
    have zb : w.cell? ⟨a, 1, none⟩ = some v := by rw [z04 ha]; rfl
    have hma := hA.ne
    have hmlt := (Array.getElem?_eq_some_iff.1 hm).1
    have halt := (Array.getElem?_eq_some_iff.1 ha).1
    have hL : ∀ o, (Instr.lookup 71 (.map (some m)) (.int .i64 z.n.slot) true).run Tryd.prog (w.alloc o) = _ := fun o => mlook_one ((Below.heap_alloc w o m hmlt).trans hm) q5
    have zc : ∀ o, (w.alloc o).cell? ⟨a, 0, none⟩ = some (.map (some m)) := fun o => y9g o za
    have zd : ∀ o o', ((w.alloc o).alloc o').cell? ⟨a, 0, none⟩ = some (.map (some m)) := fun o o' => y9g o' (y9g o za)
    have hm2 : ∀ o o', ((w.alloc o).alloc o').heap[m]? = some (.map ms mc) := fun o o' => (Below.heap_alloc _ o' m (by simp; omega)).trans ((Below.heap_alloc w o m hmlt).trans hm)
    go_enter Tryd.func35, Tryd.ntmps35
    go_wp2_with (refine wpList_plain rfl fun K hK => wp_del _ _ _ rfl m ms mc j _ _ rfl rfl (hm2 _ _) q5 fun W1 hd1 hd2 => hK _ _ ?_)
    obtain ⟨hd3, hd4, hd5, hd6, hd7⟩ := hd2
    simp only [World.size_alloc] at hd6
    have h6 : W1.heap[w.heap.size]? = some (.cells #[.string z.s.lo, .string z.s.hi, .bool z.s.op] 29 (0, 0)) := by
      rw [hd7 _ (by omega), Below.heap_alloc _ _ _ (by simp)]; exact (heap_alloc w _).1
    have h8 : W1.heap[w.heap.size + 1]? = some (.cells #[.int .i64 z.n.slot, .int .i64 z.n.level, .slice A2 l2 k2, .slice A3 l3 k3, .string z.n.high, .bool z.n.top, .int .i64 z.n.right, .int .i64 z.n.seen, .slice A8 l8 k8, .slice A9 l9 k9] 27 (0, 0)) := by
      rw [hd7 _ (by omega)]
      have := (heap_alloc (w.alloc (.cells #[.string z.s.lo, .string z.s.hi, .bool z.s.op] 29)) (.cells #[.int .i64 z.n.slot, .int .i64 z.n.level, .slice A2 l2 k2, .slice A3 l3 k3, .string z.n.high, .bool z.n.top, .int .i64 z.n.right, .int .i64 z.n.seen, .slice A8 l8 k8, .slice A9 l9 k9] 27)).1
      rwa [World.size_alloc] at this
    have hold : ∀ k, k < w.heap.size → k ≠ m → W1.heap[k]? = w.heap[k]? := fun k hk hne => by
      rw [hd7 _ hne, Below.heap_alloc _ _ _ (by simp; omega), Below.heap_alloc _ _ _ hk]
    have ha1 : W1.heap[a]? = some (.cells #[.map (some m), v] 73 (0, 0)) := (hold a halt hma).trans ha
    have hrow1 : W1.ownsRow w0.heap.size 9 1 v out.length (out.map .string) := by
      refine ⟨hrow.1, ?_⟩
      rcases hrow.2 with q | ⟨g, cap, cur, e, y1, y2, y3⟩
      · exact .inl q
      · refine .inr ⟨g, cap, cur, e, y1, (hold g (Array.getElem?_eq_some_iff.1 y2).1 fun e => ?_).trans y2, y3⟩
        rw [e, hm] at y2; cases y2
    have hbw1 : Below w0.heap.size w0 W1 := hA.bw.trans ⟨hd3, hd4, hd5, by omega, fun k hk => hold k (Nat.lt_of_lt_of_le hk hA.bw.size) (by have := hA.hm; omega)⟩
    have hG1 : Glob W1 := Glob.below hG0 hbw1
    have hV1 := VR.belowN q6 hbw1
    have c1 : W1.cell? ⟨a, 1, none⟩ = some v := by rw [z04 ha1]; rfl
    have n0 : W1.cell? ⟨w.heap.size + 1, 0, none⟩ = some (.int .i64 z.n.slot) := by rw [z04 h8]; rfl
    have n1 : W1.cell? ⟨w.heap.size + 1, 1, none⟩ = some (.int .i64 z.n.level) := by rw [z04 h8]; rfl
    have n2 : W1.cell? ⟨w.heap.size + 1, 2, none⟩ = some (.slice A2 l2 k2) := by rw [z04 h8]; rfl
    have n3 : W1.cell? ⟨w.heap.size + 1, 3, none⟩ = some (.slice A3 l3 k3) := by rw [z04 h8]; rfl
    have n4 : W1.cell? ⟨w.heap.size + 1, 4, none⟩ = some (.string z.n.high) := by rw [z04 h8]; rfl
    have n5 : W1.cell? ⟨w.heap.size + 1, 5, none⟩ = some (.bool z.n.top) := by rw [z04 h8]; rfl
    have n6 : W1.cell? ⟨w.heap.size + 1, 6, none⟩ = some (.int .i64 z.n.right) := by rw [z04 h8]; rfl
    have n7 : W1.cell? ⟨w.heap.size + 1, 7, none⟩ = some (.int .i64 z.n.seen) := by rw [z04 h8]; rfl
    have n8 : W1.cell? ⟨w.heap.size + 1, 8, none⟩ = some (.slice A8 l8 k8) := by rw [z04 h8]; rfl
    have n9 : W1.cell? ⟨w.heap.size + 1, 9, none⟩ = some (.slice A9 l9 k9) := by rw [z04 h8]; rfl
    have s0 : W1.cell? ⟨w.heap.size, 0, none⟩ = some (.string z.s.lo) := by rw [z04 h6]; rfl
    have s1 : W1.cell? ⟨w.heap.size, 1, none⟩ = some (.string z.s.hi) := by rw [z04 h6]; rfl
    have s2 : W1.cell? ⟨w.heap.size, 2, none⟩ = some (.bool z.s.op) := by rw [z04 h6]; rfl
    have hG1d : Glob W1.drew := Glob.below hG1 ((Below.refl _ W1).drew)
    have hV1d := VR.belowN hV1 ((Below.refl _ W1).drew)
    have hnl := (z0v W.ord hnz)
    have hLt := hlt z.n hnl.2.1
    have hfew := W.few
    have hthin : z.n.Thin := ⟨by omega, hLt.nkid, hLt.nrow, fun p hp => (hLt.rows p hp).1, hLt.nmsg⟩
    obtain ⟨i0, hi, hz0, hz1, hz2⟩ := info_parts infoS_dr
    have hmx : out.length + 1 ≤ maxLen := by have : 100000 ≤ maxLen := by decide
                                             omega
    have hby : (out.length + 1) * 16 ≤ 140737488355328 := by omega
    have hra : some a ≠ v.ownBlock := zv7 hrow1 ha1 (by decide)
    have hrn : some (w.heap.size + 1) ≠ v.ownBlock := zv7 hrow1 h8 (by decide)
    have hrs : some w.heap.size ≠ v.ownBlock := zv7 hrow1 h6 (by decide)
    have hna : w.heap.size + 1 ≠ a ∧ w.heap.size ≠ a := by omega
    have hS : ∀ X : World, (∀ k, k < W1.heap.size → some k ≠ v.ownBlock → k ≠ a → X.heap[k]? = W1.heap[k]?) → (X.cell? ⟨w.heap.size + 1, 0, none⟩ = some (.int .i64 z.n.slot) ∧ X.cell? ⟨w.heap.size + 1, 1, none⟩ = some (.int .i64 z.n.level) ∧ X.cell? ⟨w.heap.size + 1, 2, none⟩ = some (.slice A2 l2 k2) ∧ X.cell? ⟨w.heap.size + 1, 3, none⟩ = some (.slice A3 l3 k3) ∧ X.cell? ⟨w.heap.size + 1, 4, none⟩ = some (.string z.n.high) ∧ X.cell? ⟨w.heap.size + 1, 5, none⟩ = some (.bool z.n.top) ∧ X.cell? ⟨w.heap.size + 1, 6, none⟩ = some (.int .i64 z.n.right) ∧ X.cell? ⟨w.heap.size + 1, 7, none⟩ = some (.int .i64 z.n.seen) ∧ X.cell? ⟨w.heap.size + 1, 8, none⟩ = some (.slice A8 l8 k8) ∧ X.cell? ⟨w.heap.size + 1, 9, none⟩ = some (.slice A9 l9 k9) ∧ X.cell? ⟨w.heap.size, 0, none⟩ = some (.string z.s.lo) ∧ X.cell? ⟨w.heap.size, 1, none⟩ = some (.string z.s.hi) ∧ X.cell? ⟨w.heap.size, 2, none⟩ = some (.bool z.s.op)) := fun X hX => by
      have en := hX (w.heap.size + 1) (by omega) hrn hna.1
      have es := hX w.heap.size (by omega) hrs hna.2
      exact ⟨(World.cell?_of_block (w := W1) en).trans n0, (World.cell?_of_block (w := W1) en).trans n1, (World.cell?_of_block (w := W1) en).trans n2, (World.cell?_of_block (w := W1) en).trans n3, (World.cell?_of_block (w := W1) en).trans n4, (World.cell?_of_block (w := W1) en).trans n5, (World.cell?_of_block (w := W1) en).trans n6, (World.cell?_of_block (w := W1) en).trans n7, (World.cell?_of_block (w := W1) en).trans n8, (World.cell?_of_block (w := W1) en).trans n9, (World.cell?_of_block (w := W1) es).trans s0, (World.cell?_of_block (w := W1) es).trans s1, (World.cell?_of_block (w := W1) es).trans s2⟩
    have hSa : ∀ X : World, (∀ k, k < W1.heap.size → some k ≠ v.ownBlock → X.heap[k]? = W1.heap[k]?) → X.cell? ⟨a, 1, none⟩ = some v ∧ X.frozen? ⟨a, 1, none⟩ = false := fun X hX => by
      have ea := hX a (by omega) hra
      refine ⟨(World.cell?_of_block (w := W1) ea).trans c1, ?_⟩
      rw [World.frozen?_of_block (w := W1) ea]
      simp [World.frozen?, ha1]
    have cd : W1.drew.cell? ⟨a, 1, none⟩ = some v := c1
    go_cut [] from 28 to 40 (fun wx => ∃ v', wx.heap[a]? = some (.cells #[.map (some m), v'] 73 (0, 0)) ∧ wx.ownsRow w0.heap.size 9 1 v' (out.length + 1) ((out ++ [z.n.shp z.s d]).map .string) ∧ W1.heap.size ≤ wx.heap.size ∧
      (wx.os = W1.os ∧ wx.tape = W1.tape ∧ wx.output = W1.output) ∧ (∀ k, k < W1.heap.size → some k ≠ v.ownBlock → k ≠ a → wx.heap[k]? = W1.heap[k]?) ∧ ∀ k, v'.ownBlock = some k → v.ownBlock = some k ∨ W1.heap.size ≤ k)
    case first =>
      go_region_law
        (first
          | (refine step_append_lies _ rfl _ _ 22 rfl w0.heap.size 9 i0 (.string ⟨#[]⟩) 1 16 Tryd.underlying22 hi hz0 hz1 hz2 rfl (by decide) v out.length (out.map .string) rfl (owns_below hrow1 (hB13 _)) ⟨w3.heap.size, 0, none⟩ 1 1 [.string (z.n.shp z.s d)] rfl rfl (cell_one_new _ _ _) (by simp [Value.oneCell']) (by decide) hmx hby hbs _ rfl ?_; intro g cap w5 hown hgrow hat hlt5; have hw5 := fun k (hk : k < W1.heap.size) hne => (hgrow.block k (Nat.lt_of_lt_of_le hk (hB13 _).size) hne).trans ((hB13 _).block k hk); have hfz := (hSa _ hw5).2; have hcz := (hSa _ hw5).1)
          | (go_simp; go_at_call 8; refine (line_calls hG1d z.n z.s d hthin (hs2 z hz).1 (hs2 z hz).2 hV1d).mono ?_; rintro e w3 ⟨rfl, hB3⟩; have hB13 := fun o => (((Below.refl _ W1).drew).trans hB3).alloc hB3.size o; have hbs : w0.heap.size ≤ (w3.alloc (.cells #[.string (z.n.shp z.s d)] 9)).heap.size := Nat.le_trans (Nat.le_trans hbw1.size hB3.size) (by simp); have cw3 := (hSa w3 (fun k hk _ => hB3.block k hk)).1; have cw4 := fun o => (hSa (w3.alloc o) (fun k hk _ => (hB13 o).block k hk)).1; dsimp only))
      all_goals (go_wp2_with fail; go_meet)
      all_goals (
        case rel =>
          have ea := hw5 a (by omega) hra
          rw [ha1] at ea
          have hga := zv7 hown ea (by decide)
          refine ⟨_, ?_, owns_same (v := .slice (some ⟨g, 0, none⟩) (out.length + 1) cap) (by rw [List.map_append]; exact hown) (fun k hk => Below.heap_setCell _ _ _ _ fun e => ?_), ?_, ⟨?_, ?_, ?_⟩, fun k hk h1 h2 => (Below.heap_setCell _ _ _ _ h2).trans (hw5 k hk h1), fun k hk => ?_⟩
          · exact (set_row (j := 1) _ ea).trans rfl
          · cases hk; exact hga (congrArg some e.symm)
          · have := hgrow.size
            have := (hB13 (.cells #[.string (z.n.shp z.s d)] 9)).size
            simp only [World.setCell, Array.size_modify]
            omega
          · exact hgrow.os.trans (hB13 _).os
          · exact hgrow.tape.trans (hB13 _).tape
          · exact hgrow.output.trans (hB13 _).output
          · cases hk
            rcases hat with e | e
            · exact .inl e
            · right; rw [e]; exact (hB13 _).size)
    case rest =>
      obtain ⟨v', e1, e2, e3, ⟨e4, e5, e6⟩, e7, e8⟩ := hcut
      have hmrow : some m ≠ v.ownBlock := by
        rcases hrow.2 with ⟨rfl, _⟩ | ⟨g, cap, cur, rfl, y1, y2, y3⟩
        · intro e; cases e
        · intro e; cases e; rw [hm] at y2; cases y2
      have h8' := (e7 _ (by omega) hrn hna.1).trans h8
      have h6' := (e7 _ (by omega) hrs hna.2).trans h6
      have hm' := (e7 m (by omega) hmrow (Ne.symm hma)).trans hd1
      have hbwc : Below w0.heap.size w0 wc := hbw1.trans ⟨e4, e5, e6, e3, fun k hk => e7 k (by have := hbw1.size; omega) (fun e => by
        rcases hrow.2 with ⟨rfl, _⟩ | ⟨g, cap, cur, rfl, y1, y2, y3⟩
        · cases e
        · cases e; have hk2 : g < w0.heap.size := hk; omega) (by have := hA.ha; omega)⟩
      have hAc : Art w0 l a m wc (gone ++ [z.n.slot]) (out ++ [z.n.shp z.s d]) := by
        refine ⟨hbwc, hA.ha, hA.hm, hma, ⟨v', e1, by rw [List.length_append]; exact e2⟩, ⟨_, mc, hm', ?_⟩⟩
        have hj : j < (z1p (zf6 l gone)).length := (List.getElem?_eq_some_iff.1 q2).1
        obtain ⟨x, hx⟩ : ∃ x, (zf6 l gone)[j]? = some x := ⟨_, List.getElem?_eq_getElem (by unfold z1p at hj; rwa [List.length_map] at hj)⟩
        have hxs : x.slot = z.n.slot := by
          have k1 := hmr.key j en mm q2 q3
          rw [q4] at k1
          have k2 : (z1p (zf6 l gone))[j]? = some (x.slot, x.a) := by unfold z1p; rw [List.getElem?_map, hx]; rfl
          rw [q2] at k2
          have k3 := Option.some.inj k2
          rw [k3] at k1
          exact (by injection k1 with _ k4; exact k4.symm)
        have := hmr.erase hj
        rw [zfr, y3q W.ord hx, hxs] at this
        exact this
      have hKc : KpA w0.heap.size a m w wc := by
        refine ⟨⟨e4.trans hd3, e5.trans hd4, e6.trans hd5, by omega, fun k hk => ?_⟩, fun k hk k1 k2 k3 => ?_, fun k hk => ?_⟩
        · have := hA.bw.size
          exact ((hbwc.block k hk).trans (hA.bw.block k hk).symm)
        · rw [e7 k (by omega) (fun e => k3 ?_) k1]
          · exact hold k hk k2
          · rcases hrow.2 with ⟨rfl, _⟩ | ⟨g, cap, cur, rfl, y1, y2, y3⟩
            · cases e
            · cases e; exact ⟨_, _, _, zb⟩
        · obtain ⟨o, l', c', hk⟩ := hk
          have zc' : wc.cell? ⟨a, 1, none⟩ = some v' := by rw [z04 e1]; rfl
          rw [zc'] at hk
          cases hk
          rcases e8 k rfl with e | e
          · left
            rcases hrow.2 with ⟨rfl, _⟩ | ⟨g, cap, cur, rfl, y1, y2, y3⟩
            · cases e
            · cases e; exact ⟨_, _, _, zb⟩
          · right; omega
      have lv : wc.cell? ⟨w.heap.size + 1, 1, none⟩ = some (.int .i64 z.n.level) := by rw [z04 h8']; rfl
      have lk : wc.cell? ⟨w.heap.size + 1, 3, none⟩ = some (.slice A3 l3 k3) := by rw [z04 h8']; rfl
      have hlev0 := W.seats.lev z hz
      by_cases hl0 : z.n.level = 0
      · have hl0' : (z.n.level == 0) = true := by simp [hl0]
        have hkn : z.n.kids = [] := by
          cases hks : z.n.kids with
          | nil => rfl
          | cons k r => have := (W.seats.kid z hz 0 k (by rw [hks]; rfl)).1; omega
        have ep : preS (z33 S) (f + 1) z.n.slot = [z.n.slot] := by rw [preS, (W.seats.slots hz).1, hkn]; rfl
        have ed : z4g l (f + 1) z.n.slot z.s d = [z.n.shp z.s d] := by rw [z4g, hnz]; simp only; rw [hkn]; rfl
        go_wp2_with fail
        refine bodyPost_ret (results_none rfl _ _ _) rfl ?_
        exact ⟨⟨_, rfl⟩, hKc, hAc⟩
      · have hl0' : (z.n.level == 0) = false := by simp [hl0]
        have hpos : 0 < z.n.level := by omega
        obtain ⟨vp, hkl, hkc, vk⟩ := nd_kids q6 rfl rfl
        have hF := W.seats.forest
        have hok : ∀ x, x ∈ S → x.n.slot ∈ S.map fun x => x.n.slot := fun x hx => List.mem_map.2 ⟨x, hx, rfl⟩
        have hnd := zld hF (f + 1) z.n.slot (hok z hz)
        have ep : preS (z33 S) (f + 1) z.n.slot = z.n.slot :: z.n.kids.flatMap (preS (z33 S) f) := by rw [preS, (W.seats.slots hz).1]
        have ed : z4g l (f + 1) z.n.slot z.s d = z.n.shp z.s d :: z3e (fun k t => z4g l f k t (d + 1)) z.n.pivots z.s 0 z.n.kids := by rw [z4g, hnz]
        rw [ep] at hnd hgone hlen
        rw [List.nodup_cons] at hnd
        rw [List.length_cons] at hlen
        have hgone' : ∀ x, x ∈ z.n.kids.flatMap (preS (z33 S) f) → x ∉ gone ++ [z.n.slot] := fun x hx hg => by
          rcases List.mem_append.1 hg with hg | hg
          · exact hgone x (List.mem_cons_of_mem _ hx) hg
          · rw [List.mem_singleton] at hg; subst hg; exact hnd.1 hx
        obtain ⟨GD, hGD⟩ : ∃ GD, gone ++ z.n.slot :: z.n.kids.flatMap (preS (z33 S) f) = GD := ⟨_, rfl⟩
        obtain ⟨OD, hOD⟩ : ∃ OD, out ++ z.n.shp z.s d :: z3e (fun k t => z4g l f k t (d + 1)) z.n.pivots z.s 0 z.n.kids = OD := ⟨_, rfl⟩
        have hkn := hLt.nkid
        subst hkl
        go_wp2_with fail
        go_loopw [47] (fun i wr => ∃ (k : Nat) (gk : List Int) (ok : List ByteArray), i = .int .i64 k ∧ k ≤ z.n.kids.length ∧ KpA w0.heap.size a m wc wr ∧ Art w0 l a m wr gk ok ∧
            gk ++ (z.n.kids.drop k).flatMap (preS (z33 S) f) = GD ∧ ok ++ z3e (fun k t => z4g l f k t (d + 1)) z.n.pivots z.s k (z.n.kids.drop k) = OD ∧
            (∀ x, x ∈ (z.n.kids.drop k).flatMap (preS (z33 S) f) → x ∉ gk) ∧ ok.length + ((z.n.kids.drop k).flatMap (preS (z33 S) f)).length ≤ 1000)
          (fun i _ => z.n.kids.length - (intOf i).toNat)
        case atStart =>
          refine ⟨0, gone ++ [z.n.slot], out ++ [z.n.shp z.s d], rfl, Nat.zero_le _, ⟨Below.refl _ _, fun _ _ _ _ _ => rfl, fun _ h => .inl h⟩, hAc, by rw [List.drop_zero, List.append_assoc, ← hGD]; rfl, by rw [List.drop_zero, List.append_assoc, ← hOD]; rfl, by rw [List.drop_zero]; exact hgone', by rw [List.drop_zero, List.length_append, List.length_singleton]; omega⟩
        case round =>
          obtain ⟨k, gk, ok, rfl, hk, hKr, hAr, g1, o1, dj, ln⟩ := hrel
          have zc' : wc.cell? ⟨a, 1, none⟩ = some v' := by rw [z04 e1]; rfl
          have nrw : ∀ q, q < W1.heap.size → some q ≠ v.ownBlock → ¬ rowA a wc q := fun q hq hne ⟨o, l', c', h⟩ => by
            rw [zc'] at h
            cases h
            rcases e8 q rfl with e | e
            · exact hne e.symm
            · omega
          have hAd := hAr
          obtain ⟨va, r1, r2⟩ := hAr.art
          have hwcs := hKr.below.size
          have hr8 := (hKr.same _ (by omega) hna.1 (by omega) (nrw _ (by omega) hrn)).trans h8'
          have hr6 := (hKr.same _ (by omega) hna.2 (by omega) (nrw _ (by omega) hrs)).trans h6'
          by_cases hlt' : k < z.n.kids.length
          case neg =>
            have hk' : k = z.n.kids.length := by omega
            subst hk'
            go_wp2_with fail
            go_end0
            rw [List.drop_length] at g1 o1
            simp only [List.flatMap_nil, List.append_nil, z3e] at g1 o1
            exact ⟨⟨_, rfl⟩, hKc.trans hKr, by rw [ep, ed, hGD, hOD, ← g1, ← o1]; exact hAr⟩
          obtain ⟨kid, hkid⟩ : ∃ kid, z.n.kids[k]? = some kid := ⟨_, List.getElem?_eq_getElem hlt'⟩
          obtain ⟨_, y, hy, hy1, hy2, hy3⟩ := W.seats.kid z hz k kid hkid
          obtain ⟨b, off, rfl, hbl, hcell⟩ := vk k kid hkid
          subst hy1
          have hcell' : wr.cell? ⟨b, off + k, none⟩ = some (.int .i64 y.n.slot) := (hAr.bw.cell (p := ⟨b, off + k, none⟩) hbl).trans hcell
          have hki : (k : Int) < (z.n.kids.length : Int) := by omega
          have p2 : wr.cell? ⟨w.heap.size + 1, 2, none⟩ = some (.slice A2 l2 k2) := by rw [z04 hr8]; rfl
          have p3 : wr.cell? ⟨w.heap.size, 0, none⟩ = some (.string z.s.lo) := by rw [z04 hr6]; rfl
          have p4 : wr.cell? ⟨w.heap.size, 1, none⟩ = some (.string z.s.hi) := by rw [z04 hr6]; rfl
          have p5 : wr.cell? ⟨w.heap.size, 2, none⟩ = some (.bool z.s.op) := by rw [z04 hr6]; rfl
          have hGr : Glob wr := Glob.below hG0 hAr.bw
          have hGrd : Glob wr.drew := Glob.below hGr ((Below.refl _ wr).drew)
          have vpd := VR.belowN (VR.belowN vp hAr.bw) ((Below.refl _ wr).drew)
          have hkp : k ≤ z.n.pivots.length := by have := W.piv z hz hpos; omega
          have hnkr : ∀ q, q < W1.heap.size → some q ≠ v.ownBlock → ¬ rowA a wr q := fun q hq hne hr => by
            rcases hKr.row q hr with e | e
            · exact nrw q hq hne e
            · omega
          have hT : ∀ X : World, (∀ q, q < wr.heap.size → q ≠ a → q ≠ m → ¬ rowA a wr q → X.heap[q]? = wr.heap[q]?) → (X.cell? ⟨w.heap.size + 1, 2, none⟩ = some (.slice A2 l2 k2) ∧ X.cell? ⟨w.heap.size, 0, none⟩ = some (.string z.s.lo) ∧ X.cell? ⟨w.heap.size, 1, none⟩ = some (.string z.s.hi) ∧ X.cell? ⟨w.heap.size, 2, none⟩ = some (.bool z.s.op)) := fun X hX => by
            have en := hX (w.heap.size + 1) (by omega) hna.1 (by omega) (hnkr _ (by omega) hrn)
            have es := hX w.heap.size (by omega) hna.2 (by omega) (hnkr _ (by omega) hrs)
            exact ⟨(World.cell?_of_block (w := wr) en).trans p2, (World.cell?_of_block (w := wr) es).trans p3, (World.cell?_of_block (w := wr) es).trans p4, (World.cell?_of_block (w := wr) es).trans p5⟩
          have hdk : z.n.kids.drop k = y.n.slot :: z.n.kids.drop (k + 1) := by
            rw [List.drop_eq_getElem_cons hlt']
            congr 1
            have := hkid
            rw [List.getElem?_eq_getElem hlt'] at this
            exact Option.some.inj this
          rw [hdk, List.flatMap_cons] at g1 dj ln
          rw [hdk, z3e] at o1
          rw [List.length_append] at ln
          have hndr : (preS (z33 S) f y.n.slot ++ (z.n.kids.drop (k + 1)).flatMap (preS (z33 S) f)).Nodup := by
            have h1 : ((z.n.kids.drop k).flatMap (preS (z33 S) f)).Nodup := by
              have h2 : z.n.kids.flatMap (preS (z33 S) f) = (z.n.kids.take k).flatMap (preS (z33 S) f) ++ (z.n.kids.drop k).flatMap (preS (z33 S) f) := by
                rw [← List.flatMap_append, List.take_append_drop]
              have h3 := hnd.2
              rw [h2] at h3
              exact (List.nodup_append.1 h3).2.1
            rw [hdk, List.flatMap_cons] at h1
            exact h1
          have hylev : y.n.level < f := by omega
          have hdd : d + 1 + (f : Int) ≤ 100000 := by omega
          have hyg : ∀ x, x ∈ preS (z33 S) f y.n.slot → x ∉ gk := fun x hx => dj x (List.mem_append_left _ hx)
          have hyl : ok.length + (preS (z33 S) f y.n.slot).length ≤ 1000 := by omega
          have hih := ih y hy hylev (d + 1) (by omega) hdd
          rw [hy2] at hih
          have hwr : IntKind.i64.wrap (d + 1) = d + 1 := IntWalk.i64_in _ (by omega)
          have hpl := hLt.npiv
          have hps := hLt.piv
          have hwrd : ∀ X, Below wr.drew.heap.size wr.drew X → ∀ q, q < wr.heap.size → q ≠ a → q ≠ m → ¬ rowA a wr q → X.heap[q]? = wr.heap[q]? := fun X hB q hq _ _ _ => hB.block q hq
          go_wp2_with fail
          go_region_held_law (fun X => X.cell? ⟨w.heap.size + 1, 2, none⟩ = some (.slice A2 l2 k2) ∧ X.cell? ⟨w.heap.size, 0, none⟩ = some (.string z.s.lo) ∧ X.cell? ⟨w.heap.size, 1, none⟩ = some (.string z.s.hi) ∧ X.cell? ⟨w.heap.size, 2, none⟩ = some (.bool z.s.op)) (first | exact hT _ (fun _ _ _ _ _ => rfl) | exact hT _ (hwrd _ hB3) | exact hT _ (hwrd _ hB34) | exact hT _ (fun q h1 h2 h3 h4 => hK6 q h1 h2 h3 h4))
            (first
              | (go_simp; go_at_call 57; refine (y38 hGrd z.n.pivots k hpl hkp hps vpd).mono ?_; rintro e w3 ⟨rfl, hB3⟩; have hGr3 := Glob.below hGrd hB3; dsimp only)
              | (go_simp; go_at_call 56; refine (meet_calls hGr3 z.s (z0y z.n.pivots k) _ rfl).mono ?_; rintro e w4 ⟨rfl, hB4⟩; have hB34 := hB3.trans (hB4.mono hB3.size); have hAr4 := (hAr.keep ((Below.refl _ wr).drew)).keep hB34; dsimp only)
              | (go_simp; go_at_call 35; refine (hih gk ok hyg hyl w4 hAr4).mono ?_; rintro e w5 ⟨⟨vv, rfl⟩, hK5, hA5⟩; have hK6 := fun q (h1 : q < wr.heap.size) h2 h3 (h4 : ¬ rowA a wr q) => (hK5.same q (Nat.lt_of_lt_of_le h1 hB34.size) h2 h3 (fun ⟨o, c, l', e⟩ => h4 ⟨o, c, l', by rw [← e]; exact (hB34.cell (p := ⟨a, 1, none⟩) (Nat.lt_of_lt_of_le halt (by show w.heap.size ≤ wr.heap.size; have := hKc.below.size; omega))).symm⟩)).trans (hB34.block q h1); dsimp only))
          go_wp2_with fail
          have hBr4 : Below wr.heap.size wr w4 := ((Below.refl _ wr).drew).trans hB34
          have harl : a < wr.heap.size := Nat.lt_of_lt_of_le halt (Nat.le_trans hKc.below.size hKr.below.size)
          have hw0r : w0.heap.size ≤ wr.heap.size := hAr.bw.size
          have hln : (z4g l f y.n.slot (z.s.meet (z0y z.n.pivots k)) (d + 1)).length = (preS (z33 S) f y.n.slot).length := by
            rw [← hy2, ← za2 W.seats f (d + 1) y hy, z97 W.seats f (d + 1) y hy]
          go_roundw
          case rel =>
            refine ⟨k + 1, gk ++ preS (z33 S) f y.n.slot, ok ++ z4g l f y.n.slot (z.s.meet (z0y z.n.pivots k)) (d + 1), by push_cast; rfl, by omega, hKr.trans ((KpA.of_below hBr4 hw0r harl).trans hK5), hA5, ?_, ?_, fun x hx hg => ?_, ?_⟩
            · rw [List.append_assoc]; exact g1
            · rw [List.append_assoc]; exact o1
            · rcases List.mem_append.1 hg with hg | hg
              · exact dj x (List.mem_append_right _ hx) hg
              · exact (List.nodup_append.1 hndr).2.2 x hg x hx rfl
            · rw [List.length_append, hln]; omega
          case measure =>
            simp only [intOf]
            omega
end Go.Proofs.YtkfciapeikkmfaaDoor
end
section
namespace Go.Proofs.YtkfciapeikkmfaaDoor
open Go.RowKit Go.MapKept
theorem all_calls {w:World} (hG:Glob w):Calls Tryd.prog 36 #[] w fun e w'=>e = .returned (.agg #[.string nul0,.string nul0,.bool true])∧Below w.heap.size w w':=by
 refine (spanAll.calls w (wideN w) [] hG (fun _ _ h=>h) rfl (fun i x u q1 q2=>by simp at q1)).mono ?_
 rintro e w' ⟨v,rfl,hB,hR⟩
 have hR':=VR.wideN hR
 exact ⟨by rw [y2t hR'],hB⟩
theorem nds_at {w:World} {l:List Nd} {A:Option Addr} {len cap:Nat} (h:VR (wideN w) w (.sl (l.map Nd.a)) (.slice A len cap)):len = l.length∧len≤cap∧∀ (j:Nat) (n:Nd),l[j]? = some n->∃ b off c,A = some ⟨b,off,none⟩∧b < w.heap.size∧ndC n c∧VR (wideN w) w n.a (.agg c)∧∀ i,i < 10->w.cell? ⟨b,off + (j * 10 + i),none⟩ = c[i]?:=by
 cases h with
 | sl _ A cap z u hcap hmax hA hh =>
  rw [List.length_map] at *
  refine ⟨rfl,hcap,fun j n hn=>?_⟩
  have hj:=(List.getElem?_eq_some_iff.1 hn).1
  obtain ⟨b,off,e,hL⟩:=hA (by omega)
  have hz:z = 10:=by
   have:=hL.len n.a (List.mem_map.2 ⟨n,List.mem_of_getElem? hn,rfl⟩)
   exact this.symm
  subst hz
  have hvr:VR (wideN w) w n.a (.agg #[u j 0,u j 1,u j 2,u j 3,u j 4,u j 5,u j 6,u j 7,u j 8,u j 9]):=by
   have hd:(l.map Nd.a)[j]? = some n.a:=by rw [List.getElem?_map,hn]; rfl
   refine .agg [.int .i64 n.slot,.int .i64 n.level,.sl (n.pivots.map AV.str),.sl (n.kids.map (AV.int .i64)),.str n.high,.bool n.top,.int .i64 n.right,.int .i64 n.seen,.sl (n.msgs.map Msg.a),.sl (n.rows.map Par.a)] [u j 0,u j 1,u j 2,u j 3,u j 4,u j 5,u j 6,u j 7,u j 8,u j 9] rfl fun i c v h1 h2=>?_
   have:=hh j n.a i c hd h1
   match i with
   | 0=>cases h2; exact this
   | 1=>cases h2; exact this
   | 2=>cases h2; exact this
   | 3=>cases h2; exact this
   | 4=>cases h2; exact this
   | 5=>cases h2; exact this
   | 6=>cases h2; exact this
   | 7=>cases h2; exact this
   | 8=>cases h2; exact this
   | 9=>cases h2; exact this
   | i + 10=>simp at h1
  obtain ⟨c,hc1,hc2⟩:=y86 hvr
  refine ⟨b,off,_,e,hL.lt,?_,hvr,fun i hi=>?_⟩
  ·cases hc1; exact hc2
  ·obtain ⟨_,q⟩:=hL.at_ j i (by rw [List.length_map]; exact hj) hi
   rw [q]
   match i,hi with
   | 0,_=>rfl
   | 1,_=>rfl
   | 2,_=>rfl
   | 3,_=>rfl
   | 4,_=>rfl
   | 5,_=>rfl
   | 6,_=>rfl
   | 7,_=>rfl
   | 8,_=>rfl
   | 9,_=>rfl
theorem MapR.push {Pr:Nat->Nat->Prop} {w:World} {es:List (Int × AV)} {ms:Array MapEntry} {c:Nat} (h:MapR Pr w es ms c) {k:Int} {d:AV} {v:Value} (hn:lkp es k = none) (hv:VR Pr w d v):MapR Pr w (es ++ [(k,d)]) (ms.push ⟨.int .i64 k,v,c⟩) (c + 1):=by
 have key:∀ (i:Nat) (e:Int × AV) (m:MapEntry),(es ++ [(k,d)])[i]? = some e->(ms.push ⟨.int .i64 k,v,c⟩)[i]? = some m->(es[i]? = some e∧ms[i]? = some m)∨(e = (k,d)∧m = ⟨.int .i64 k,v,c⟩):=by
  intro i e m h1 h2
  rw [Array.getElem?_push] at h2
  by_cases hi:i = ms.size
  ·rw [if_pos hi] at h2
   rw [List.getElem?_append_right (by rw [hi,h.len]; exact Nat.le_refl _),hi,h.len,Nat.sub_self] at h1
   cases h1; cases h2
   exact .inr ⟨rfl,rfl⟩
  ·rw [if_neg hi] at h2
   have:=(Array.getElem?_eq_some_iff.1 h2).1
   rw [List.getElem?_append_left (by rw [h.len]; exact this)] at h1
   exact .inl ⟨h1,h2⟩
 refine ⟨stamped_push h.st (h.fresh hn),by rw [List.length_append,Array.size_push,h.len]; rfl,fun i e m h1 h2=>?_,fun i e m h1 h2=>?_⟩
 ·rcases key i e m h1 h2 with ⟨q1,q2⟩ | ⟨rfl,rfl⟩
  ·exact h.key i e m q1 q2
  ·rfl
 ·rcases key i e m h1 h2 with ⟨q1,q2⟩ | ⟨rfl,rfl⟩
  ·exact h.val i e m q1 q2
  ·exact hv
theorem take_none {l:List Nd} (h:z3y l) {k:Nat} {x:Nd} (hx:l[k]? = some x):lkp (z1p (l.take k)) x.slot = none:=by
 cases hq:lkp (z1p (l.take k)) x.slot with
 | none=>rfl
 | some v =>
  exfalso
  have key:∀ (es:List (Int × AV)) (s:Int) (v:AV),lkp es s = some v->∃ e,e ∈ es∧e.1 = s:=by
   intro es s v
   induction es with
   | nil=>intro h; cases h
   | cons e es ih =>
    intro h
    rw [lkp] at h
    by_cases hk:(s == e.1) = true
    ·exact ⟨e,List.mem_cons_self ..,by simpa using (by simpa using hk:s = e.1).symm⟩
    ·rw [if_neg hk] at h
     obtain ⟨e',h1,h2⟩:=ih h
     exact ⟨e',List.mem_cons_of_mem _ h1,h2⟩
  obtain ⟨e,he,hes⟩:=key _ _ _ hq
  obtain ⟨y,hy,rfl⟩:=List.mem_map.1 he
  obtain ⟨i,hi⟩:=List.mem_iff_getElem?.1 hy
  rw [List.getElem?_take] at hi
  split at hi
  ·rename_i hik
   have a:=h i y hi
   have b:=h k x hx
   have hes':y.slot = x.slot:=hes
   omega
  ·cases hi
theorem mapUp_new {g:Nat} {ms:Array MapEntry} {c:Nat} {k:Int} {v:Value} {X:World} (hb:X.heap[g]? = some (.map ms c)) (hf:Instr.findNow (.int .i64) (.int .i64 k) ms.toList 0 = some none) :
  (Instr.mapUpdate 71 (.map (some g)) (.int .i64 k) v).run Tryd.prog X = .ok () (X.putObj g (.map (ms.push ⟨.int .i64 k,v,c⟩) (c + 1))):=by
 have ht:Tryd.prog.underlying 71 = some (.map 3 27):=by kernel_rfl
 have hkt:Tryd.prog.underlying 3 = some (.int .i64):=by kernel_rfl
 have hK:IsKey (.int .i64) (.int .i64 k):=rfl
 simp [Instr.mapUpdate,run_underlying ht,Go.MapKept.run_getObj_map hb,run_checkKey hkt hK,run_findKey hkt hf,Go.MapKept.run_setObj_map _ hb]
 try rfl
set_option maxHeartbeats 4000000 in
theorem tree_calls (l:List Nd) (S:List Seat) (W:Whole l S) (hlt:∀ n,n ∈ l->n.Lt) (hs2:∀ x,x ∈ S->x.s.le 2000) (A:Option Addr) (cap:Nat) (w:World) (hG:Glob w) (hv:VR (wideN w) w (.sl (l.map Nd.a)) (.slice A l.length cap)) :
  Calls Tryd.prog 15 #[.slice A l.length cap] w fun e w'=>∃ v,e = .returned v∧Below w.heap.size w w'∧w'.ownsRow w.heap.size 9 1 v (z4g l l.length 0 allS 0).length ((z4g l l.length 0 allS 0).map .string):=by
 obtain ⟨_,hcap,hat⟩:=nds_at hv
 have hfew:=W.few
 have hmm:=@run_makeMap Tryd.prog
 go_enter Tryd.func15,Tryd.ntmps15
 go_wp2_with fail
 have hsz:((w.alloc (.map #[] 0)).alloc (.cells #[.map (some w.heap.size),.slice none 0 0] 73)).heap.size = w.heap.size + 2:=by simp
 obtain ⟨W0,hW0⟩:∃ W0,(w.alloc (.map #[] 0)).alloc (.cells #[.map (some w.heap.size),.slice none 0 0] 73) = W0:=⟨_,rfl⟩
 have hB0:Below w.heap.size w W0:=by rw [← hW0]; exact ((Below.refl _ w).alloc (Nat.le_refl _) _).alloc (by simp) _
 have hm0:W0.heap[w.heap.size]? = some (.map #[] 0):=by rw [← hW0]; exact (Below.heap_alloc _ _ _ (by simp)).trans (heap_alloc w _).1
 have ha0:W0.heap[w.heap.size + 1]? = some (.cells #[.map (some w.heap.size),.slice none 0 0] 73 (0,0)):=by
  rw [← hW0]; have:=(heap_alloc (w.alloc (.map #[] 0)) (.cells #[.map (some w.heap.size),.slice none 0 0] 73)).1; rwa [World.size_alloc] at this
 rw [hW0] at hsz ⊢
 clear hW0 hmm
 go_loopw [11] (fun i wr=>∃ (k:Nat),i = .int .i64 k∧k≤l.length∧Below w.heap.size w wr∧W0.heap.size≤wr.heap.size∧(∃ ms c,wr.heap[w.heap.size]? = some (.map ms c)∧MapR (wideN w) w (z1p (l.take k)) ms c) ∧
   wr.heap[w.heap.size + 1]? = some (.cells #[.map (some w.heap.size),.slice none 0 0] 73 (0,0)))
  (fun i _=>l.length - (intOf i).toNat)
 case atStart =>
  exact ⟨0,rfl,Nat.zero_le _,hB0,Nat.le_refl _,⟨#[],0,hm0,⟨stamped_empty 0,rfl,fun i e m h=>by simp [z1p] at h,fun i e m h=>by simp [z1p] at h⟩⟩,ha0⟩
 case round =>
  obtain ⟨k,rfl,hk,hBr,hszr,⟨ms,mc,hm,hmr⟩,har⟩:=hrel
  by_cases hlt':k < l.length
  case neg =>
   have hk':k = l.length:=by omega
   subst hk'
   have hA0:Art w l (w.heap.size + 1) w.heap.size wr [] []:=by
    refine ⟨hBr,by omega,Nat.le_refl _,by omega,⟨_,har,World.ownsRow_nil _ _ _ _⟩,⟨ms,mc,hm,?_⟩⟩
    have e:zf6 l [] = l:=by unfold zf6; simp
    rw [e]
    rwa [List.take_length] at hmr
   obtain ⟨z,R,hS,hz1,hz2,hz3⟩:=W.root
   have hzS:z ∈ S:=by rw [hS]; exact List.mem_cons_self ..
   have hlow:=W.low hz3
   have hSl:=W.len
   have hpl:(preS (z33 S) l.length z.n.slot).length≤200:=by
    rw [← z97 W.seats l.length 0 z hzS]
    have:=zu7 W.seats l.length 0 z hzS
    omega
   have hdr:=draw_calls l S W hlt hs2 (w.heap.size + 1) w.heap.size w hG l.length z hzS (by omega) 0 (by omega) (by omega) [] [] (fun _ _ h=>by cases h) (by rw [List.length_nil]; omega)
   rw [hz1,hz2] at hdr
   simp only [List.nil_append] at hdr
   have hGr:Glob wr:=Glob.below hG hBr
   go_wp2_with (first
    | (go_at_call 36; refine (all_calls hGr).mono ?_; rintro e w1 ⟨rfl,hB1⟩; have hA1:=hA0.keep hB1)
    | (go_at_call 35; refine (hdr w1 hA1).mono ?_; rintro e w2 ⟨⟨vv,rfl⟩,hK2,hA2⟩; obtain ⟨v2,ha2,hr2⟩:=hA2.art; have zz:w2.cell? ⟨w.heap.size + 1,1,none⟩ = some v2:=(by rw [z04 ha2]; rfl)))
   go_ret
   exact ⟨v2,rfl,hA2.bw,hr2⟩
  obtain ⟨x,hx⟩:∃ x,l[k]? = some x:=⟨_,List.getElem?_eq_getElem hlt'⟩
  obtain ⟨b,off,c,rfl,hbl,⟨A2,A3,A8,A9,l2,k2,l3,k3,l8,k8,l9,k9,rfl⟩,hnv,hcl⟩:=hat k x hx
  have hki:(k:Int) < (l.length:Int):=by omega
  have y0:wr.cell? ⟨b,off + k * 10,none⟩ = some (.int .i64 x.slot):=by rw [hBr.cell (p:=⟨b,_,none⟩) hbl]; exact hcl 0 (by omega)
  have y1:wr.cell? ⟨b,off + k * 10 + 1,none⟩ = some (.int .i64 x.level):=by rw [hBr.cell (p:=⟨b,_,none⟩) hbl]; exact hcl 1 (by omega)
  have y2:wr.cell? ⟨b,off + k * 10 + 2,none⟩ = some (.slice A2 l2 k2):=by rw [hBr.cell (p:=⟨b,_,none⟩) hbl]; exact hcl 2 (by omega)
  have y3:wr.cell? ⟨b,off + k * 10 + 3,none⟩ = some (.slice A3 l3 k3):=by rw [hBr.cell (p:=⟨b,_,none⟩) hbl]; exact hcl 3 (by omega)
  have y4:wr.cell? ⟨b,off + k * 10 + 4,none⟩ = some (.string x.high):=by rw [hBr.cell (p:=⟨b,_,none⟩) hbl]; exact hcl 4 (by omega)
  have y5:wr.cell? ⟨b,off + k * 10 + 5,none⟩ = some (.bool x.top):=by rw [hBr.cell (p:=⟨b,_,none⟩) hbl]; exact hcl 5 (by omega)
  have y6:wr.cell? ⟨b,off + k * 10 + 6,none⟩ = some (.int .i64 x.right):=by rw [hBr.cell (p:=⟨b,_,none⟩) hbl]; exact hcl 6 (by omega)
  have y7:wr.cell? ⟨b,off + k * 10 + 7,none⟩ = some (.int .i64 x.seen):=by rw [hBr.cell (p:=⟨b,_,none⟩) hbl]; exact hcl 7 (by omega)
  have y8:wr.cell? ⟨b,off + k * 10 + 8,none⟩ = some (.slice A8 l8 k8):=by rw [hBr.cell (p:=⟨b,_,none⟩) hbl]; exact hcl 8 (by omega)
  have y9:wr.cell? ⟨b,off + k * 10 + 9,none⟩ = some (.slice A9 l9 k9):=by rw [hBr.cell (p:=⟨b,_,none⟩) hbl]; exact hcl 9 (by omega)
  obtain ⟨WB,hWB⟩:∃ WB,(wr.alloc (.cells #[.int .i64 x.slot,.int .i64 x.level,.slice A2 l2 k2,.slice A3 l3 k3,.string x.high,.bool x.top,.int .i64 x.right,.int .i64 x.seen,.slice A8 l8 k8,.slice A9 l9 k9] 27)) = WB:=⟨_,rfl⟩
  have hBb:Below wr.heap.size wr WB:=by rw [← hWB]; exact (Below.refl _ wr).alloc (Nat.le_refl _) _
  have hnb:WB.heap[wr.heap.size]? = some (.cells #[.int .i64 x.slot,.int .i64 x.level,.slice A2 l2 k2,.slice A3 l3 k3,.string x.high,.bool x.top,.int .i64 x.right,.int .i64 x.seen,.slice A8 l8 k8,.slice A9 l9 k9] 27 (0,0)):=by rw [← hWB]; exact (heap_alloc wr _).1
  have hmb:WB.heap[w.heap.size]? = some (.map ms mc):=(hBb.block _ (by omega)).trans hm
  have hab:=(hBb.block (w.heap.size + 1) (by omega)).trans har
  have hln:=take_none W.ord hx
  have hfn:Instr.findNow (.int .i64) (.int .i64 x.slot) ms.toList 0 = some none:=by
   rcases hmr.lookup x.slot with ⟨_,q,_⟩ | ⟨j,e,mm,q1,_⟩
   ·exact q
   ·rw [hln] at q1; cases q1
  have hU:=mapUp_new (X:=WB.drew) (v:=.agg #[.int .i64 x.slot,.int .i64 x.level,.slice A2 l2 k2,.slice A3 l3 k3,.string x.high,.bool x.top,.int .i64 x.right,.int .i64 x.seen,.slice A8 l8 k8,.slice A9 l9 k9]) hmb hfn
  have hS:∀ X:World,(∀ q,q < WB.heap.size->q ≠ w.heap.size->X.heap[q]? = WB.heap[q]?)->(X.cell? ⟨w.heap.size + 1,0,none⟩ = some (.map (some w.heap.size))∧X.cell? ⟨wr.heap.size,0,none⟩ = some (.int .i64 x.slot)∧X.cell? ⟨wr.heap.size,1,none⟩ = some (.int .i64 x.level)∧X.cell? ⟨wr.heap.size,2,none⟩ = some (.slice A2 l2 k2)∧X.cell? ⟨wr.heap.size,3,none⟩ = some (.slice A3 l3 k3)∧X.cell? ⟨wr.heap.size,4,none⟩ = some (.string x.high)∧X.cell? ⟨wr.heap.size,5,none⟩ = some (.bool x.top)∧X.cell? ⟨wr.heap.size,6,none⟩ = some (.int .i64 x.right)∧X.cell? ⟨wr.heap.size,7,none⟩ = some (.int .i64 x.seen)∧X.cell? ⟨wr.heap.size,8,none⟩ = some (.slice A8 l8 k8)∧X.cell? ⟨wr.heap.size,9,none⟩ = some (.slice A9 l9 k9)):=fun X hX=>by
   have ea:=hX (w.heap.size + 1) (by have:=hBb.size; omega) (by omega)
   have en:=hX wr.heap.size (Array.getElem?_eq_some_iff.1 hnb).1 (by omega)
   exact ⟨(World.cell?_of_block (w:=WB) ea).trans (by rw [z04 hab]; rfl),(World.cell?_of_block (w:=WB) en).trans (by rw [z04 hnb]; rfl),(World.cell?_of_block (w:=WB) en).trans (by rw [z04 hnb]; rfl),(World.cell?_of_block (w:=WB) en).trans (by rw [z04 hnb]; rfl),(World.cell?_of_block (w:=WB) en).trans (by rw [z04 hnb]; rfl),(World.cell?_of_block (w:=WB) en).trans (by rw [z04 hnb]; rfl),(World.cell?_of_block (w:=WB) en).trans (by rw [z04 hnb]; rfl),(World.cell?_of_block (w:=WB) en).trans (by rw [z04 hnb]; rfl),(World.cell?_of_block (w:=WB) en).trans (by rw [z04 hnb]; rfl),(World.cell?_of_block (w:=WB) en).trans (by rw [z04 hnb]; rfl),(World.cell?_of_block (w:=WB) en).trans (by rw [z04 hnb]; rfl)⟩
  go_wp2_with fail
  try rw [hWB]
  go_region_held_law (fun X=>X.cell? ⟨w.heap.size + 1,0,none⟩ = some (.map (some w.heap.size))∧X.cell? ⟨wr.heap.size,0,none⟩ = some (.int .i64 x.slot)∧X.cell? ⟨wr.heap.size,1,none⟩ = some (.int .i64 x.level)∧X.cell? ⟨wr.heap.size,2,none⟩ = some (.slice A2 l2 k2)∧X.cell? ⟨wr.heap.size,3,none⟩ = some (.slice A3 l3 k3)∧X.cell? ⟨wr.heap.size,4,none⟩ = some (.string x.high)∧X.cell? ⟨wr.heap.size,5,none⟩ = some (.bool x.top)∧X.cell? ⟨wr.heap.size,6,none⟩ = some (.int .i64 x.right)∧X.cell? ⟨wr.heap.size,7,none⟩ = some (.int .i64 x.seen)∧X.cell? ⟨wr.heap.size,8,none⟩ = some (.slice A8 l8 k8)∧X.cell? ⟨wr.heap.size,9,none⟩ = some (.slice A9 l9 k9)) (first | exact hS _ (fun _ _ _=>rfl) | exact hS _ (fun q _ h=>World.putObj_heap_other h)) (fail)
  go_wp2_with fail
  have hmlt:w.heap.size < WB.heap.size:=(Array.getElem?_eq_some_iff.1 hmb).1
  have htk:z1p (l.take k) ++ [(x.slot,x.a)] = z1p (l.take (k + 1)):=by unfold z1p; rw [za3 hx,List.map_append]; rfl
  have hBw:Below w.heap.size w (WB.drew.putObj w.heap.size (.map (ms.push ⟨.int .i64 x.slot,.agg #[.int .i64 x.slot,.int .i64 x.level,.slice A2 l2 k2,.slice A3 l3 k3,.string x.high,.bool x.top,.int .i64 x.right,.int .i64 x.seen,.slice A8 l8 k8,.slice A9 l9 k9],mc⟩) (mc + 1))):=by
   have:=hBr.trans (hBb.mono hBr.size)
   exact ⟨this.os,this.tape,this.output,by simpa [World.putObj] using this.size,fun q hq=>(World.putObj_heap_other (w:=WB.drew) (by omega)).trans (this.block q hq)⟩
  go_roundw
  case rel =>
   refine ⟨k + 1,by push_cast; rfl,by omega,hBw,?_,⟨_,_,World.putObj_heap_same (w:=WB.drew) hmlt,by rw [← htk]; exact hmr.push hln hnv⟩,(World.putObj_heap_other (w:=WB.drew) (by omega)).trans hab⟩
   have:=hBb.size
   simp only [World.putObj,Array.size_setIfInBounds]
   exact Nat.le_trans hszr this
  case measure =>
   simp only [intOf]
   omega
end Go.Proofs.YtkfciapeikkmfaaDoor
end
section
namespace Go.Proofs.YtkfciapeikkmfaaDoor
open Go.RowKit Go.MapKept
theorem vrRowS {Pr:Nat->Nat->Prop} {B:Nat} {w':World} {xs:List ByteArray} {v:Value} (h:w'.ownsRow B 9 1 v xs.length (xs.map .string)):VR (fun b o=>Pr b o∨B≤b) w' (.sl (xs.map .str)) v:=by
 obtain ⟨hz,hr⟩:=h
 rcases hr with ⟨rfl,h⟩ | ⟨g,cap',cur,rfl,q1,q2,q3,q4,q5,q6⟩
 ·have:xs = []:=List.length_eq_zero_iff.1 h
  subst this
  exact .sl [] none 0 1 (fun _ _=>undef) (Nat.le_refl _) (Nat.zero_le _) (fun h=>absurd h (by simp)) (fun i d j c h=>by simp at h)
 ·have e:(xs.map AV.str).length = xs.length:=List.length_map ..
  have hcur:∀ (i:Nat) (x:ByteArray),xs[i]? = some x->cur[i]? = some (.string x):=fun i x hx=>by
   have h1:(cur.toList.take (xs.length * 1))[i]? = some (.string x):=by rw [q6,List.getElem?_map,hx]; rfl
   rw [List.getElem?_take] at h1
   split at h1
   ·simpa using h1
   ·cases h1
  have key:=VR.sl (Pr:=fun b o=>Pr b o∨B≤b) (w:=w') (xs.map .str) (some ⟨g,0,none⟩) cap' 1 (fun i _=>.string (xs.getD i ⟨#[]⟩)) (by rw [e]; exact q3) q4 (fun _=>⟨g,0,rfl,(Array.getElem?_eq_some_iff.1 q2).1,fun d hd=>by
    obtain ⟨q,_,rfl⟩:=List.mem_map.1 hd; rfl,fun i j hi hj=>by
    rw [e] at hi
    refine ⟨.inr q1,?_⟩
    rw [z04 q2,show 0 + (i * 1 + j) = i by omega,hcur i _ (List.getElem?_eq_getElem hi),List.getD_eq_getElem?_getD,List.getElem?_eq_getElem hi]; rfl⟩)
   (fun i d j c hi hj=>by
    rw [List.getElem?_map] at hi
    obtain ⟨x,hx,rfl⟩:=Option.map_eq_some_iff.1 hi
    match j with
    | 0 =>
     cases hj
     rw [List.getD_eq_getElem?_getD,hx]
     exact .str x
    | j + 1=>cases hj)
  rwa [e] at key
theorem zw0 (l:List Nd) (S:List Seat) (W:Whole l S) (hlt:∀ n,n ∈ l->n.Lt) (hs2:∀ x,x ∈ S->x.s.le 2000):AFn Tryd.prog 15 [.sl (l.map Nd.a)] (.sl ((z4g l l.length 0 allS 0).map .str)):=by
 refine ⟨by kernel_rfl,fun w Pr vs hG hPr hlen hvs=>?_⟩
 match vs,hlen with
 | [v0],_ =>
  have h0':=hvs 0 _ v0 rfl rfl
  have hw:=VR.wideN h0'
  obtain ⟨A,cap,rfl⟩:∃ A cap,v0 = .slice A l.length cap:=by
   cases h0' with
   | sl _ A cap z u=>exact ⟨A,cap,by rw [List.length_map]⟩
  refine (tree_calls l S W hlt hs2 A cap w hG hw).mono ?_
  rintro e w' ⟨v,rfl,hB,hr⟩
  exact ⟨v,rfl,hB,vrRowS hr⟩
end Go.Proofs.YtkfciapeikkmfaaDoor
end
section
namespace Go.Proofs.YtkfciapeikkmfaaDoor
open Go.RowKit
theorem reads_agg8 {w:World} {fs:List Ty} {c:Array Value} {ds:List AV} (h:z3b w (.st fs) c.toList ds):VR (fun b _=>b < w.heap.size) w (.agg ds) (.agg c):=by
 have:=VR.agg (Pr:=fun b _=>b < w.heap.size) (w:=w) ds c.toList h.2.1 h.2.2
 simpa using this
theorem reads_one8 {w:World} {T:Ty} {v:Value} {ds:List AV} (h:z3b w T [v] ds):∃ d,ds = [d]∧VR (fun b _=>b < w.heap.size) w d v:=by
 obtain ⟨h1,h2,h3⟩:=h
 match ds,h2 with
 | [d],_=>exact ⟨d,rfl,h3 0 d v rfl rfl⟩
theorem zvs (aw:AFn Tryd.prog 7 [] (.bool true))
  (cT:∀ (l:List Nd) (S:List Seat),Whole l S->(∀ n,n ∈ l->n.Lt)->(∀ x,x ∈ S->x.s.le 2000)->AFn Tryd.prog 15 [.sl (l.map Nd.a)] (.sl ((z4g l l.length 0 allS 0).map .str)))
  (cC:∀ (l:List Nd) (level:Int) (S:List Seat) (r:Nd),Whole l S->ndAt l 0 = some r->AFn Tryd.prog 37 [.sl (l.map Nd.a),.int .i64 level] (.own 1 3 (((z2n l r level).map fun n=>n.slot).map (AV.int .i64))))
  (c:Array Value) (v1:Value) (p:Int) (w:World) (hG:Glob w) (f0:∃ ds,z3b w CfgT c.toList ds) (f1:∃ ds,z3b w (.sl NdT) [v1] ds) (f2:-9223372036854775808≤p∧p≤9223372036854775807) :
  Calls Tryd.prog 4 #[.agg c,v1,.int .i64 p] w fun e w'=>e = .returned (.bool true)∧Below w.heap.size w w':=by
 obtain ⟨d0,r0⟩:=f0
 obtain ⟨d1,r1⟩:=f1
 obtain ⟨n,e0,on⟩:=Cfg.of r0.1
 have v0:=reads_agg8 r0
 rw [e0] at v0
 obtain ⟨d,rfl,u1⟩:=reads_one8 r1
 obtain ⟨l,hd,hl,hok⟩:=y2u Nd.a Nd.ok r1.1 (fun c h=>Nd.of h)
 cases hd
 refine run_args (vs:=[.agg c,v1,.int .i64 p]) hG rfl (fun j d u hj hu=>?_) (treesL_law aw n l p hok hl (cT l) (cC l p))
 match j with
 | 0=>cases hj; cases hu; exact v0
 | 1=>cases hj; cases hu; exact u1
 | 2=>cases hj; cases hu; exact .int .i64 p
 | j + 3=>simp at hj
end Go.Proofs.YtkfciapeikkmfaaDoor
end
