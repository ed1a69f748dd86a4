/-
  'Rows.LadderFitsSaid' is proved: the law percolatelaw55.LadderFits returns true at every input, and its arguments read as they did. No condition.
-/
import Derived.Deep.RegionLaw
import Derived.Deep.RegionHeldLaw
import Derived.BigQuiet
import Derived.SizedLaws
import Derived.Test.YtlhblpbfhfhlpaaGreatLF21
set_option linter.unusedVariables false
set_option linter.unusedSimpArgs false
set_option maxRecDepth 100000
section
namespace Go.Proofs.YtlhblpbfhfhlpaaGreat
open Go.RowKit Go.MapKept
section
variable {P:Program} {ops:Array Oper} {Q:Exit->Act->World->Prop} {md:Region.Mode} {S:World->Prop} {i fuel:Nat} {oi:Oper} {listed:Array Bool} {a:Act} {w:World}
theorem tkH {v:Value} (hi:ops[i]? = some oi) (hb:(Region.noSelect ops && Region.free md ops listed i && (Region.ready md ops listed).contains i) = true) (hq:∀ c a w,Q (.panic c) (a.put oi.dst v) w->Q (.panic c) a w)
  (hw:Region.wanted oi (yielded ops a.tmps) = true) (hy:∀ w,S w->(execOp a.eval oi).run P w = .ok (.value v) w) (hS:S w) (h:wpAnyH P md ops Q S fuel (listed.setIfInBounds i true) (a.put oi.dst v) w):wpAnyH P md ops Q S (fuel + 1) listed a w:=by
 rw [Bool.and_eq_true,Bool.and_eq_true] at hb
 exact wpAnyH_take hi hb.1.1 hb.1.2 hb.2 hq (.inl ⟨hw,hy⟩) hS h
theorem tkO (hi:ops[i]? = some oi) (hb:(Region.noSelect ops && Region.free md ops listed i && (Region.ready md ops listed).contains i) = true) (hq:∀ c a w,Q (.panic c) (a.put oi.dst undef) w->Q (.panic c) a w)
  (hw:Region.wanted oi (yielded ops a.tmps) = false) (hS:S w) (h:wpAnyH P md ops Q S fuel (listed.setIfInBounds i true) (a.put oi.dst undef) w):wpAnyH P md ops Q S (fuel + 1) listed a w:=by
 rw [Bool.and_eq_true,Bool.and_eq_true] at hb
 exact wpAnyH_take hi hb.1.1 hb.1.2 hb.2 hq (.inr ⟨hw,rfl⟩) hS h
end
def wideL (w:World):Nat->Nat->Prop:=fun b _=>b < w.heap.size
theorem VR.wideL {Pr:Nat->Nat->Prop} {w:World} {d:AV} {v:Value} (h:VR Pr w d v):VR (Go.Proofs.YtlhblpbfhfhlpaaGreat.wideL w) w d v :=
 h.kept ⟨Nat.le_refl _,fun _ _ hb _=>hb,fun _ _ _ _=>rfl,fun _ _ _ _ _ e=>e⟩
theorem VR.belowL {w w':World} {d:AV} {v:Value} (h:VR (Go.Proofs.YtlhblpbfhfhlpaaGreat.wideL w) w d v) (hB:Below w.heap.size w w'):VR (Go.Proofs.YtlhblpbfhfhlpaaGreat.wideL w') w' d v :=
 h.kept ⟨hB.size,fun _ _ hb _=>Nat.lt_of_lt_of_le hb hB.size,fun b o hb _=>hB.cell (p:=⟨b,o,none⟩) hb,fun b ms c hb _ e=>(hB.block b hb).trans e⟩
def IntAt (w:World) (A:Option Addr) (l:List Int):Prop:=∀ (i:Nat) (x:Int),l[i]? = some x->∃ b off,A = some ⟨b,off,none⟩∧b < w.heap.size∧w.cell? ⟨b,off + i,none⟩ = some (.int .i64 x)
theorem IntAt.of {Pr:Nat->Nat->Prop} {w:World} {l:List Int} {v:Value} (h:VR Pr w (.sl (l.map (AV.int .i64))) v):∃ A cap,v = .slice A l.length cap∧IntAt w A l:=by
 have hl:(l.map (AV.int .i64)).length = l.length:=List.length_map _
 generalize hx:l.map (AV.int .i64) = x at h
 cases h with
 | sl _ A cap z u hcap hmax hA hr =>
  subst hx
  refine ⟨A,cap,by rw [hl],fun i e he=>?_⟩
  have hi:=(List.getElem?_eq_some_iff.1 he).1
  obtain ⟨b,off,rfl,hL⟩:=hA (by rw [hl]; omega)
  have hd:(l.map (AV.int .i64))[i]? = some (.int .i64 e):=by rw [List.getElem?_map,he]; rfl
  have hz:z = 1:=(hL.len _ (List.mem_of_getElem? hd)).symm
  subst hz
  have h0:=(hL.at_ i 0 (by rw [hl]; exact hi) (by omega)).2
  have v0:=VR.int_of (hr i _ 0 (.int .i64 e) hd rfl)
  rw [v0,Nat.mul_one,Nat.add_zero] at h0
  exact ⟨b,off,rfl,hL.lt,h0⟩
theorem infoBool:(Tryz.prog.info? 4).map (fun i=>(i.zero,i.size,i.bytes)) = some (some (.bool false),1,1):=by kernel_rfl
def MtAt (w:World) (g:Nat) (m:List Int):Prop :=
 g < w.heap.size∧∀ W:World,W.heap[g]? = w.heap[g]?->∀ k:Int,(Instr.lookup 52 (.map (some g)) (.int .i64 k) false).run Tryz.prog W = .ok (.bool (m.contains k)) W
theorem MtAt.below {w w':World} {g:Nat} {m:List Int} (h:MtAt w g m) (hB:Below w.heap.size w w'):MtAt w' g m :=
 ⟨Nat.lt_of_lt_of_le h.1 hB.size,fun W hW=>h.2 W (hW.trans (hB.block g h.1))⟩
theorem bool_of {Pr:Nat->Nat->Prop} {w:World} {b:Bool} {v:Value} (h:VR Pr w (.bool b) v):v = .bool b:=by cases h; rfl
theorem MtAt.ofR {Pr:Nat->Nat->Prop} {w:World} {m:List Int} {g:Nat} {ms:Array MapEntry} {c:Nat} (hb:w.heap[g]? = some (.map ms c)) (hR:MapR Pr w (metM m) ms c):MtAt w g m:=by
 refine ⟨(Array.getElem?_eq_some_iff.1 hb).1,fun W hW k=>?_⟩
 have ht:Tryz.prog.underlying 52 = some (.map 3 4):=by kernel_rfl
 have hkt:Tryz.prog.underlying 3 = some (.int .i64):=by kernel_rfl
 obtain ⟨i,hi,hz,_,_⟩:=info_parts infoBool
 have hK:IsKey (.int .i64) (.int .i64 k):=rfl
 have hbW:=hW.trans hb
 have hl:=y6s m k
 rcases hR.lookup k with ⟨l1,l2,_⟩ | ⟨j,e,mm,l1,l2,l3,l4,l5,l6,_⟩
 ·rw [l1] at hl
  have hl':m.contains k = false:=by
   have:AV.bool false = AV.bool (m.contains k):=hl
   injection this with this
   exact this.symm
  rw [hl']
  simp [Instr.lookup,run_underlying ht,Go.MapKept.run_getObj_map hbW,run_checkKey hkt hK,run_findKey hkt l2,zeroValue,typeInfo,hi,hz]
 ·rw [l1] at hl
  have hl':e.2 = AV.bool (m.contains k):=hl
  rw [hl'] at l6
  have l7:=bool_of l6
  rw [l7] at l5
  simp [Instr.lookup,run_underlying ht,Go.MapKept.run_getObj_map hbW,run_checkKey hkt hK,run_findKey hkt l5]
theorem MtAt.of {Pr:Nat->Nat->Prop} {w:World} {m:List Int} {v:Value} (h:VR Pr w (.mv (metM m)) v):∃ g,v = .map (some g)∧MtAt w g m:=by
 generalize hx:metM m = x at h
 cases h with
 | mv es g ms c hg hp hb hl hst hk hv =>
  subst hx
  exact ⟨g,rfl,MtAt.ofR hb ⟨hst,hl,hk,hv⟩⟩
theorem y3u {w:World} (hG:Glob w) (l:List Nd) (h:Lad l) (a:Int) {t:Value} (ht:VR (wideL w) w (.mv (z29 l)) t) :
  Calls Tryz.prog 45 #[t,.int .i64 a] w fun e w'=>∃ g,e = .returned (.map (some g))∧Below w.heap.size w w'∧MtAt w' g (Go.Proofs.YtlhblpbfhfhlpaaGreat.belowL l a):=by
 refine ((zsj l h a).calls w (wideL w) [t,.int .i64 a] hG (fun _ _ h=>h) rfl (fun j d v h1 h2=>by
  match j with
  | 0=>cases h1; cases h2; exact ht
  | 1=>cases h1; cases h2; exact .int _ _
  | j + 2=>simp at h1)).mono ?_
 rintro e w' ⟨v,rfl,hB,hR⟩
 obtain ⟨g,rfl,hM⟩:=MtAt.of hR
 exact ⟨g,rfl,hB,hM⟩
end Go.Proofs.YtlhblpbfhfhlpaaGreat
end
section
namespace Go.Proofs.YtlhblpbfhfhlpaaGreat
open Go.RowKit Go.MapKept
theorem any_calls {w:World} (hG:Glob w) (l:List Nd) (h:Lad l) (A:List Int) (hA:A.length≤1000000) (x:Int) {sv t wv:Value} {p q:Nat} (h3:w.cell? ⟨p,0,none⟩ = some t) (h5:w.cell? ⟨q,0,none⟩ = some wv) (hp:p < w.heap.size) (hq:q < w.heap.size)
  (ht:VR (wideL w) w (.mv (z29 l)) t) (hw:VR (wideL w) w (.sl (([x]:List Int).map (AV.int .i64))) wv) (hs:VR (wideL w) w (.sl (A.map (AV.int .i64))) sv) :
  Calls Tryz.prog 47 #[sv,.func (.func 48) #[] #[.pointer (some ⟨p,0,none⟩),.pointer (some ⟨q,0,none⟩)]] w fun e w'=>e = .returned (.bool (A.any fun a=>!bwL l a x))∧Below w.heap.size w w':=by
 have hc:VR (wideL w) w (.clo 48 [] [.rp [.mv (z29 l)],.rp [.sl (([x]:List Int).map (AV.int .i64))]]) (.func (.func 48) #[] #[.pointer (some ⟨p,0,none⟩),.pointer (some ⟨q,0,none⟩)]):=by
  refine .clo _ [] [.rp [.mv (z29 l)],.rp [.sl (([x]:List Int).map (AV.int .i64))]] [] [.pointer (some ⟨p,0,none⟩),.pointer (some ⟨q,0,none⟩)] rfl rfl (fun j c v h=>by simp at h) (fun j c v h1 h2=>?_)
  match j with
  | 0 =>
   cases h1; cases h2
   refine .rp _ _ _ (fun _=>t) hp (fun j hj=>?_) (fun j c h=>?_)
   ·have:j = 0:=by simp at hj; omega
    subst this
    exact ⟨hp,h3⟩
   ·match j with
    | 0=>cases h; exact ht
    | j + 1=>simp at h
  | 1 =>
   cases h1; cases h2
   refine .rp _ _ _ (fun _=>wv) hq (fun j hj=>?_) (fun j c h=>?_)
   ·have:j = 0:=by simp at hj; omega
    subst this
    exact ⟨hq,h5⟩
   ·match j with
    | 0=>cases h; exact hw
    | j + 1=>simp at h
  | j + 2=>simp at h1
 refine ((lcf_ok A 48 [] [.rp [.mv (z29 l)],.rp [.sl (([x]:List Int).map (AV.int .i64))]] (fun a=>!bwL l a x) hA fun m _=>fault1_ok l h m x []).calls w (wideL w) [sv,_] hG (fun _ _ h=>h) rfl (fun j d v h1 h2=>by
  match j with
  | 0=>cases h1; cases h2; exact hs
  | 1=>cases h1; cases h2; exact hc
  | j + 2=>simp at h1)).mono ?_
 rintro e w' ⟨v,rfl,hB,hR⟩
 exact ⟨by rw [bool_of hR],hB⟩
set_option maxHeartbeats 4000000 in
theorem y1y (l:List Nd) (h:Lad l) (A B:List Int) (hA:A.length≤1000000) (hB:B.length≤1000000) {w:World} (hG:Glob w) {t va vb:Value} (ht:VR (wideL w) w (.mv (z29 l)) t) (ha:VR (wideL w) w (.sl (A.map (AV.int .i64))) va) (hb:VR (wideL w) w (.sl (B.map (AV.int .i64))) vb) :
  Calls Tryz.prog 20 #[t,va,vb] w fun e w'=>e = .returned (.bool (z0m (bwL l) A B))∧Below w.heap.size w w':=by
 obtain ⟨g,rfl⟩:∃ g,t = .map (some g):=by
  generalize z29 l = es at ht
  cases ht
  exact ⟨_,rfl⟩
 obtain ⟨pA,cA,rfl,rA⟩:=IntAt.of ha
 obtain ⟨pB,cB,rfl,rB⟩:=IntAt.of hb
 have hBb:∀ o o',Below w.heap.size w ((w.alloc o).alloc o'):=fun o o'=>((Below.refl _ w).alloc (Nat.le_refl _) o).alloc (by simp) o'
 obtain ⟨W2,hW2⟩:∃ W2,(w.alloc (.cells #[.map (some g)] 50)).alloc (.cells #[.slice pB B.length cB] 28) = W2:=⟨_,rfl⟩
 have hB2:Below w.heap.size w W2:=by rw [← hW2]; exact hBb _ _
 have hs2:W2.heap.size = w.heap.size + 2:=by rw [← hW2]; simp
 have e3:W2.heap[w.heap.size]? = some (.cells #[.map (some g)] 50 (0,0)):=by rw [← hW2]; exact (Below.heap_alloc _ _ _ (by simp)).trans (heap_alloc w _).1
 have e5:W2.heap[w.heap.size + 1]? = some (.cells #[.slice pB B.length cB] 28 (0,0)):=by
  rw [← hW2]
  have:=(heap_alloc (w.alloc (.cells #[.map (some g)] 50)) (.cells #[.slice pB B.length cB] 28)).1
  rwa [World.size_alloc] at this
 have c3:W2.cell? ⟨w.heap.size,0,none⟩ = some (.map (some g)):=by rw [z0c e3]; rfl
 have c5:W2.cell? ⟨w.heap.size + 1,0,none⟩ = some (.slice pB B.length cB):=by rw [z0c e5]; rfl
 have rA2:∀ (i:Nat) (x:Int),A[i]? = some x->∃ b off,pA = some ⟨b,off,none⟩∧W2.cell? ⟨b,off + i,none⟩ = some (.int .i64 x)∧b < w.heap.size:=fun i x hx=>by
  obtain ⟨b,off,e,hb,hc⟩:=rA i x hx
  exact ⟨b,off,e,(hB2.cell (p:=⟨b,off + i,none⟩) hb).trans hc,hb⟩
 have rB2:∀ (i:Nat) (x:Int),B[i]? = some x->∃ b off,pB = some ⟨b,off,none⟩∧W2.cell? ⟨b,off + i,none⟩ = some (.int .i64 x):=fun i x hx=>by
  obtain ⟨b,off,e,hb,hc⟩:=rB i x hx
  exact ⟨b,off,e,(hB2.cell (p:=⟨b,off + i,none⟩) hb).trans hc⟩
 have hG2:Glob W2:=Glob.below hG hB2
 have cb:∀ (X:World),Below W2.heap.size W2 X->∀ z:Int,Calls Tryz.prog 45 #[.map (some g),.int .i64 z] X fun e X'=>∃ g',e = .returned (.map (some g'))∧Below W2.heap.size W2 X'∧MtAt X' g' (Go.Proofs.YtlhblpbfhfhlpaaGreat.belowL l z):=fun X hX z=>by
  refine (y3u (Glob.below hG2 hX) l h z (VR.belowL (VR.belowL ht hB2) hX)).mono ?_
  rintro e X' ⟨g',rfl,hB,hM⟩
  exact ⟨g',rfl,hX.trans (hB.mono hX.size),hM⟩
 have cany:∀ (X:World),Below W2.heap.size W2 X->∀ x,B = [x]->Calls Tryz.prog 47 #[.slice pA A.length cA,.func (.func 48) #[] #[.pointer (some ⟨w.heap.size,0,none⟩),.pointer (some ⟨w.heap.size + 1,0,none⟩)]] X fun e w'=>e = .returned (.bool (A.any fun a=>!bwL l a x))∧Below w.heap.size w w':=fun X hX x hx=>by
  subst hx
  have h3:w.heap.size < X.heap.size:=by have:=hX.size; omega
  have h5:w.heap.size + 1 < X.heap.size:=by have:=hX.size; omega
  have l3:w.heap.size < W2.heap.size:=by omega
  have l5:w.heap.size + 1 < W2.heap.size:=by omega
  refine (any_calls (Glob.below hG2 hX) l h A hA x ((hX.cell (p:=⟨w.heap.size,0,none⟩) l3).trans c3) ((hX.cell (p:=⟨w.heap.size + 1,0,none⟩) l5).trans c5) h3 h5 (VR.belowL (VR.belowL ht hB2) hX) (VR.belowL (VR.belowL hb hB2) hX) (VR.belowL (VR.belowL ha hB2) hX)).mono ?_
  rintro e w' ⟨rfl,hB⟩
  have hBX:=hB2.trans (hX.mono hB2.size)
  exact ⟨rfl,hBX.trans (hB.mono hBX.size)⟩
 go_enter Tryz.func20,Tryz.ntmps20
 by_cases h1:2 < A.length
 ·have h1':(2:Int) < (A.length:Int):=by omega
  have e:z0m (bwL l) A B = true:=by
   match A,h1 with
   | a :: b :: c :: r,_=>cases B <;> rfl
  rw [e]
  go_wp2
  go_ret
  exact ⟨rfl,hB2⟩
 have h1':¬ (2:Int) < (A.length:Int):=by omega
 by_cases h2:1 < B.length
 ·have h2':(1:Int) < (B.length:Int):=by omega
  have e:z0m (bwL l) A B = true:=by
   match A,B,h1,h2 with
   | [],x :: y :: r,_,_=>rfl
   | [_],x :: y :: r,_,_=>rfl
   | [_,_],x :: y :: r,_,_=>rfl
   | a :: b :: c :: r',x :: y :: r,h1,_=>simp at h1
  rw [e]
  go_wp2
  go_ret
  exact ⟨rfl,hB2⟩
 have fin:∀ Y,Below W2.heap.size W2 Y->Below w.heap.size w Y:=fun Y hY=>hB2.trans (hY.mono hB2.size)
 have hdr:∀ q,Below W2.heap.size W2 (W2.drewN q):=fun q=>⟨rfl,rfl,rfl,Nat.le_refl _,fun _ _=>rfl⟩
 have h5:=fun X (hX:Below W2.heap.size W2 X)=>(hX.cell (p:=⟨w.heap.size + 1,0,none⟩) (by show w.heap.size + 1 < _; omega)).trans c5
 rcases A with _ | ⟨a,_ | ⟨b,_ | ⟨c,r⟩⟩⟩
 ·go_wp2
  try rw [hW2]
  go_quiet (fail)
  rcases B with _ | ⟨x,_ | ⟨y,r⟩⟩
  ·go_wp2_with fail
   go_ret
   exact ⟨rfl,fin _ (hdr _)⟩
  ·obtain ⟨bx,ox,rfl,kx⟩:=rB2 0 x rfl
   rw [Nat.add_zero] at kx
   go_wp2_with fail
   go_ret
   exact ⟨rfl,fin _ (hdr _)⟩
  ·simp at h2
 ·go_wp2
  try rw [hW2]
  go_quiet (fail)
  rcases B with _ | ⟨x,_ | ⟨y,r⟩⟩
  ·go_wp2_with fail
   go_ret
   exact ⟨rfl,fin _ (hdr _)⟩
  ·go_wp2_with (go_at_call 47; refine (cany _ (hdr _) x rfl).mono ?_; rintro e w9 ⟨rfl,hB9⟩)
   go_ret
   refine ⟨?_,hB9⟩
   simp [z0m]
  ·simp at h2
 ·obtain ⟨b0,off,rfl,k0,q0⟩:=rA2 0 a rfl
  obtain ⟨b1,off1,e1,k1,q1⟩:=rA2 1 b rfl
  cases e1
  rw [Nat.add_zero] at k0
  have hS:∀ X,Below W2.heap.size W2 X->(X.cell? ⟨w.heap.size,0,none⟩ = some (.map (some g))∧X.cell? ⟨b0,off,none⟩ = some (.int .i64 a)∧X.cell? ⟨b0,off + 1,none⟩ = some (.int .i64 b)):=fun X hX =>
   ⟨(hX.cell (p:=⟨w.heap.size,0,none⟩) (by show w.heap.size < _; omega)).trans c3,(hX.cell (p:=⟨b0,off,none⟩) (by show b0 < _; omega)).trans k0,(hX.cell (p:=⟨b0,off + 1,none⟩) (by show b0 < _; omega)).trans k1⟩
  have hd1:Below W2.heap.size W2 W2.drew:=(Below.refl _ W2).drew
  go_wp2
  try rw [hW2]
  refine wp_region_held_drew (S:=fun X=>X.cell? ⟨w.heap.size,0,none⟩ = some (.map (some g))∧X.cell? ⟨b0,off,none⟩ = some (.int .i64 a)∧X.cell? ⟨b0,off + 1,none⟩ = some (.int .i64 b)) (by kernel_rfl) (hS _ hd1) (fun hHeld=>?_)
  refine tkH (i:=0) (by simp only [List.getElem?_toArray,List.getElem?_cons_succ,List.getElem?_cons_zero]; with_reducible rfl) (by kernel_rfl) (by exact fun _ _ _ h=>h) (by kernel_rfl) (by intro w hSw; (try dsimp only at hSw); go_simp; with_reducible rfl) (by assumption) ?_
  try simp only [Act.put,List.setIfInBounds_toArray,List.set_cons_zero,List.set_cons_succ]
  refine tkH (i:=1) (by simp only [List.getElem?_toArray,List.getElem?_cons_succ,List.getElem?_cons_zero]; with_reducible rfl) (by kernel_rfl) (by exact fun _ _ _ h=>h) (by kernel_rfl) (by intro w hSw; (try dsimp only at hSw); go_simp; with_reducible rfl) (by assumption) ?_
  try simp only [Act.put,List.setIfInBounds_toArray,List.set_cons_zero,List.set_cons_succ]
  refine tkH (i:=2) (by simp only [List.getElem?_toArray,List.getElem?_cons_succ,List.getElem?_cons_zero]; with_reducible rfl) (by kernel_rfl) (by exact fun _ _ _ h=>h) (by kernel_rfl) (by intro w hSw; (try dsimp only at hSw); go_simp; with_reducible rfl) (by assumption) ?_
  try simp only [Act.put,List.setIfInBounds_toArray,List.set_cons_zero,List.set_cons_succ]
  refine tkH (i:=3) (by simp only [List.getElem?_toArray,List.getElem?_cons_succ,List.getElem?_cons_zero]; with_reducible rfl) (by kernel_rfl) (by exact fun _ _ _ h=>h) (by kernel_rfl) (by intro w hSw; (try dsimp only at hSw); go_simp; with_reducible rfl) (by assumption) ?_
  try simp only [Act.put,List.setIfInBounds_toArray,List.set_cons_zero,List.set_cons_succ]
  refine tkH (i:=4) (by simp only [List.getElem?_toArray,List.getElem?_cons_succ,List.getElem?_cons_zero]; with_reducible rfl) (by kernel_rfl) (by exact fun _ _ _ h=>h) (by kernel_rfl) (by intro w hSw; (try dsimp only at hSw); go_simp; with_reducible rfl) (by assumption) ?_
  try simp only [Act.put,List.setIfInBounds_toArray,List.set_cons_zero,List.set_cons_succ]
  refine tkH (i:=5) (by simp only [List.getElem?_toArray,List.getElem?_cons_succ,List.getElem?_cons_zero]; with_reducible rfl) (by kernel_rfl) (by exact fun _ _ _ h=>h) (by kernel_rfl) (by intro w hSw; (try dsimp only at hSw); go_simp; with_reducible rfl) (by assumption) ?_
  try simp only [Act.put,List.setIfInBounds_toArray,List.set_cons_zero,List.set_cons_succ]
  refine tkH (i:=6) (by simp only [List.getElem?_toArray,List.getElem?_cons_succ,List.getElem?_cons_zero]; with_reducible rfl) (by kernel_rfl) (by exact fun _ _ _ h=>h) (by kernel_rfl) (by intro w hSw; (try dsimp only at hSw); go_simp; with_reducible rfl) (by assumption) ?_
  try simp only [Act.put,List.setIfInBounds_toArray,List.set_cons_zero,List.set_cons_succ]
  refine tkH (i:=7) (by simp only [List.getElem?_toArray,List.getElem?_cons_succ,List.getElem?_cons_zero]; with_reducible rfl) (by kernel_rfl) (by exact fun _ _ _ h=>h) (by kernel_rfl) (by intro w hSw; (try dsimp only at hSw); go_simp; with_reducible rfl) (by assumption) ?_
  try simp only [Act.put,List.setIfInBounds_toArray,List.set_cons_zero,List.set_cons_succ]
  refine tkH (i:=9) (by simp only [List.getElem?_toArray,List.getElem?_cons_succ,List.getElem?_cons_zero]; with_reducible rfl) (by kernel_rfl) (by exact fun _ _ _ h=>h) (by kernel_rfl) (by intro w hSw; (try dsimp only at hSw); go_simp; with_reducible rfl) (by assumption) ?_
  try simp only [Act.put,List.setIfInBounds_toArray,List.set_cons_zero,List.set_cons_succ]
  refine tkH (i:=10) (by simp only [List.getElem?_toArray,List.getElem?_cons_succ,List.getElem?_cons_zero]; with_reducible rfl) (by kernel_rfl) (by exact fun _ _ _ h=>h) (by kernel_rfl) (by intro w hSw; (try dsimp only at hSw); go_simp; with_reducible rfl) (by assumption) ?_
  try simp only [Act.put,List.setIfInBounds_toArray,List.set_cons_zero,List.set_cons_succ]
  refine tkH (i:=11) (by simp only [List.getElem?_toArray,List.getElem?_cons_succ,List.getElem?_cons_zero]; with_reducible rfl) (by kernel_rfl) (by exact fun _ _ _ h=>h) (by kernel_rfl) (by intro w hSw; (try dsimp only at hSw); go_simp; with_reducible rfl) (by assumption) ?_
  try simp only [Act.put,List.setIfInBounds_toArray,List.set_cons_zero,List.set_cons_succ]
  refine wpAnyH_ready (rs:=[8]) (by kernel_rfl) (by simp) (AllReadyH.cons rfl (fun K hK=>?_) AllReadyH.nil)
  go_simp
  go_at_call 45
  refine (cb _ hd1 a).mono ?_
  rintro e w3 ⟨g3,rfl,hX3,hM3⟩
  dsimp only
  go_wp2
  refine hK.out _ _ (hS _ hX3) (fun hHeld1=>?_)
  clear hK K
  try simp only [Act.put,List.setIfInBounds_toArray,List.set_cons_zero,List.set_cons_succ]
  have c53:=h5 _ hX3
  have hl3:=hM3.2 w3 rfl b
  cases hab:(Go.Proofs.YtlhblpbfhfhlpaaGreat.belowL l a).contains b
  case true =>
   rw [hab] at hl3
   refine wpAnyH_ready (rs:=[12]) (by kernel_rfl) (by simp) (AllReadyH.cons rfl (fun K hK=>?_) AllReadyH.nil)
   go_simp
   refine hK.out _ _ (hS _ hX3) (fun hHeld2=>?_)
   clear hK K
   try simp only [Act.put,List.setIfInBounds_toArray,List.set_cons_zero,List.set_cons_succ]
   refine tkH (i:=13) (by simp only [List.getElem?_toArray,List.getElem?_cons_succ,List.getElem?_cons_zero]; with_reducible rfl) (by kernel_rfl) (by exact fun _ _ _ h=>h) (by kernel_rfl) (by intro w hSw; (try dsimp only at hSw); go_simp; with_reducible rfl) (by assumption) ?_
   try simp only [Act.put,List.setIfInBounds_toArray,List.set_cons_zero,List.set_cons_succ]
   refine tkH (i:=14) (by simp only [List.getElem?_toArray,List.getElem?_cons_succ,List.getElem?_cons_zero]; with_reducible rfl) (by kernel_rfl) (by exact fun _ _ _ h=>h) (by kernel_rfl) (by intro w hSw; (try dsimp only at hSw); go_simp; with_reducible rfl) (by assumption) ?_
   try simp only [Act.put,List.setIfInBounds_toArray,List.set_cons_zero,List.set_cons_succ]
   refine tkH (i:=15) (by simp only [List.getElem?_toArray,List.getElem?_cons_succ,List.getElem?_cons_zero]; with_reducible rfl) (by kernel_rfl) (by exact fun _ _ _ h=>h) (by kernel_rfl) (by intro w hSw; (try dsimp only at hSw); go_simp; with_reducible rfl) (by assumption) ?_
   try simp only [Act.put,List.setIfInBounds_toArray,List.set_cons_zero,List.set_cons_succ]
   refine tkO (i:=16) (by simp only [List.getElem?_toArray,List.getElem?_cons_succ,List.getElem?_cons_zero]; with_reducible rfl) (by kernel_rfl) (by exact fun _ _ _ h=>h) (by kernel_rfl) (by assumption) ?_
   try simp only [Act.put,List.setIfInBounds_toArray,List.set_cons_zero,List.set_cons_succ]
   refine tkO (i:=17) (by simp only [List.getElem?_toArray,List.getElem?_cons_succ,List.getElem?_cons_zero]; with_reducible rfl) (by kernel_rfl) (by exact fun _ _ _ h=>h) (by kernel_rfl) (by assumption) ?_
   try simp only [Act.put,List.setIfInBounds_toArray,List.set_cons_zero,List.set_cons_succ]
   refine tkO (i:=18) (by simp only [List.getElem?_toArray,List.getElem?_cons_succ,List.getElem?_cons_zero]; with_reducible rfl) (by kernel_rfl) (by exact fun _ _ _ h=>h) (by kernel_rfl) (by assumption) ?_
   try simp only [Act.put,List.setIfInBounds_toArray,List.set_cons_zero,List.set_cons_succ]
   refine tkO (i:=19) (by simp only [List.getElem?_toArray,List.getElem?_cons_succ,List.getElem?_cons_zero]; with_reducible rfl) (by kernel_rfl) (by exact fun _ _ _ h=>h) (by kernel_rfl) (by assumption) ?_
   try simp only [Act.put,List.setIfInBounds_toArray,List.set_cons_zero,List.set_cons_succ]
   refine tkO (i:=20) (by simp only [List.getElem?_toArray,List.getElem?_cons_succ,List.getElem?_cons_zero]; with_reducible rfl) (by kernel_rfl) (by exact fun _ _ _ h=>h) (by kernel_rfl) (by assumption) ?_
   try simp only [Act.put,List.setIfInBounds_toArray,List.set_cons_zero,List.set_cons_succ]
   refine tkO (i:=21) (by simp only [List.getElem?_toArray,List.getElem?_cons_succ,List.getElem?_cons_zero]; with_reducible rfl) (by kernel_rfl) (by exact fun _ _ _ h=>h) (by kernel_rfl) (by assumption) ?_
   try simp only [Act.put,List.setIfInBounds_toArray,List.set_cons_zero,List.set_cons_succ]
   refine tkO (i:=22) (by simp only [List.getElem?_toArray,List.getElem?_cons_succ,List.getElem?_cons_zero]; with_reducible rfl) (by kernel_rfl) (by exact fun _ _ _ h=>h) (by kernel_rfl) (by assumption) ?_
   try simp only [Act.put,List.setIfInBounds_toArray,List.set_cons_zero,List.set_cons_succ]
   refine tkO (i:=23) (by simp only [List.getElem?_toArray,List.getElem?_cons_succ,List.getElem?_cons_zero]; with_reducible rfl) (by kernel_rfl) (by exact fun _ _ _ h=>h) (by kernel_rfl) (by assumption) ?_
   try simp only [Act.put,List.setIfInBounds_toArray,List.set_cons_zero,List.set_cons_succ]
   refine tkO (i:=24) (by simp only [List.getElem?_toArray,List.getElem?_cons_succ,List.getElem?_cons_zero]; with_reducible rfl) (by kernel_rfl) (by exact fun _ _ _ h=>h) (by kernel_rfl) (by assumption) ?_
   try simp only [Act.put,List.setIfInBounds_toArray,List.set_cons_zero,List.set_cons_succ]
   refine tkO (i:=25) (by simp only [List.getElem?_toArray,List.getElem?_cons_succ,List.getElem?_cons_zero]; with_reducible rfl) (by kernel_rfl) (by exact fun _ _ _ h=>h) (by kernel_rfl) (by assumption) ?_
   try simp only [Act.put,List.setIfInBounds_toArray,List.set_cons_zero,List.set_cons_succ]
   refine tkH (i:=26) (by simp only [List.getElem?_toArray,List.getElem?_cons_succ,List.getElem?_cons_zero]; with_reducible rfl) (by kernel_rfl) (by exact fun _ _ _ h=>h) (by kernel_rfl) (by intro w hSw; (try dsimp only at hSw); go_simp; with_reducible rfl) (by assumption) ?_
   try simp only [Act.put,List.setIfInBounds_toArray,List.set_cons_zero,List.set_cons_succ]
   refine tkH (i:=27) (by simp only [List.getElem?_toArray,List.getElem?_cons_succ,List.getElem?_cons_zero]; with_reducible rfl) (by kernel_rfl) (by exact fun _ _ _ h=>h) (by kernel_rfl) (by intro w hSw; (try dsimp only at hSw); go_simp; with_reducible rfl) (by assumption) ?_
   try simp only [Act.put,List.setIfInBounds_toArray,List.set_cons_zero,List.set_cons_succ]
   refine wpAnyH_done (by kernel_rfl) ?_ _
   rcases B with _ | ⟨x,_ | ⟨y,r⟩⟩
   ·have er:z0m (bwL l) [a,b] [] = false:=by simp only [z0m,bwL,hab]; rfl
    go_wp2_with fail
    go_ret
    exact ⟨congrArg (fun b=>Ending.returned (Value.bool b)) er.symm,fin _ hX3⟩
   ·have er:z0m (bwL l) [a,b] [x] = (!bwL l a x || !bwL l b x):=by simp only [z0m,bwL,hab]; rfl
    obtain ⟨bx,ox,rfl,kx⟩:=rB2 0 x rfl
    go_wp2_with (go_at_call 47; refine (cany _ hX3 x rfl).mono ?_; rintro e w9 ⟨rfl,hB9⟩)
    go_ret
    exact ⟨congrArg (fun b=>Ending.returned (Value.bool b)) er.symm,hB9⟩
   ·simp at h2
  case false =>
   rw [hab] at hl3
   refine wpAnyH_ready (rs:=[12]) (by kernel_rfl) (by simp) (AllReadyH.cons rfl (fun K hK=>?_) AllReadyH.nil)
   go_simp
   refine hK.out _ _ (hS _ hX3) (fun hHeld3=>?_)
   clear hK K
   try simp only [Act.put,List.setIfInBounds_toArray,List.set_cons_zero,List.set_cons_succ]
   refine tkH (i:=13) (by simp only [List.getElem?_toArray,List.getElem?_cons_succ,List.getElem?_cons_zero]; with_reducible rfl) (by kernel_rfl) (by exact fun _ _ _ h=>h) (by kernel_rfl) (by intro w hSw; (try dsimp only at hSw); go_simp; with_reducible rfl) (by assumption) ?_
   try simp only [Act.put,List.setIfInBounds_toArray,List.set_cons_zero,List.set_cons_succ]
   refine tkH (i:=14) (by simp only [List.getElem?_toArray,List.getElem?_cons_succ,List.getElem?_cons_zero]; with_reducible rfl) (by kernel_rfl) (by exact fun _ _ _ h=>h) (by kernel_rfl) (by intro w hSw; (try dsimp only at hSw); go_simp; with_reducible rfl) (by assumption) ?_
   try simp only [Act.put,List.setIfInBounds_toArray,List.set_cons_zero,List.set_cons_succ]
   refine tkH (i:=15) (by simp only [List.getElem?_toArray,List.getElem?_cons_succ,List.getElem?_cons_zero]; with_reducible rfl) (by kernel_rfl) (by exact fun _ _ _ h=>h) (by kernel_rfl) (by intro w hSw; (try dsimp only at hSw); go_simp; with_reducible rfl) (by assumption) ?_
   try simp only [Act.put,List.setIfInBounds_toArray,List.set_cons_zero,List.set_cons_succ]
   refine tkH (i:=16) (by simp only [List.getElem?_toArray,List.getElem?_cons_succ,List.getElem?_cons_zero]; with_reducible rfl) (by kernel_rfl) (by exact fun _ _ _ h=>h) (by kernel_rfl) (by intro w hSw; (try dsimp only at hSw); go_simp; with_reducible rfl) (by assumption) ?_
   try simp only [Act.put,List.setIfInBounds_toArray,List.set_cons_zero,List.set_cons_succ]
   refine tkH (i:=17) (by simp only [List.getElem?_toArray,List.getElem?_cons_succ,List.getElem?_cons_zero]; with_reducible rfl) (by kernel_rfl) (by exact fun _ _ _ h=>h) (by kernel_rfl) (by intro w hSw; (try dsimp only at hSw); go_simp; with_reducible rfl) (by assumption) ?_
   try simp only [Act.put,List.setIfInBounds_toArray,List.set_cons_zero,List.set_cons_succ]
   refine tkH (i:=18) (by simp only [List.getElem?_toArray,List.getElem?_cons_succ,List.getElem?_cons_zero]; with_reducible rfl) (by kernel_rfl) (by exact fun _ _ _ h=>h) (by kernel_rfl) (by intro w hSw; (try dsimp only at hSw); go_simp; with_reducible rfl) (by assumption) ?_
   try simp only [Act.put,List.setIfInBounds_toArray,List.set_cons_zero,List.set_cons_succ]
   refine tkH (i:=19) (by simp only [List.getElem?_toArray,List.getElem?_cons_succ,List.getElem?_cons_zero]; with_reducible rfl) (by kernel_rfl) (by exact fun _ _ _ h=>h) (by kernel_rfl) (by intro w hSw; (try dsimp only at hSw); go_simp; with_reducible rfl) (by assumption) ?_
   try simp only [Act.put,List.setIfInBounds_toArray,List.set_cons_zero,List.set_cons_succ]
   refine tkH (i:=21) (by simp only [List.getElem?_toArray,List.getElem?_cons_succ,List.getElem?_cons_zero]; with_reducible rfl) (by kernel_rfl) (by exact fun _ _ _ h=>h) (by kernel_rfl) (by intro w hSw; (try dsimp only at hSw); go_simp; with_reducible rfl) (by assumption) ?_
   try simp only [Act.put,List.setIfInBounds_toArray,List.set_cons_zero,List.set_cons_succ]
   refine tkH (i:=22) (by simp only [List.getElem?_toArray,List.getElem?_cons_succ,List.getElem?_cons_zero]; with_reducible rfl) (by kernel_rfl) (by exact fun _ _ _ h=>h) (by kernel_rfl) (by intro w hSw; (try dsimp only at hSw); go_simp; with_reducible rfl) (by assumption) ?_
   try simp only [Act.put,List.setIfInBounds_toArray,List.set_cons_zero,List.set_cons_succ]
   refine tkH (i:=23) (by simp only [List.getElem?_toArray,List.getElem?_cons_succ,List.getElem?_cons_zero]; with_reducible rfl) (by kernel_rfl) (by exact fun _ _ _ h=>h) (by kernel_rfl) (by intro w hSw; (try dsimp only at hSw); go_simp; with_reducible rfl) (by assumption) ?_
   try simp only [Act.put,List.setIfInBounds_toArray,List.set_cons_zero,List.set_cons_succ]
   refine wpAnyH_ready (rs:=[20]) (by kernel_rfl) (by simp) (AllReadyH.cons rfl (fun K hK=>?_) AllReadyH.nil)
   go_simp
   go_at_call 45
   refine (cb _ hX3 b).mono ?_
   rintro e w4 ⟨g4,rfl,hX4,hM4⟩
   dsimp only
   go_wp2
   refine hK.out _ _ (hS _ hX4) (fun hHeld4=>?_)
   clear hK K
   try simp only [Act.put,List.setIfInBounds_toArray,List.set_cons_zero,List.set_cons_succ]
   have c54:=h5 _ hX4
   have hl4:=hM4.2 w4 rfl a
   cases hba:(Go.Proofs.YtlhblpbfhfhlpaaGreat.belowL l b).contains a
   case true =>
    rw [hba] at hl4
    refine wpAnyH_ready (rs:=[24]) (by kernel_rfl) (by simp) (AllReadyH.cons rfl (fun K hK=>?_) AllReadyH.nil)
    go_simp
    refine hK.out _ _ (hS _ hX4) (fun hHeld5=>?_)
    clear hK K
    try simp only [Act.put,List.setIfInBounds_toArray,List.set_cons_zero,List.set_cons_succ]
    refine tkH (i:=25) (by simp only [List.getElem?_toArray,List.getElem?_cons_succ,List.getElem?_cons_zero]; with_reducible rfl) (by kernel_rfl) (by exact fun _ _ _ h=>h) (by kernel_rfl) (by intro w hSw; (try dsimp only at hSw); go_simp; with_reducible rfl) (by assumption) ?_
    try simp only [Act.put,List.setIfInBounds_toArray,List.set_cons_zero,List.set_cons_succ]
    refine tkH (i:=26) (by simp only [List.getElem?_toArray,List.getElem?_cons_succ,List.getElem?_cons_zero]; with_reducible rfl) (by kernel_rfl) (by exact fun _ _ _ h=>h) (by kernel_rfl) (by intro w hSw; (try dsimp only at hSw); go_simp; with_reducible rfl) (by assumption) ?_
    try simp only [Act.put,List.setIfInBounds_toArray,List.set_cons_zero,List.set_cons_succ]
    refine tkH (i:=27) (by simp only [List.getElem?_toArray,List.getElem?_cons_succ,List.getElem?_cons_zero]; with_reducible rfl) (by kernel_rfl) (by exact fun _ _ _ h=>h) (by kernel_rfl) (by intro w hSw; (try dsimp only at hSw); go_simp; with_reducible rfl) (by assumption) ?_
    try simp only [Act.put,List.setIfInBounds_toArray,List.set_cons_zero,List.set_cons_succ]
    refine wpAnyH_done (by kernel_rfl) ?_ _
    rcases B with _ | ⟨x,_ | ⟨y,r⟩⟩
    ·have er:z0m (bwL l) [a,b] [] = false:=by simp only [z0m,bwL,hab,hba]; rfl
     go_wp2_with fail
     go_ret
     exact ⟨congrArg (fun b=>Ending.returned (Value.bool b)) er.symm,fin _ hX4⟩
    ·have er:z0m (bwL l) [a,b] [x] = (!bwL l a x || !bwL l b x):=by simp only [z0m,bwL,hab,hba]; rfl
     obtain ⟨bx,ox,rfl,kx⟩:=rB2 0 x rfl
     go_wp2_with (go_at_call 47; refine (cany _ hX4 x rfl).mono ?_; rintro e w9 ⟨rfl,hB9⟩)
     go_ret
     exact ⟨congrArg (fun b=>Ending.returned (Value.bool b)) er.symm,hB9⟩
    ·simp at h2
   case false =>
    rw [hba] at hl4
    refine wpAnyH_ready (rs:=[24]) (by kernel_rfl) (by simp) (AllReadyH.cons rfl (fun K hK=>?_) AllReadyH.nil)
    go_simp
    refine hK.out _ _ (hS _ hX4) (fun hHeld6=>?_)
    clear hK K
    try simp only [Act.put,List.setIfInBounds_toArray,List.set_cons_zero,List.set_cons_succ]
    refine tkH (i:=25) (by simp only [List.getElem?_toArray,List.getElem?_cons_succ,List.getElem?_cons_zero]; with_reducible rfl) (by kernel_rfl) (by exact fun _ _ _ h=>h) (by kernel_rfl) (by intro w hSw; (try dsimp only at hSw); go_simp; with_reducible rfl) (by assumption) ?_
    try simp only [Act.put,List.setIfInBounds_toArray,List.set_cons_zero,List.set_cons_succ]
    refine tkH (i:=26) (by simp only [List.getElem?_toArray,List.getElem?_cons_succ,List.getElem?_cons_zero]; with_reducible rfl) (by kernel_rfl) (by exact fun _ _ _ h=>h) (by kernel_rfl) (by intro w hSw; (try dsimp only at hSw); go_simp; with_reducible rfl) (by assumption) ?_
    try simp only [Act.put,List.setIfInBounds_toArray,List.set_cons_zero,List.set_cons_succ]
    refine tkH (i:=27) (by simp only [List.getElem?_toArray,List.getElem?_cons_succ,List.getElem?_cons_zero]; with_reducible rfl) (by kernel_rfl) (by exact fun _ _ _ h=>h) (by kernel_rfl) (by intro w hSw; (try dsimp only at hSw); go_simp; with_reducible rfl) (by assumption) ?_
    try simp only [Act.put,List.setIfInBounds_toArray,List.set_cons_zero,List.set_cons_succ]
    refine wpAnyH_done (by kernel_rfl) ?_ _
    have er:z0m (bwL l) [a,b] B = true:=by
     rcases B with _ | ⟨x,_ | ⟨y,r⟩⟩
     ·simp only [z0m,bwL,hab,hba]; rfl
     ·simp only [z0m,bwL,hab,hba]; rfl
     ·simp at h2
    go_wp2_with fail
    go_ret
    exact ⟨congrArg (fun b=>Ending.returned (Value.bool b)) er.symm,fin _ hX4⟩
 ·simp at h1
end Go.Proofs.YtlhblpbfhfhlpaaGreat
end
section
namespace Go.Proofs.YtlhblpbfhfhlpaaGreat
open Go.RowKit Go.MapKept
def MtR (ms:Array MapEntry) (c:Nat) (m:List Int):Prop:=∀ (Pr:Nat->Nat->Prop) (w:World),MapR Pr w (metM m) ms c
theorem MtR.nil:MtR #[] 0 []:=fun _ _=>⟨stamped_empty 0,rfl,fun i e m h=>by simp [metM] at h,fun i e m h=>by simp [metM] at h⟩
theorem MtR.upd {ms:Array MapEntry} {c:Nat} {m:List Int} (hm:MtR ms c m) (q:Int) (W:World):∃ ms' c',MtR ms' c' (if m.contains q then m else m ++ [q]) ∧
  ∀ (X:World) (g:Nat),X.heap[g]? = some (.map ms c)->(Instr.mapUpdate 52 (.map (some g)) (.int .i64 q) (.bool true)).run Tryz.prog X = .ok () (X.putObj g (.map ms' c')):=by
 have ht:Tryz.prog.underlying 52 = some (.map 3 4):=by kernel_rfl
 have hkt:Tryz.prog.underlying 3 = some (.int .i64):=by kernel_rfl
 have hK:IsKey (.int .i64) (.int .i64 q):=rfl
 have hl:=zbs m q
 rcases (hm (fun _ _=>True) W).lookup q with ⟨l1,l2,l3⟩ | ⟨j,e,x,l1,l2,l3,l4,l5,l6,l7⟩
 ·rw [l1] at hl
  have hc:m.contains q = false:=by
   cases h:m.contains q with
   | false=>rfl
   | true=>rw [h] at hl; simp at hl
  rw [hc]
  refine ⟨ms.push ⟨.int .i64 q,.bool true,c⟩,c + 1,fun Pr w=>?_,fun X g hb=>?_⟩
  ·have h0:=hm Pr w
   have e0:metM (m ++ [q]) = metM m ++ [(q,.bool true)]:=by unfold metM; rw [List.map_append]; rfl
   show MapR Pr w (metM (m ++ [q])) _ _
   rw [e0]
   have key:∀ (i:Nat) (e:Int × AV) (x:MapEntry),(metM m ++ [(q,AV.bool true)])[i]? = some e->(ms.push ⟨.int .i64 q,.bool true,c⟩)[i]? = some x->((metM m)[i]? = some e∧ms[i]? = some x)∨(e = (q,AV.bool true)∧x = ⟨.int .i64 q,.bool true,c⟩):=by
    intro i e x h1 h2
    rw [Array.getElem?_push] at h2
    by_cases hi:i = ms.size
    ·rw [if_pos hi] at h2
     rw [List.getElem?_append_right (by rw [hi,h0.len]; exact Nat.le_refl _),hi,h0.len,Nat.sub_self] at h1
     cases h1; cases h2
     exact .inr ⟨rfl,rfl⟩
    ·rw [if_neg hi] at h2
     have:=(Array.getElem?_eq_some_iff.1 h2).1
     rw [List.getElem?_append_left (by rw [h0.len]; exact this)] at h1
     exact .inl ⟨h1,h2⟩
   refine ⟨Go.MapKept.stamped_push h0.st (h0.fresh l1),by rw [List.length_append,Array.size_push,h0.len]; rfl,fun i e m h1 h2=>?_,fun i e m h1 h2=>?_⟩
   ·rcases key i e m h1 h2 with ⟨q1,q2⟩ | ⟨rfl,rfl⟩
    ·exact h0.key i e m q1 q2
    ·rfl
   ·rcases key i e m h1 h2 with ⟨q1,q2⟩ | ⟨rfl,rfl⟩
    ·exact h0.val i e m q1 q2
    ·exact .bool _
  ·simp [Instr.mapUpdate,run_underlying ht,Go.MapKept.run_getObj_map hb,run_checkKey hkt hK,run_findKey hkt l2,Go.MapKept.run_setObj_map _ hb]
   try rfl
 ·rw [l1] at hl
  have hc:m.contains q = true:=by
   cases h:m.contains q with
   | true=>rfl
   | false=>rw [h] at hl; simp at hl
  rw [hc]
  refine ⟨ms.modify j fun x=>{ x with key:=.int .i64 q,val:=.bool true },c,fun Pr w=>?_,fun X g hb=>?_⟩
  ·have h0:=hm Pr w
   have k1:=h0.key j e x l2 l3
   rw [l4] at k1
   have k2:e.1 = q:=by injection k1 with _ k; exact k.symm
   have k3:e.2 = AV.bool true:=by
    have:=l2
    unfold metM at this
    rw [List.getElem?_map] at this
    obtain ⟨y,_,rfl⟩:=Option.map_eq_some_iff.1 this
    rfl
   show MapR Pr w (metM m) _ _
   have key:∀ (i:Nat) (x':MapEntry),(ms.modify j fun x=>{ x with key:=.int .i64 q,val:=.bool true })[i]? = some x'->(ms[i]? = some x')∨(i = j∧x'.key = .int .i64 q∧x'.val = .bool true):=by
    intro i x' h2
    rw [Array.getElem?_modify] at h2
    by_cases hi:j = i
    ·subst hi
     rw [if_pos rfl,l3] at h2
     cases h2
     exact .inr ⟨rfl,rfl,rfl⟩
    ·rw [if_neg hi] at h2
     exact .inl h2
   refine ⟨Go.MapKept.stamped_modify h0.st j _ (fun _ _=>rfl) (fun x _ hx=>by rw [l3] at hx; cases hx; exact l4.symm),by rw [Array.size_modify]; exact h0.len,fun i e' x' h1 h2=>?_,fun i e' x' h1 h2=>?_⟩
   ·rcases key i x' h2 with q2 | ⟨rfl,q2,q3⟩
    ·exact h0.key i e' x' h1 q2
    ·rw [l2] at h1; cases h1; rw [q2,k2]
   ·rcases key i x' h2 with q2 | ⟨rfl,q2,q3⟩
    ·exact h0.val i e' x' h1 q2
    ·rw [l2] at h1; cases h1; rw [q3,k3]; exact .bool _
  ·simp [Instr.mapUpdate,run_underlying ht,Go.MapKept.run_getObj_map hb,run_checkKey hkt hK,run_findKey hkt l5,l3,l4,run_keyThatStays hK,Go.MapKept.run_setObj_map _ hb]
   try rfl
theorem of_calls {w:World} (hG:Glob w) (l:List Nd) (h:Lad l) {v:Value} (hv:VR (wideL w) w (.sl (l.map Nd.a)) v) :
  Calls Tryz.prog 18 #[v] w fun e w'=>∃ t,e = .returned t∧Below w.heap.size w w'∧VR (wideL w') w' (.mv (z29 l)) t:=by
 refine ((lof_ok l h.ord h.len).calls w (wideL w) [v] hG (fun _ _ h=>h) rfl (fun j d v h1 h2=>by
  match j with
  | 0=>cases h1; cases h2; exact hv
  | j + 1=>simp at h1)).mono ?_
 rintro e w' ⟨v,rfl,hB,hR⟩
 exact ⟨v,rfl,hB,VR.wideL hR⟩
theorem own_vr {Pr:Nat->Nat->Prop} {base:Nat} {w:World} {l:List Int} {v:Value} (h:y8i Pr base w 1 3 (l.map (AV.int .i64)) v):VR (wideL w) w (.sl (l.map (AV.int .i64))) v:=by
 obtain ⟨_,_,h⟩:=h
 rcases h with ⟨h1,rfl⟩ | ⟨g,cap,cs,rfl,hg,hb,hcs,hn,hmx,hr⟩
 ·rw [h1]
  exact .sl [] none 0 1 (fun _ _=>undef) (Nat.le_refl _) (by decide) (fun h=>by simp at h) (fun i d j c h=>by simp at h)
 ·refine .sl _ (some ⟨g,0,none⟩) cap 1 (fun i _=>(cs[i]?).getD undef) hn hmx (fun h0=>⟨g,0,rfl,?_⟩) (fun i d j c h1 h2=>?_)
  ·refine ⟨(Array.getElem?_eq_some_iff.1 hb).1,fun d hd=>?_,fun i j hi hj=>?_⟩
   ·obtain ⟨x,_,rfl⟩:=List.mem_map.1 hd
    rfl
   ·obtain rfl:j = 0:=by omega
    have hi':i < l.length:=by simpa using hi
    obtain ⟨u,hu,_⟩:=hr i (.int .i64 l[i]) 0 (.int .i64 l[i]) (by rw [List.getElem?_map,List.getElem?_eq_getElem hi']; rfl) rfl
    refine ⟨(Array.getElem?_eq_some_iff.1 hb).1,?_⟩
    rw [Nat.mul_one,Nat.add_zero] at hu
    rw [z0c hb,show 0 + (i * 1 + 0) = i by omega]
    show cs[i]? = _
    rw [hu]
    rfl
  ·rw [List.getElem?_map] at h1
   obtain ⟨x,h3,rfl⟩:=Option.map_eq_some_iff.1 h1
   match j,h2 with
   | 0,h2 =>
    cases h2
    obtain ⟨u,hu,hv⟩:=hr i (.int .i64 x) 0 (.int .i64 x) (by rw [List.getElem?_map,h3]; rfl) rfl
    rw [Nat.mul_one,Nat.add_zero] at hu
    show VR _ _ _ ((cs[i]?).getD undef)
    rw [hu]
    exact hv.wideL
   | j + 1,h2=>simp [AV.cells] at h2
theorem zfz {w:World} (hG:Glob w) (hs:List Hld) (hn:hs.length≤1000) (t:Int) {v:Value} (hv:VR (wideL w) w (.sl (hs.map Hld.a)) v) :
  Calls Tryz.prog 21 #[v,.int .i64 t] w fun e w'=>∃ r,e = .returned r∧Below w.heap.size w w'∧VR (wideL w') w' (.sl ((z1d hs t).map (AV.int .i64))) r:=by
 refine ((slotsOf_ok hs hn t).calls w (wideL w) [v,.int .i64 t] hG (fun _ _ h=>h) rfl (fun j d v h1 h2=>by
  match j with
  | 0=>cases h1; cases h2; exact hv
  | 1=>cases h1; cases h2; exact .int _ _
  | j + 2=>simp at h1)).mono ?_
 rintro e w' ⟨v,rfl,hB,hR⟩
 exact ⟨v,rfl,hB,own_vr hR⟩
theorem zsq {w:World} {ops:Array Oper} {rest:List Oper} {o:Oper} {a:Act} {Q:Exit->Act->World->Prop} (hgd:o.guard = none) (s x:Operand)
  (ho:o.op = .call { callee:=.builtin .append,args:=#[s,x],argTypes:=#[28,28] })
  (base:Nat) (v:Value) (n:Nat) (xs:List Value) (hs:a.eval s = v) (hown:w.ownsRow base 3 1 v n xs)
  (ad:Addr) (y:Int) (hx:a.eval x = .slice (some ad) 1 1) (hc:w.cell? ad = some (.int .i64 y)) (hl:n + 1≤1000000) (hbase:base≤w.heap.size)
  (h:∀ v' w',w'.ownsRow base 3 1 v' (n + 1) (xs ++ [.int .i64 y])->w.grownBy w' v.ownBlock->(∀ k,v'.ownBlock = some k->v.ownBlock = some k∨k = w.heap.size)->wpList Tryz.prog ops Q rest (a.put o.dst v') w') :
  wpList Tryz.prog ops Q (o :: rest) a w:=by
 obtain ⟨i0,hi,hz0,hz1,hz2⟩:=info_parts infoInt
 have hmx:100000000≤maxLen:=by decide
 have ha0:ad.add 0 = ad:=by
  obtain ⟨b,o,p⟩:=ad
  cases p <;> rfl
 exact wpList_append_lies _ hgd s x _ ho base _ i0 _ 1 8 Tryz.underlying28 hi hz0 hz1 hz2 rfl (by decide) v n xs hs hown ad 1 1 [.int .i64 y] hx rfl (fun j u hj=>by
  match j,hj with
  | 0,hj=>cases hj; rw [ha0]; exact hc
  | j + 1,hj=>simp at hj) (fun u hu=>by rw [List.mem_singleton.1 hu]; rfl) (by omega) (by omega) (by omega) hbase _ rfl fun g cap w' h2 h3 h4 h5=>h _ w' h2 h3 fun k hk=>by
   cases hk
   exact h4
end Go.Proofs.YtlhblpbfhfhlpaaGreat
end
section
namespace Go.Proofs.YtlhblpbfhfhlpaaGreat
open Go.RowKit Go.MapKept
def metK (hs ws:List Hld) (k:Nat):List Int:=ddL ((thrL hs ws).take k) []
def fltK (l:List Nd) (hs ws:List Hld) (k:Nat):List Int:=(metK hs ws k).filter fun t=>fltB l hs ws t
theorem zj0 {hs ws:List Hld} {k:Nat} {x:Hld} (hx:(hs ++ ws)[k]? = some x):metK hs ws (k + 1) = if (metK hs ws k).contains x.thread then metK hs ws k else metK hs ws k ++ [x.thread]:=by
 unfold metK
 have h:(thrL hs ws)[k]? = some x.thread:=by unfold thrL; rw [List.getElem?_map,hx]; rfl
 rw [take_at h,y88]
theorem fltK_met {l:List Nd} {hs ws:List Hld} {k:Nat} {x:Hld} (hx:(hs ++ ws)[k]? = some x) (hm:(metK hs ws k).contains x.thread = true):fltK l hs ws (k + 1) = fltK l hs ws k:=by
 unfold fltK
 rw [zj0 hx,if_pos hm]
theorem y7q {l:List Nd} {hs ws:List Hld} {k:Nat} {x:Hld} (hx:(hs ++ ws)[k]? = some x) (hm:(metK hs ws k).contains x.thread = false):fltK l hs ws (k + 1) = fltK l hs ws k ++ if fltB l hs ws x.thread then [x.thread] else []:=by
 unfold fltK
 rw [zj0 hx,if_neg (by rw [hm]; simp),List.filter_append]
 cases h:fltB l hs ws x.thread <;> simp [h]
theorem zdp (l:List Nd) (hs ws:List Hld):fltK l hs ws (hs.length + ws.length) = fltL l hs ws:=by
 unfold fltK fltL metK
 rw [List.take_of_length_le (by unfold thrL; rw [List.length_map,List.length_append]; exact Nat.le_refl _)]
 rfl
theorem z6n (l:List Nd) (hs ws:List Hld) (k:Nat):(fltK l hs ws k).Nodup:=by
 unfold fltK metK
 exact (zxp (by simp)).filter _
theorem zyk:∀ {L:List Hld} {k:Nat} {x:Hld},L[k]? = some x->∀ i,i < 3->(z2w L)[k * 3 + i]? = (hldV x)[i]?
 | [],k,x,h,i,hi=>by simp at h
 | y :: L,0,x,h,i,hi=>by
  cases h
  have e:z2w (y :: L) = hldV y ++ z2w L:=by simp [z2w]
  rw [e,List.getElem?_append_left (by simp [hldV]; omega),Nat.zero_mul,Nat.zero_add]
 | y :: L,k + 1,x,h,i,hi=>by
  have e:z2w (y :: L) = hldV y ++ z2w L:=by simp [z2w]
  have h3:(hldV y).length = 3:=rfl
  rw [e,List.getElem?_append_right (by omega),h3,show (k + 1) * 3 + i - 3 = k * 3 + i by omega]
  exact zyk (L:=L) (by simpa using h) i hi
theorem own_slice {w:World} {base:Nat} {e:TypeId} {z n:Nat} {v:Value} {xs:List Value} (h:w.ownsRow base e z v n xs):∃ p c,v = .slice p n c:=by
 rcases h.2 with ⟨rfl,rfl⟩ | ⟨g,cap,cur,rfl,_⟩
 ·exact ⟨none,0,rfl⟩
 ·exact ⟨_,_,rfl⟩
theorem own_at {w:World} {base n:Nat} {L:List Hld} {p:Option Addr} {c:Nat} (h:w.ownsRow base 32 3 (.slice p n c) n (z2w L)) (hn:L.length = n) {k:Nat} {x:Hld} (hx:L[k]? = some x) :
  ∃ g off,p = some ⟨g,off,none⟩∧w.cell? ⟨g,off + k * 3,none⟩ = some (.int .i64 x.thread)∧w.cell? ⟨g,off + k * 3 + 1,none⟩ = some (.int .i64 x.slot)∧w.cell? ⟨g,off + k * 3 + 2,none⟩ = some (.bool x.wr):=by
 have hk:=(List.getElem?_eq_some_iff.1 hx).1
 rcases h.2 with ⟨e,rfl⟩ | ⟨g,cap,cur,e,hb,hg,hc,hm,hs,ht⟩
 ·omega
 ·cases e
  have hat:∀ i,i < 3->cur[0 + k * 3 + i]? = (hldV x)[i]?:=fun i hi=>by
   rw [← zyk hx i hi,← ht,List.getElem?_take_of_lt (by omega),Array.getElem?_toList,Nat.zero_add]
  refine ⟨g,0,rfl,?_,?_,?_⟩
  ·rw [z0c hg]; exact hat 0 (by omega)
  ·rw [z0c hg]; exact hat 1 (by omega)
  ·rw [z0c hg]; exact hat 2 (by omega)
theorem zxk {X Y:World} {B:Nat} {e:TypeId} {z n:Nat} {v:Value} {xs:List Value} (h:X.ownsRow B e z v n xs) (hb:∀ k,k < X.heap.size->v.ownBlock = some k->Y.heap[k]? = X.heap[k]?):Y.ownsRow B e z v n xs:=by
 refine ⟨h.1,?_⟩
 rcases h.2 with q | ⟨g,cap,cur,rfl,q1,q2,q3⟩
 ·exact .inl q
 ·exact .inr ⟨g,cap,cur,rfl,q1,(hb g (Array.getElem?_eq_some_iff.1 q2).1 rfl).trans q2,q3⟩
theorem zrr {X:World} {B:Nat} {e:TypeId} {z n:Nat} {v:Value} {xs:List Value} (h:X.ownsRow B e z v n xs) {k:Nat} (hk:∀ cs,X.heap[k]? ≠ some (.cells cs e (0,0))):v.ownBlock ≠ some k:=by
 rcases h.2 with ⟨rfl,_⟩ | ⟨g,cap,cur,rfl,q1,q2,q3⟩
 ·intro e; cases e
 ·intro e; cases e; exact hk _ q2
structure FtI (l:List Nd) (hs ws:List Hld) (W1:World) (rb:Nat) (vR:Value) (k:Nat) (vo:Value) (ms:Array MapEntry) (c:Nat) (W:World):Prop where
 below:Below W1.heap.size W1 W
 map:W.heap[W1.heap.size]? = some (.map ms c)
 met:MtR ms c (metK hs ws k)
 row:W.ownsRow rb 32 3 vR (hs.length + ws.length) (z2w (hs ++ ws))
 out:W.ownsRow W1.heap.size 3 1 vo (fltK l hs ws k).length ((fltK l hs ws k).map (Value.int .i64))
theorem FtI.keep {l:List Nd} {hs ws:List Hld} {W1:World} {rb:Nat} {vR:Value} {k:Nat} {vo:Value} {ms:Array MapEntry} {c:Nat} {W X:World} (h:FtI l hs ws W1 rb vR k vo ms c W) (hB:Below W.heap.size W X):FtI l hs ws W1 rb vR k vo ms c X :=
 ⟨h.below.trans (hB.mono h.below.size),(hB.block _ (Array.getElem?_eq_some_iff.1 h.map).1).trans h.map,h.met,zxk h.row fun q hq _=>hB.block q hq,zxk h.out fun q hq _=>hB.block q hq⟩
theorem hlen_flt (l:List Nd) (hs ws:List Hld):(fltL l hs ws).length≤hs.length + ws.length:=by
 have hnd:(fltL l hs ws).Nodup:=by rw [← zdp]; exact z6n l hs ws _
 have:=z7u hnd (b:=thrL hs ws) fun t ht=>(z8y.1 ht).1
 unfold thrL at this
 rwa [List.length_map,List.length_append] at this
theorem hlen_fltK (l:List Nd) (hs ws:List Hld) (k:Nat):(fltK l hs ws k).length≤hs.length + ws.length:=by
 have:=z7u (z6n l hs ws k) (b:=thrL hs ws) fun t ht=>by
  unfold fltK metK at ht
  have h1:=(List.mem_filter.1 ht).1
  rw [y1h] at h1
  rcases h1 with h1 | h1
  ·cases h1
  ·exact List.mem_of_mem_take h1
 unfold thrL at this
 rwa [List.length_map,List.length_append] at this
theorem owns_base {X:World} {B B':Nat} {e:TypeId} {z n:Nat} {v:Value} {xs:List Value} (h:X.ownsRow B e z v n xs) (hb:B'≤B):X.ownsRow B' e z v n xs:=by
 refine ⟨h.1,?_⟩
 rcases h.2 with q | ⟨g,cap,cur,e,q1,q2⟩
 ·exact .inl q
 ·exact .inr ⟨g,cap,cur,e,Nat.le_trans hb q1,q2⟩
theorem FtI.put {l:List Nd} {hs ws:List Hld} {W1:World} {rb:Nat} {vR:Value} {k:Nat} {vo vo':Value} {ms ms':Array MapEntry} {c c':Nat} {W X:World} (h:FtI l hs ws W1 rb vR k vo ms c W) (hm:MtR ms' c' (metK hs ws (k + 1))) (hB:Below W1.heap.size W1 X)
  (hX:∀ q,q < W.heap.size->vo.ownBlock ≠ some q->X.heap[q]? = W.heap[q]?) (ho:X.ownsRow W1.heap.size 3 1 vo' (fltK l hs ws (k + 1)).length ((fltK l hs ws (k + 1)).map (Value.int .i64))):FtI l hs ws W1 rb vR (k + 1) vo' ms' c' (X.putObj W1.heap.size (.map ms' c')):=by
 have hlt:=(Array.getElem?_eq_some_iff.1 h.map).1
 have hmB:vo.ownBlock ≠ some W1.heap.size:=zrr h.out fun cs e=>by rw [h.map] at e; cases e
 have hmX:X.heap[W1.heap.size]? = some (.map ms c):=(hX _ hlt hmB).trans h.map
 have hltX:=(Array.getElem?_eq_some_iff.1 hmX).1
 refine ⟨⟨hB.os,hB.tape,hB.output,by simpa [World.putObj] using hB.size,fun q hq=>(World.putObj_heap_other (w:=X) (by omega)).trans (hB.block q hq)⟩,World.putObj_heap_same (w:=X) hltX,hm,?_,?_⟩
 ·refine ⟨h.row.1,?_⟩
  rcases h.row.2 with q | ⟨g,cap,cur,e,q1,q2,q3⟩
  ·exact .inl q
  ·refine .inr ⟨g,cap,cur,e,q1,?_,q3⟩
   have hne:g ≠ W1.heap.size:=fun e=>by rw [e,h.map] at q2; cases q2
   have hno:vo.ownBlock ≠ some g:=zrr h.out fun cs e=>by rw [q2] at e; cases e
   exact (World.putObj_heap_other (w:=X) hne).trans ((hX g (Array.getElem?_eq_some_iff.1 q2).1 hno).trans q2)
 ·refine ⟨ho.1,?_⟩
  rcases ho.2 with q | ⟨g,cap,cur,e,q1,q2,q3⟩
  ·exact .inl q
  ·refine .inr ⟨g,cap,cur,e,q1,?_,q3⟩
   have hne:g ≠ W1.heap.size:=fun e=>by rw [e,hmX] at q2; cases q2
   exact (World.putObj_heap_other (w:=X) hne).trans q2
set_option maxHeartbeats 4000000 in
theorem zyo (l:List Nd) (h:Lad l) (hs ws:List Hld) (h1:hs.length≤20) (h2:ws.length≤20) {w:World} (hG:Glob w) {vn vh vw:Value} (hn:VR (wideL w) w (.sl (l.map Nd.a)) vn) (hh:VR (wideL w) w (.sl (hs.map Hld.a)) vh) (hw:VR (wideL w) w (.sl (ws.map Hld.a)) vw) :
  Calls Tryz.prog 6 #[vn,vh,vw] w fun e w'=>∃ v,e = .returned v∧Below w.heap.size w w'∧w'.ownsRow w.heap.size 3 1 v (fltL l hs ws).length ((srtI (fltL l hs ws)).map (Value.int .i64)):=by
 have hmk:∀ W:World,Sem.run Tryz.prog (Instr.makeMap 52 none) W = Result.ok (Value.map (some W.heap.size)) (W.alloc (.map #[] 0)):=fun _=>rfl
 obtain ⟨pH,cH,rfl,-⟩:=RdH.of hh
 obtain ⟨pW,cW,rfl,-⟩:=RdH.of hw
 obtain ⟨n,hN⟩:∃ n,hs.length + ws.length = n:=⟨_,rfl⟩
 go_enter Tryz.func6,Tryz.ntmps6
 go_wp2_with (first
  | (go_at_call 18; refine (of_calls hG l h hn).mono ?_; rintro e w1 ⟨t,rfl,hB1,ht1⟩)
  | (go_at_call 19; refine (zz3 (w1.heap.size + 1) _ _ hs ws _ _ (by have:=(heap_alloc (w1.alloc (.map #[] 0)) (.cells #[.slice pH hs.length cH,.slice pW ws.length cW] 25)).1; rwa [World.size_alloc] at this) ((((RdH.of hh).below hB1).below ((Below.refl _ w1).alloc (Nat.le_refl _) _)).below ((Below.refl _ _).alloc (Nat.le_refl _) _)) ((((RdH.of hw).below hB1).below ((Below.refl _ w1).alloc (Nat.le_refl _) _)).below ((Below.refl _ _).alloc (Nat.le_refl _) _)) (by omega) (by omega)).mono ?_; rintro e w2 ⟨vR,rfl,hB2,hR⟩; obtain ⟨pR,cR,rfl⟩:=own_slice hR; rw [hN] at hR ⊢))
 have hX2:Below w1.heap.size w1 ((w1.alloc (.map #[] 0)).alloc (.cells #[.slice pH hs.length cH,.slice pW ws.length cW] 25)):=((Below.refl _ w1).alloc (Nat.le_refl _) _).alloc (by simp) _
 have hB12:Below w1.heap.size w1 w2:=hX2.trans (hB2.mono hX2.size)
 have hmap2:w2.heap[w1.heap.size]? = some (.map #[] 0):=(hB2.block _ (by simp; omega)).trans ((Below.heap_alloc _ _ _ (by simp)).trans (heap_alloc w1 _).1)
 obtain ⟨rb,hrb⟩:∃ rb,((w1.alloc (.map #[] 0)).alloc (.cells #[.slice pH hs.length cH,.slice pW ws.length cW] 25)).heap.size = rb:=⟨_,rfl⟩
 rw [hrb] at hR
 rw [show z2w hs ++ z2w ws = z2w (hs ++ ws) by simp [z2w]] at hR
 have hF0:FtI l hs ws w1 rb (.slice pR n cR) 0 (.slice none 0 0) #[] 0 w2:=⟨hB12,hmap2,MtR.nil,by rw [hN]; exact hR,World.ownsRow_nil _ _ _ _⟩
 have hG1:Glob w1:=Glob.below hG hB1
 clear hB2 hrb hX2 hmk
 go_loopw [9,20] (fun vo j wr=>∃ (vx:Value) (k:Nat) (ms:Array MapEntry) (c:Nat),vx = vo∧j = .int .i64 k∧k≤n∧FtI l hs ws w1 rb (.slice pR n cR) k vx ms c wr) (fun _ j _=>n - (intOf j).toNat)
 case atStart=>exact ⟨_,0,#[],0,rfl,rfl,Nat.zero_le _,hF0⟩
 case round =>
  obtain ⟨vx,k,ms,c,rfl,rfl,hk,hF⟩:=hrel
  by_cases hlt:k < n
  case neg =>
   have hk':k = n:=by omega
   subst hk'
   have hO:=hF.out
   rw [← hN,zdp] at hO
   have hnd:(fltL l hs ws).Nodup:=by rw [← zdp]; exact z6n l hs ws _
   have hln:(fltL l hs ws).length≤1000000:=by
    have:=hlen_flt l hs ws
    omega
   go_wp2_with (go_at_call 22; refine (sort_calls w1.heap.size _ _ (fltL l hs ws) hnd hln _ hO).mono ?_; rintro e w9 ⟨rfl,hO9,o1,o2,o3,o4,o5⟩)
   go_ret
   have hBr:=hB1.trans (hF.below.mono hB1.size)
   refine ⟨_,rfl,⟨o1.trans hBr.os,o2.trans hBr.tape,o3.trans hBr.output,Nat.le_trans hBr.size o4,fun q hq=>(o5 q (Nat.lt_of_lt_of_le hq hBr.size) fun e=>?_).trans (hBr.block q hq)⟩,owns_base hO9 hB1.size⟩
   rcases hO.2 with ⟨z,_⟩ | ⟨g,cap,cur,z,q1,_⟩
   ·rw [z] at e; cases e
   ·rw [z] at e; cases e; have hq':g < w.heap.size:=hq; have:=hB1.size; omega
  obtain ⟨x,hx⟩:∃ x,(hs ++ ws)[k]? = some x:=⟨_,List.getElem?_eq_getElem (by rw [List.length_append]; omega)⟩
  obtain ⟨g,off,rfl,y0,y1,y2⟩:=own_at (by have:=hF.row; rw [hN] at this; exact this) (by rw [List.length_append]; exact hN) hx
  obtain ⟨W,hW⟩:∃ W,wr.alloc (.cells #[.int .i64 x.thread,.int .i64 x.slot,.bool x.wr] 32) = W:=⟨_,rfl⟩
  have hBW:Below wr.heap.size wr W:=by rw [← hW]; exact (Below.refl _ wr).alloc (Nat.le_refl _) _
  have hsW:W.heap.size = wr.heap.size + 1:=by rw [← hW]; simp
  have e0:W.heap[wr.heap.size]? = some (.cells #[.int .i64 x.thread,.int .i64 x.slot,.bool x.wr] 32 (0,0)):=by rw [← hW]; exact (heap_alloc wr _).1
  have hFW:=hF.keep hBW
  have z0:W.cell? ⟨wr.heap.size,0,none⟩ = some (.int .i64 x.thread):=by rw [z0c e0]; rfl
  have hki:(k:Int) < (n:Int):=by omega
  have hwk:IntKind.i64.wrap ((k:Int) + 1) = (k:Int) + 1:=IntWalk.i64_in _ (by omega)
  have hlk:∀ X:World,X.heap = W.heap->(Instr.lookup 52 (.map (some w1.heap.size)) (.int .i64 x.thread) false).run Tryz.prog X = .ok (.bool ((metK hs ws k).contains x.thread)) X:=fun X hX=>(MtAt.ofR hFW.map (hFW.met (wideL W) W)).2 X (by rw [hX]) _
  have hlq:∀ q,(Instr.lookup 52 (.map (some w1.heap.size)) (.int .i64 x.thread) false).run Tryz.prog (W.drewN q) = .ok (.bool ((metK hs ws k).contains x.thread)) (W.drewN q):=fun q=>hlk _ rfl
  have hld:(Instr.lookup 52 (.map (some w1.heap.size)) (.int .i64 x.thread) false).run Tryz.prog W.drew = .ok (.bool ((metK hs ws k).contains x.thread)) W.drew:=hlk _ rfl
  obtain ⟨ms',c',hm',hup⟩:=hF.met.upd x.thread W
  rw [← zj0 hx] at hm'
  have hd1:Below W.heap.size W W.drew:=(Below.refl _ W).drew
  have hS:∀ X,Below W.heap.size W X->X.cell? ⟨wr.heap.size,0,none⟩ = some (.int .i64 x.thread):=fun X hX=>(hX.cell (p:=⟨wr.heap.size,0,none⟩) (by show wr.heap.size < _; omega)).trans z0
  have hBw1:∀ X,Below W.heap.size W X->Below w1.heap.size w1 X:=fun X hX=>hFW.below.trans (hX.mono hFW.below.size)
  cases hm:(metK hs ws k).contains x.thread
  case true =>
   rw [hm] at hlq hld
   go_wp2
   try rw [hW]
   go_quiet (fail)
   have hUq:∀ q,(Instr.mapUpdate 52 (.map (some w1.heap.size)) (.int .i64 x.thread) (.bool true)).run Tryz.prog (W.drewN q) = .ok () ((W.drewN q).putObj w1.heap.size (.map ms' c')):=fun q=>hup _ _ hFW.map
   have hdr:∀ q,Below W.heap.size W (W.drewN q):=fun q=>⟨rfl,rfl,rfl,Nat.le_refl _,fun _ _=>rfl⟩
   go_wp2_with fail
   go_roundw
   case rel =>
    refine ⟨_,k + 1,ms',c',rfl,by push_cast; rfl,by omega,hFW.put (X:=W.drewN nq) hm' (hBw1 _ (hdr nq)) (fun q _ _=>rfl) ?_⟩
    rw [fltK_met hx hm]
    exact hFW.out
   case measure =>
    simp only [intOf]
    omega
  case false =>
   have cH:∀ X,Below W.heap.size W X->Calls Tryz.prog 21 #[.slice pH hs.length cH,.int .i64 x.thread] X fun e X'=>∃ r,e = .returned r∧Below W.heap.size W X'∧Below X.heap.size X X'∧VR (wideL X') X' (.sl ((z1d hs x.thread).map (AV.int .i64))) r:=fun X hX=>by
    have hB:=hBw1 X hX
    refine (zfz (Glob.below hG1 hB) hs (by omega) x.thread (VR.belowL (VR.belowL hh hB1) hB)).mono ?_
    rintro e X' ⟨r,rfl,hB',hV⟩
    exact ⟨r,rfl,hX.trans (hB'.mono hX.size),hB',hV⟩
   have cW:∀ X,Below W.heap.size W X->Calls Tryz.prog 21 #[.slice pW ws.length cW,.int .i64 x.thread] X fun e X'=>∃ r,e = .returned r∧Below W.heap.size W X'∧Below X.heap.size X X'∧VR (wideL X') X' (.sl ((z1d ws x.thread).map (AV.int .i64))) r:=fun X hX=>by
    have hB:=hBw1 X hX
    refine (zfz (Glob.below hG1 hB) ws (by omega) x.thread (VR.belowL (VR.belowL hw hB1) hB)).mono ?_
    rintro e X' ⟨r,rfl,hB',hV⟩
    exact ⟨r,rfl,hX.trans (hB'.mono hX.size),hB',hV⟩
   have cT:∀ X,Below W.heap.size W X->∀ r s,VR (wideL X) X (.sl ((z1d hs x.thread).map (AV.int .i64))) r->VR (wideL X) X (.sl ((z1d ws x.thread).map (AV.int .i64))) s->Calls Tryz.prog 20 #[t,r,s] X fun e X'=>e = .returned (.bool (fltB l hs ws x.thread))∧Below W.heap.size W X':=fun X hX r s hr hs'=>by
    have hB:=hBw1 X hX
    have l1:=z6i hs x.thread
    have l2:=z6i ws x.thread
    refine (y1y l h _ _ (by omega) (by omega) (Glob.below hG1 hB) (VR.belowL ht1 hB) hr hs').mono ?_
    rintro e X' ⟨rfl,hB'⟩
    exact ⟨rfl,hX.trans (hB'.mono hX.size)⟩
   rw [hm] at hld
   clear hlk hlq
   go_wp2
   try rw [hW]
   refine wp_region_held_drew (S:=fun X=>X.cell? ⟨wr.heap.size,0,none⟩ = some (.int .i64 x.thread)) (by kernel_rfl) (hS _ hd1) (fun hHeld=>?_)
   refine tkH (i:=0) (by simp only [List.getElem?_toArray,List.getElem?_cons_succ,List.getElem?_cons_zero]; with_reducible rfl) (by kernel_rfl) (by exact fun _ _ _ h=>h) (by kernel_rfl) (by intro w hSw; (try dsimp only at hSw); go_simp; with_reducible rfl) (by assumption) ?_
   try simp only [Act.put,List.setIfInBounds_toArray,List.set_cons_zero,List.set_cons_succ]
   refine tkH (i:=1) (by simp only [List.getElem?_toArray,List.getElem?_cons_succ,List.getElem?_cons_zero]; with_reducible rfl) (by kernel_rfl) (by exact fun _ _ _ h=>h) (by kernel_rfl) (by intro w hSw; (try dsimp only at hSw); go_simp; with_reducible rfl) (by assumption) ?_
   try simp only [Act.put,List.setIfInBounds_toArray,List.set_cons_zero,List.set_cons_succ]
   refine tkH (i:=2) (by simp only [List.getElem?_toArray,List.getElem?_cons_succ,List.getElem?_cons_zero]; with_reducible rfl) (by kernel_rfl) (by exact fun _ _ _ h=>h) (by kernel_rfl) (by intro w hSw; (try dsimp only at hSw); go_simp; with_reducible rfl) (by assumption) ?_
   try simp only [Act.put,List.setIfInBounds_toArray,List.set_cons_zero,List.set_cons_succ]
   refine wpAnyH_ready (rs:=[3]) (by kernel_rfl) (by simp) (AllReadyH.cons rfl (fun K hK=>?_) AllReadyH.nil)
   go_simp
   refine hK.out _ _ (hS _ hd1) (fun hHeld1=>?_)
   clear hK K
   try simp only [Act.put,List.setIfInBounds_toArray,List.set_cons_zero,List.set_cons_succ]
   refine tkH (i:=4) (by simp only [List.getElem?_toArray,List.getElem?_cons_succ,List.getElem?_cons_zero]; with_reducible rfl) (by kernel_rfl) (by exact fun _ _ _ h=>h) (by kernel_rfl) (by intro w hSw; (try dsimp only at hSw); go_simp; with_reducible rfl) (by assumption) ?_
   try simp only [Act.put,List.setIfInBounds_toArray,List.set_cons_zero,List.set_cons_succ]
   refine tkH (i:=5) (by simp only [List.getElem?_toArray,List.getElem?_cons_succ,List.getElem?_cons_zero]; with_reducible rfl) (by kernel_rfl) (by exact fun _ _ _ h=>h) (by kernel_rfl) (by intro w hSw; (try dsimp only at hSw); go_simp; with_reducible rfl) (by assumption) ?_
   try simp only [Act.put,List.setIfInBounds_toArray,List.set_cons_zero,List.set_cons_succ]
   refine tkH (i:=6) (by simp only [List.getElem?_toArray,List.getElem?_cons_succ,List.getElem?_cons_zero]; with_reducible rfl) (by kernel_rfl) (by exact fun _ _ _ h=>h) (by kernel_rfl) (by intro w hSw; (try dsimp only at hSw); go_simp; with_reducible rfl) (by assumption) ?_
   try simp only [Act.put,List.setIfInBounds_toArray,List.set_cons_zero,List.set_cons_succ]
   refine tkH (i:=7) (by simp only [List.getElem?_toArray,List.getElem?_cons_succ,List.getElem?_cons_zero]; with_reducible rfl) (by kernel_rfl) (by exact fun _ _ _ h=>h) (by kernel_rfl) (by intro w hSw; (try dsimp only at hSw); go_simp; with_reducible rfl) (by assumption) ?_
   try simp only [Act.put,List.setIfInBounds_toArray,List.set_cons_zero,List.set_cons_succ]
   refine tkH (i:=8) (by simp only [List.getElem?_toArray,List.getElem?_cons_succ,List.getElem?_cons_zero]; with_reducible rfl) (by kernel_rfl) (by exact fun _ _ _ h=>h) (by kernel_rfl) (by intro w hSw; (try dsimp only at hSw); go_simp; with_reducible rfl) (by assumption) ?_
   try simp only [Act.put,List.setIfInBounds_toArray,List.set_cons_zero,List.set_cons_succ]
   refine tkH (i:=9) (by simp only [List.getElem?_toArray,List.getElem?_cons_succ,List.getElem?_cons_zero]; with_reducible rfl) (by kernel_rfl) (by exact fun _ _ _ h=>h) (by kernel_rfl) (by intro w hSw; (try dsimp only at hSw); go_simp; with_reducible rfl) (by assumption) ?_
   try simp only [Act.put,List.setIfInBounds_toArray,List.set_cons_zero,List.set_cons_succ]
   refine tkH (i:=11) (by simp only [List.getElem?_toArray,List.getElem?_cons_succ,List.getElem?_cons_zero]; with_reducible rfl) (by kernel_rfl) (by exact fun _ _ _ h=>h) (by kernel_rfl) (by intro w hSw; (try dsimp only at hSw); go_simp; with_reducible rfl) (by assumption) ?_
   try simp only [Act.put,List.setIfInBounds_toArray,List.set_cons_zero,List.set_cons_succ]
   refine tkH (i:=12) (by simp only [List.getElem?_toArray,List.getElem?_cons_succ,List.getElem?_cons_zero]; with_reducible rfl) (by kernel_rfl) (by exact fun _ _ _ h=>h) (by kernel_rfl) (by intro w hSw; (try dsimp only at hSw); go_simp; with_reducible rfl) (by assumption) ?_
   try simp only [Act.put,List.setIfInBounds_toArray,List.set_cons_zero,List.set_cons_succ]
   refine tkH (i:=13) (by simp only [List.getElem?_toArray,List.getElem?_cons_succ,List.getElem?_cons_zero]; with_reducible rfl) (by kernel_rfl) (by exact fun _ _ _ h=>h) (by kernel_rfl) (by intro w hSw; (try dsimp only at hSw); go_simp; with_reducible rfl) (by assumption) ?_
   try simp only [Act.put,List.setIfInBounds_toArray,List.set_cons_zero,List.set_cons_succ]
   refine wpAnyH_ready (rs:=[10]) (by kernel_rfl) (by simp) (AllReadyH.cons rfl (fun K hK=>?_) AllReadyH.nil)
   go_simp
   go_at_call 21
   refine (cH _ hd1).mono ?_
   rintro e w4 ⟨r4,rfl,hX4,hL4,hV4⟩
   dsimp only
   go_wp2
   refine hK.out _ _ (hS _ hX4) (fun hHeld2=>?_)
   clear hK K
   try simp only [Act.put,List.setIfInBounds_toArray,List.set_cons_zero,List.set_cons_succ]
   refine wpAnyH_ready (rs:=[14]) (by kernel_rfl) (by simp) (AllReadyH.cons rfl (fun K hK=>?_) AllReadyH.nil)
   go_simp
   go_at_call 21
   refine (cW _ hX4).mono ?_
   rintro e w5 ⟨r5,rfl,hX5,hL5,hV5⟩
   dsimp only
   go_wp2
   refine hK.out _ _ (hS _ hX5) (fun hHeld3=>?_)
   clear hK K
   try simp only [Act.put,List.setIfInBounds_toArray,List.set_cons_zero,List.set_cons_succ]
   refine wpAnyH_ready (rs:=[15]) (by kernel_rfl) (by simp) (AllReadyH.cons rfl (fun K hK=>?_) AllReadyH.nil)
   go_simp
   go_at_call 20
   refine (cT _ hX5 _ _ (VR.belowL hV4 hL5) hV5).mono ?_
   rintro e w6 ⟨rfl,hX6⟩
   dsimp only
   go_wp2
   refine hK.out _ _ (hS _ hX6) (fun hHeld4=>?_)
   clear hK K
   try simp only [Act.put,List.setIfInBounds_toArray,List.set_cons_zero,List.set_cons_succ]
   refine tkH (i:=16) (by simp only [List.getElem?_toArray,List.getElem?_cons_succ,List.getElem?_cons_zero]; with_reducible rfl) (by kernel_rfl) (by exact fun _ _ _ h=>h) (by kernel_rfl) (by intro w hSw; (try dsimp only at hSw); go_simp; with_reducible rfl) (by assumption) ?_
   try simp only [Act.put,List.setIfInBounds_toArray,List.set_cons_zero,List.set_cons_succ]
   refine wpAnyH_done (by kernel_rfl) ?_ _
   have hF6:=hFW.keep hX6
   have z6:=hS _ hX6
   cases hb:fltB l hs ws x.thread
   case false =>
    have hU6:=hup w6 _ hF6.map
    go_wp2_with fail
    go_roundw
    case rel =>
     refine ⟨_,k + 1,ms',c',rfl,by push_cast; rfl,by omega,hF6.put (X:=w6) hm' hF6.below (fun _ _ _=>rfl) ?_⟩
     rw [y7q hx hm,hb]
     simpa using hF6.out
    case measure =>
     simp only [intOf]
     omega
   case true =>
    have hs6:wr.heap.size + 1≤w6.heap.size:=by have:=hX6.size; omega
    have hln:=hlen_fltK l hs ws k
    have hA7:Below w6.heap.size w6 (w6.alloc (.cells #[.int .i64 x.thread] 3)):=(Below.refl _ w6).alloc (Nat.le_refl _) _
    have hF7:=hF6.keep hA7
    have hc7:(w6.alloc (.cells #[.int .i64 x.thread] 3)).cell? ⟨w6.heap.size,0,none⟩ = some (.int .i64 x.thread):=by rw [z0c (o:=0) (heap_alloc w6 _).1]; rfl
    have e6:=(hX6.block wr.heap.size (by omega)).trans e0
    have ne1:=zrr hF6.out (k:=wr.heap.size) fun cs e=>by rw [e6] at e; cases e
    have ne2:=zrr hF6.out (k:=w1.heap.size) fun cs e=>by rw [hF6.map] at e; cases e
    have hb16:w1.heap.size < w6.heap.size:=(Array.getElem?_eq_some_iff.1 hF6.map).1
    go_wp2_with (at_builtin; refine zsq rfl _ _ rfl w1.heap.size _ _ _ rfl hF7.out ⟨w6.heap.size,0,none⟩ x.thread rfl hc7 (by omega) (by simp; omega) ?_; intro v8 w8 hO8 hG8 hv8; (have hs8:∀ q,q < w6.heap.size->vx.ownBlock ≠ some q->w8.heap[q]? = w6.heap[q]?:=fun q hq hne=>(hG8.block q (by simp; omega) (fun e=>hne e.symm)).trans (hA7.block q hq)); (have z8:w8.cell? ⟨wr.heap.size,0,none⟩ = some (.int .i64 x.thread):=(World.cell?_of_block (w:=w6) (hs8 _ (by show wr.heap.size < _; omega) ne1)).trans z6); (have hU8:=hup w8 w1.heap.size ((hs8 _ hb16 ne2).trans hF6.map)))
    have hB8:=z8l (hF6.below.trans (hA7.mono hF6.below.size)) hG8 (y17 hF7.out) (by simp; omega)
    go_wp2_with fail
    go_roundw
    case rel =>
     refine ⟨_,k + 1,ms',c',rfl,by push_cast; rfl,by omega,hF6.put (X:=w8) hm' hB8 hs8 ?_⟩
     rw [y7q hx hm,hb]
     simpa using hO8
    case measure =>
     simp only [intOf]
     omega
end Go.Proofs.YtlhblpbfhfhlpaaGreat
end
section
namespace Go.Proofs.YtlhblpbfhfhlpaaGreat
open Go.RowKit Go.MapKept
theorem y18 {Pr:Nat->Nat->Prop} {base:Nat} {w:World} {l:List Int} {v:Value} (h:w.ownsRow base 3 1 v l.length (l.map (Value.int .i64))):y8i Pr base w 1 3 (l.map (AV.int .i64)) v:=by
 refine ⟨by omega,fun d hd=>?_,?_⟩
 ·obtain ⟨x,_,rfl⟩:=List.mem_map.1 hd
  exact ⟨rfl,fun c hc=>by rw [List.mem_singleton.1 hc]; rfl⟩
 ·rcases h.2 with ⟨rfl,h0⟩ | ⟨g,cap,cur,rfl,hb,hg,hc,hm,hs,ht⟩
  ·left
   rw [List.length_eq_zero_iff.1 h0]
   exact ⟨rfl,rfl⟩
  ·right
   refine ⟨g,cap,cur,by rw [List.length_map],hb,hg,hs.symm,by rw [List.length_map]; exact hc,hm,fun i d j c h1 h2=>?_⟩
   rw [List.getElem?_map] at h1
   obtain ⟨x,h3,rfl⟩:=Option.map_eq_some_iff.1 h1
   match j,h2 with
   | 0,h2 =>
    cases h2
    have hi:=(List.getElem?_eq_some_iff.1 h3).1
    refine ⟨.int .i64 x,?_,.int _ _⟩
    have e1:cur[i * 1 + 0]? = (cur.toList.take (l.length * 1))[i * 1 + 0]?:=by
     rw [List.getElem?_take_of_lt (by omega),Array.getElem?_toList]
    rw [e1,ht,List.getElem?_map,Nat.mul_one,Nat.add_zero,h3]
    rfl
   | j + 1,h2=>simp [AV.cells] at h2
theorem faults_ok (l:List Nd) (hs ws:List Hld) (h:Lad l) (h1:hs.length≤20) (h2:ws.length≤20):AFn Tryz.prog 6 [.sl (l.map Nd.a),.sl (hs.map Hld.a),.sl (ws.map Hld.a)] (.own 1 3 ((srtI (fltL l hs ws)).map (AV.int .i64))):=by
 refine ⟨by kernel_rfl,fun w Pr vs hG hPr hlen hvs=>?_⟩
 match vs,hlen with
 | [v0,v1,v2],_ =>
  refine (zyo l h hs ws h1 h2 hG (VR.wideL (hvs 0 _ v0 rfl rfl)) (VR.wideL (hvs 1 _ v1 rfl rfl)) (VR.wideL (hvs 2 _ v2 rfl rfl))).mono ?_
  rintro e w' ⟨v,rfl,hB,hO⟩
  have hnd:(fltL l hs ws).Nodup:=by rw [← zdp]; exact z6n l hs ws _
  rw [← y6y hnd] at hO
  exact ⟨v,rfl,hB,y18 hO⟩
theorem readsL_agg {w:World} {fs:List Ty} {c:Array Value} {ds:List AV} (h:z2m w (.st fs) c.toList ds):VR (fun b _=>b < w.heap.size) w (.agg ds) (.agg c):=by
 have:=VR.agg (Pr:=fun b _=>b < w.heap.size) (w:=w) ds c.toList h.2.1 h.2.2
 simpa using this
theorem zbe {w:World} {T:Ty} {v:Value} {ds:List AV} (h:z2m w T [v] ds):∃ d,ds = [d]∧VR (fun b _=>b < w.heap.size) w d v:=by
 obtain ⟨h1,h2,h3⟩:=h
 match ds,h2 with
 | [d],_=>exact ⟨d,rfl,h3 0 d v rfl rfl⟩
theorem fits_walk (c:Array Value) (v1 v2 v3:Value) (w:World) (f0:∃ ds,z2m w CfgT c.toList ds) (f1:∃ ds,z2m w (.sl NdT) [v1] ds) (f2:∃ ds,z2m w (.sl HldT) [v2] ds) (f3:∃ ds,z2m w (.sl HldT) [v3] ds) :
  Calls Tryz.prog 3 #[.agg c,v1,v2,v3] w fun e w'=>e = .returned (.bool true)∧Below w.heap.size w w':=by
 obtain ⟨d0,r0⟩:=f0
 obtain ⟨d1,r1⟩:=f1
 obtain ⟨d2,r2⟩:=f2
 obtain ⟨d3,r3⟩:=f3
 obtain ⟨n,e0,on⟩:=Cfg.of r0.1
 have v0:=readsL_agg r0
 rw [e0] at v0
 obtain ⟨d,rfl,u1⟩:=zbe r1
 obtain ⟨l,hd,hl,hok⟩:=zrg Nd.a Nd.ok r1.1 (fun c h=>Nd.of h)
 cases hd
 obtain ⟨d,rfl,u2⟩:=zbe r2
 obtain ⟨hs,hd,hl2,hok2⟩:=zrg Hld.a Hld.ok r2.1 (fun c h=>Hld.of h)
 cases hd
 obtain ⟨d,rfl,u3⟩:=zbe r3
 obtain ⟨ws,hd,hl3,hok3⟩:=zrg Hld.a Hld.ok r3.1 (fun c h=>Hld.of h)
 cases hd
 have hA:=fits_law faults_ok n l hs ws hok hl hok2 hok3
 have:=hA.calls w (fun b _=>b < w.heap.size) [.agg c,v1,v2,v3] trivial (fun b o hb=>hb) rfl (fun j d u hj hu=>by
  match j with
  | 0=>cases hj; cases hu; exact v0
  | 1=>cases hj; cases hu; exact u1
  | 2=>cases hj; cases hu; exact u2
  | 3=>cases hj; cases hu; exact u3
  | j + 4=>simp at hj)
 refine this.mono fun e w' ⟨u,he,hb,hr⟩=>?_
 have hr':VR _ w' (.bool true) u:=hr
 cases hr'
 exact ⟨he,hb⟩
end Go.Proofs.YtlhblpbfhfhlpaaGreat
end
section
namespace Go.Proofs.YtlhblpbfhfhlpaaGreat.ladderFits
open Go.ChangeShapes Go.WideShapes Go.ChangeAt Go.RowKit
open Go.ChangeMaps (open_string shut_string)
set_option maxRecDepth 100000 in
theorem lifted (os:Os) (started:os.Started) (H:Type) (enc:TypeId × Value->H) :
  ReturnsInHanded {} Tryz.checked os 3 .any (Rows.ladderFitsSpec.pre6 enc Tryz.prog Tryz.f3 Rows.ladderFitsRow.domain false) (Rows.ladderFitsSpec.post enc Tryz.prog Tryz.f3 false true false false):=by
 refine returnsInHanded_of_change_sized (C:=Tryz.checked) ownK started (by kernel_rfl) Tryz.func3
  (ChangeSpec.witness6 (enc:=enc) (C:=Tryz.checked) false ⟨#[],#[.agg #[.int .i64 0,.int .i64 0,.int .i64 0,.int .i64 0,.int .i64 0],.slice none 0 0,.slice none 0 0,.slice none 0 0],[]⟩ 8 (by kernel_rfl) (by kernel_rfl) (by kernel_rfl) (by kernel_rfl)) ?_
 intro W base args ds gs before hval0 hW hcnd hsz _
 have hval:∀ (j:Nat) t v,Tryz.f3.params[j]? = some t->args[j]? = some v->Value.okWide Tryz.prog W .any base t v:=hval0
 have hW':=hW
 obtain ⟨p,q,hA0,hV,rfl,hfz,hnd⟩:=hW
 have hA:DataW.TrodAll enc Tryz.prog W 0 (fun _=>true) true Tryz.f3.params.toList args.toList ds p:=hA0
 rw [Tryz.params3] at hA hval
 obtain ⟨v0,vs0,d0,ds0,p0,q0,hargs,rfl,rfl,h0,r0⟩:=trodAll_cons hA
 obtain ⟨v1,vs1,d1,ds1,p1,q1,rfl,rfl,rfl,h1,r1⟩:=trodAll_cons r0
 obtain ⟨v2,vs2,d2,ds2,p2,q2,rfl,rfl,rfl,h2,r2⟩:=trodAll_cons r1
 obtain ⟨v3,vs3,d3,ds3,p3,q3,rfl,rfl,rfl,h3,r3⟩:=trodAll_cons r2
 obtain ⟨rfl,rfl,rfl⟩:=trodAll_nil r3
 obtain rfl:args = #[v0,v1,v2,v3]:=by cases args; simp_all
 obtain ⟨rfl,rfl⟩:=trodVars_none hV
 have hw0:(d0.weights Tryz.prog 23).all (·≤reachBytes) = true:=z1m hsz 0 23 d0 rfl rfl
 obtain ⟨c0,rfl,hc0⟩:=okWide_struct Tryz.underlying23 (hval 0 23 v0 rfl rfl)
 obtain ⟨fu0,ht0⟩:=h0
 have f0:∃ ds,z2m W (CfgT) c0.toList ds:=z4o 8 (x:=(d0,p0)) (by kernel_rfl) hw0 ht0
 have hw1:(d1.weights Tryz.prog 24).all (·≤reachBytes) = true:=z1m hsz 1 24 d1 rfl rfl
 obtain ⟨s1,n1,c1,rfl⟩:=okWide_slice Tryz.underlying24 (hval 1 24 v1 rfl rfl)
 obtain ⟨fu1,ht1⟩:=h1
 have f1:∃ ds,z2m W (.sl NdT) [.slice s1 n1 c1] ds:=z4o 8 (x:=(d1,p1)) (by kernel_rfl) hw1 ht1
 have hw2:(d2.weights Tryz.prog 25).all (·≤reachBytes) = true:=z1m hsz 2 25 d2 rfl rfl
 obtain ⟨s2,n2,c2,rfl⟩:=okWide_slice Tryz.underlying25 (hval 2 25 v2 rfl rfl)
 obtain ⟨fu2,ht2⟩:=h2
 have f2:∃ ds,z2m W (.sl HldT) [.slice s2 n2 c2] ds:=z4o 8 (x:=(d2,p2)) (by kernel_rfl) hw2 ht2
 have hw3:(d3.weights Tryz.prog 25).all (·≤reachBytes) = true:=z1m hsz 3 25 d3 rfl rfl
 obtain ⟨s3,n3,c3,rfl⟩:=okWide_slice Tryz.underlying25 (hval 3 25 v3 rfl rfl)
 obtain ⟨fu3,ht3⟩:=h3
 have f3:∃ ds,z2m W (.sl HldT) [.slice s3 n3 c3] ds:=z4o 8 (x:=(d3,p3)) (by kernel_rfl) hw3 ht3
 refine (fits_walk c0 _ _ _ W f0 f1 f2 f3).mono fun e W' ⟨he,hb⟩=>?_
 subst he
 exact ⟨_,rfl,post_law laidOut hW' rfl rfl rfl rfl rfl Tryz.underlying4 (by intro t ht; rw [Tryz.params3] at ht; simp only [List.mem_cons,List.not_mem_nil,or_false] at ht; rcases ht with rfl | rfl | rfl | rfl <;> exact ⟨by kernel_rfl,of_decide_eq_true (by kernel_rfl)⟩) hb⟩
theorem proved:Rows.LadderFitsSaid :=
 OpenClaim.holds_of_wide 3 Tryz.f3 rfl rfl rfl rfl rfl rfl rfl ⟨rfl,rfl,rfl,rfl,rfl⟩ rfl rfl rfl rfl rfl (by kernel_rfl) Tryz.func3 (by kernel_rfl)
  (of_decide_eq_true (by kernel_rfl)) (by unfold Func.isWrapper; first | (rw [if_pos (by decide +kernel)]; kernel_rfl) | (rw [if_neg (by decide +kernel)]; exact ⟨rfl,rfl⟩))
  (fun os started H enc _=>lifted os started H enc)
end Go.Proofs.YtlhblpbfhfhlpaaGreat.ladderFits
end
