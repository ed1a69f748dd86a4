/-
  Part 12 of a proof: PkB, PkA, PkG.
-/
import Derived.IntWalk
import Derived.Lib.Bytealg
import Derived.Shelf.Strings.BuilderK
import Derived.Lib.CutLaws
import Derived.Lib.Split
import Derived.StillTailTactics
import Derived.Test.YtlhblpbfhfhlpaaGreatDoorSB11
set_option linter.unusedVariables false
set_option linter.unusedSimpArgs false
set_option maxRecDepth 100000
section
namespace Go.Proofs.YtlhblpbfhfhlpaaGreatDoor
open Go.RowKit
theorem z59 (c:UInt8):(AV.int .u8 (c.toNat:Int)).byteB = true:=by
 have:=c.toNat_lt
 simp [AV.byteB]; omega
theorem zbe (c:UInt8):(AV.int .u8 (c.toNat:Int)).toB = c:=by
 simp [AV.toB]
def b0 (s:ByteArray):UInt8:=s.data.toList.getD 0 0
theorem AFn.flat1 {P:Program} {f:FuncId} (hok:z1p P f = true) {d r:AV} {v u:Value} (hd:∀ Q w v',VR Q w d v'->v' = v) (hr:∀ Q base w,RR Q base w r u)
  (h:∀ w,Glob w->Calls P f #[v] w fun e w'=>e = .returned u∧Below w.heap.size w w'):AFn P f [d] r:=by
 refine ⟨hok,fun w Pr vs hG hPr hlen hvs=>?_⟩
 obtain ⟨v',rfl⟩:∃ v',vs = [v']:=by
  match vs,hlen with
  | [v'],_=>exact ⟨v',rfl⟩
 rw [hd _ _ _ (hvs 0 _ v' rfl rfl)]
 exact (h w hG).mono fun e w' ⟨he,hb⟩=>⟨u,he,hb,hr _ _ _⟩
theorem int_flat {k:IntKind} {m:Int}:∀ Q w v',VR Q w (.int k m) v'->v' = .int k m:=fun _ _ _ h=>h.int_of
end Go.Proofs.YtlhblpbfhfhlpaaGreatDoor
end
section
namespace Go.Proofs.YtlhblpbfhfhlpaaGreatDoor
open Go.RowKit Go.Shelf
def zb0 (N b:Nat) (bs:List Value) (w:World):Prop:=b < N∧N≤w.heap.size∧∃ p v,(p = .pointer none∨p = .pointer (some ⟨b,0,none⟩))∧w.heap[b]? = some (.cells #[p,v] 94 (0,0))∧w.ownsRow N 5 1 v bs.length bs
def zft (N b:Nat) (w w':World):Prop:=Below b w w'∧∀ g,g < N->g ≠ b->w'.heap[g]? = w.heap[g]?
theorem own_ne {w:World} {N b:Nat} {v:Value} {n:Nat} {xs:List Value} (h:w.ownsRow N 5 1 v n xs) (hb:b < N):v.ownBlock ≠ some b:=by
 rcases h.2 with ⟨rfl,_⟩ | ⟨g,cap,cur,rfl,hg,_⟩
 ·simp [Value.ownBlock]
 ·intro e
  simp only [Value.ownBlock,Option.some.injEq] at e
  omega
theorem zq2 {w:World} {N b:Nat} {v:Value} {n:Nat} {xs:List Value} (h:w.ownsRow N 5 1 v n xs) (hb:b≤N):w.ownsRow b 5 1 v n xs:=by
 refine ⟨h.1,?_⟩
 rcases h.2 with h | ⟨g,cap,cur,h1,h2,h3⟩
 ·exact .inl h
 ·exact .inr ⟨g,cap,cur,h1,by omega,h3⟩
theorem zb0.is {N b:Nat} {bs:List Value} {w:World} (h:zb0 N b bs w):Lib.IsBuilder 94 5 b b bs w:=by
 obtain ⟨h1,h2,p,v,h3,h4,h5⟩:=h
 rcases h3 with rfl | rfl
 ·exact .inl ⟨Nat.le_refl _,v,h4,zq2 h5 (by omega),own_ne h5 h1⟩
 ·exact .inr ⟨Nat.le_refl _,v,h4,zq2 h5 (by omega),own_ne h5 h1⟩
theorem own_set {w:World} {N b o:Nat} {v u:Value} {n:Nat} {xs:List Value} (h:w.ownsRow N 5 1 v n xs) (hb:b < N):(w.setCell ⟨b,o,none⟩ u).ownsRow N 5 1 v n xs :=
 h.kept (row:=some b) ⟨rfl,rfl,rfl,by simp [World.setCell],fun k _ hk=>Below.heap_setCell _ _ _ _ (fun e=>hk (by simp [e]))⟩ (Or.inr (own_ne h hb))
theorem zb0.below {N b:Nat} {bs:List Value} {w w':World} (h:zb0 N b bs w) (hb:Below w.heap.size w w'):zb0 N b bs w':=by
 obtain ⟨h1,h2,p,v,h3,h4,h5⟩:=h
 refine ⟨h1,Nat.le_trans h2 hb.size,p,v,h3,by rw [hb.block b (by omega)]; exact h4,h5.1,?_⟩
 rcases h5.2 with h | ⟨g,cap,cur,e1,e2,e3,e4⟩
 ·exact .inl h
 ·refine .inr ⟨g,cap,cur,e1,e2,?_,e4⟩
  have hg:g < w.heap.size:=by
   rcases Nat.lt_or_ge g w.heap.size with h | h
   ·exact h
   ·rw [Array.getElem?_eq_none h] at e3; cases e3
  rw [hb.block g hg]; exact e3
theorem zft.refl (N b:Nat) (w:World):zft N b w w:=⟨Below.refl _ _,fun _ _ _=>rfl⟩
theorem zft.trans {N b:Nat} {w w1 w2:World} (h:zft N b w w1) (h':zft N b w1 w2):zft N b w w2 :=
 ⟨h.1.trans h'.1,fun g h1 h2=>(h'.2 g h1 h2).trans (h.2 g h1 h2)⟩
theorem zft.below {N b:Nat} {w w1 w2:World} (h:zft N b w w1) (hN:N≤w1.heap.size) (hbN:b < N) (h':Below w1.heap.size w1 w2):zft N b w w2 :=
 ⟨h.1.trans (h'.mono (by omega)),fun g h1 h2=>by rw [h'.block g (by omega)]; exact h.2 g h1 h2⟩
theorem zb0.put {N b:Nat} {bs':List Value} {w:World} {p v v':Value} (h1:b < N) (h2:N≤w.heap.size) (hp:p = .pointer none∨p = .pointer (some ⟨b,0,none⟩)) (hb:w.heap[b]? = some (.cells #[p,v] 94 (0,0))) (ho:w.ownsRow N 5 1 v' bs'.length bs') :
  zb0 N b bs' (w.setCell ⟨b,1,none⟩ v'):=by
 refine ⟨h1,by simpa [World.setCell] using h2,p,v',hp,?_,own_set ho h1⟩
 simp [World.setCell,Array.getElem?_modify,hb]
end Go.Proofs.YtlhblpbfhfhlpaaGreatDoor
end
section
namespace Go.Proofs.YtlhblpbfhfhlpaaGreatDoor
open Go.RowKit
theorem ba_ext {a b:ByteArray} (h:a.data.toList = b.data.toList):a = b:=by
 cases a; cases b; congr 1; exact Array.ext' h
end Go.Proofs.YtlhblpbfhfhlpaaGreatDoor
end
