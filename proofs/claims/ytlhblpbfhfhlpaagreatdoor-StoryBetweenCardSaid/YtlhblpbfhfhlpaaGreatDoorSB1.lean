/-
  Part 1 of a proof: Base, HpA, HpB, HpC, HpD, HpE.
-/
import Derived.Test.YtlhblpbfhfhlpaaGreatDoorRows
import Derived.WalkKit
import Derived.ProofKit
import Derived.OpenShut
import Derived.ShutString
import Derived.JoinedCond
import Derived.WalkSpells
import Derived.WalkLawsBesides
import Derived.Deep.QuietTactic
import Derived.BigQuiet
import Derived.Lib.Hide
import Derived.Lib.MinMax
import Derived.Deep.Slices
import Derived.Deep.Fields
import Derived.ChangeSame
import Derived.MapKept
import Derived.Below
import Derived.Laws.MakeOwn
import Derived.Orders
import Derived.Laws.Append
import Derived.Great.BuildSlice
import Derived.Maps.AppendAt
set_option linter.unusedVariables false
set_option linter.unusedSimpArgs false
section
namespace Go.Proofs.YtlhblpbfhfhlpaaGreatDoor
open Go.ChangeShapes Go.WideShapes Go.ChangeAt Go.RowKit Go.Deep
open Go.ChangeMaps (open_string shut_string)
theorem ownK:ownKnob Tryz.prog.godebug = none:=by kernel_rfl
theorem laidOut:laidOutB Tryz.prog = true:=by kernel_rfl
section
variable {H:Type} {enc:TypeId × Value->H} {P:Program}
theorem zdz {f:Func} {s:ChangeSpec} {apart fresh handsOn again:Bool} {W W':World} {args:Array Value} {v:Value} {ds gs:List (DataW H)} {before pa pv:List MemPlace}
  (hW:DataW.Whole enc P f.params.toList s.vars apart W args.toList ds gs before)
  (hres:∀ (b:Nat) (sp:Nat->Bool) (hd:Bool),DataW.TrodAll enc P W' b sp hd f.resultTypes.toList (v.resultList f.resultTypes.size) (s.fn H (ds ++ gs)).results [])
  (hargs:∀ sp:Nat->Bool,(∀ p ∈ before,sp p.block = true)->DataW.TrodAll enc P W' 0 sp true f.params.toList args.toList (s.fn H (ds ++ gs)).args pa)
  (hvars:∀ sp:Nat->Bool,(∀ p ∈ before,sp p.block = true)->DataW.TrodVars enc P W' sp s.vars (s.fn H (ds ++ gs)).vars pv)
  (hps:before = pa ++ pv) (hb:Below W.heap.size W W')
  (hok:∀ (j:Nat) (t:TypeId) (r:Value),f.resultTypes[j]? = some t->(v.resultList f.resultTypes.size)[j]? = some r->Value.okWide P W' .any 0 t r) :
  s.post enc P f apart fresh handsOn again W args v W':=by
 have hlt:∀ p ∈ before,p.block < W.heap.size:=fun p hp=>hW.lt p hp
 have hold:∀ p ∈ before,(fun b=>decide (b < W.heap.size)) p.block = true:=fun p hp=>by simpa using hlt p hp
 refine ⟨ds,gs,before,[],pa,pv,hW,hres _ _ _,hargs _ hold,hvars _ hold,World.keptBut_mono (fun p hp=>⟨hp,?_⟩) (hb.frame (· ∈ before)),fun _=>?_⟩
 ·rw [hps,List.mem_append] at hp
  exact Or.inr hp
 ·obtain ⟨_,_,_,_,_,hz,hn⟩:=hW
  refine ⟨hok,_,_,([] ++ pa) ++ pv,⟨[] ++ pa,pv,trodAll_append (hargs _ (fun _ _=>rfl)) (hres _ _ _),hvars _ (fun _ _=>rfl),rfl,?_,?_⟩,?_⟩
  ·intro b off hp
   have hin:MemPlace.cell b off ∈ before:=by rw [hps]; simpa using hp
   rw [hb.frozen (hlt _ hin)]
   exact hz b off hin
  ·intro ha
   have:=hn ha
   rw [hps] at this
   simpa using this
  ·intro p hp _
   rw [hps]
   simpa using hp
theorem z5u (hl:laidOutB P = true) {W W':World} {sp:Nat->Bool} (hb:Below W.heap.size W W') :
  ∀ {ts:List TypeId} {vs:List Value} {ds:List (DataW H)} {ps:List MemPlace},(∀ t ∈ ts,P.readableRec t = true∧t < P.types.size) ->
   DataW.TrodAll enc P W 0 (fun _=>true) true ts vs ds ps->(∀ x ∈ ps,x.block < W.heap.size)->(∀ x ∈ ps,sp x.block = true)->DataW.TrodAll enc P W' 0 sp true ts vs ds ps
 | [],[],[],_,_,h,_,_=>h
 | t :: ts,v :: vs,d :: ds,ps,ht,⟨p,q,h1,h2,e⟩,hlt,hsp=>by
  subst e
  refine ⟨p,q,WideElems.Trod_stays hl (ht t (by simp)).1 (ht t (by simp)).2 h1 (fun x hx=>hb.same (hlt x (by simp [hx]))) (fun x hx=>hsp x (by simp [hx])),?_,rfl⟩
  exact z5u hl hb (fun t' h'=>ht t' (by simp [h'])) h2 (fun x hx=>hlt x (by simp [hx])) (fun x hx=>hsp x (by simp [hx]))
 | [],_ :: _,_,_,_,h,_,_=>by simp [DataW.TrodAll] at h
 | [],[],_ :: _,_,_,h,_,_=>by simp [DataW.TrodAll] at h
 | _ :: _,[],_,_,_,h,_,_=>by simp [DataW.TrodAll] at h
 | _ :: _,_ :: _,[],_,_,h,_,_=>by simp [DataW.TrodAll] at h
theorem post_law (hl:laidOutB P = true) {f:Func} {s:ChangeSpec} {W W':World} {args:Array Value} {ds gs:List (DataW H)} {before:List MemPlace}
  (hW:DataW.Whole enc P f.params.toList s.vars false W args.toList ds gs before)
  (hv:s.vars = []) (hres:(s.fn H (ds ++ gs)).results = [.lit (.bool true)]) (hargs:(s.fn H (ds ++ gs)).args = ds) (hvs:(s.fn H (ds ++ gs)).vars = [])
  {t:TypeId} (hr:f.resultTypes = #[t]) (ht:P.underlying t = some .bool)
  (hts:∀ t ∈ f.params.toList,P.readableRec t = true∧t < P.types.size) (hb:Below W.heap.size W W') :
  s.post enc P f false true false false W args (.bool true) W':=by
 obtain ⟨p,q,hA,hV,hpq,hz,hn⟩:=id hW
 have hgq:gs = []∧q = []:=by
  rw [hv] at hV
  cases gs with
  | nil=>exact ⟨rfl,hV⟩
  | cons g gs=>simp [DataW.TrodVars] at hV
 obtain ⟨hg,hq⟩:=hgq
 have hpb:before = p:=by rw [hpq,hq,List.append_nil]
 refine zdz (pa:=p) (pv:=[]) hW ?_ ?_ ?_ (by rw [hpb,List.append_nil]) hb ?_
 ·intro b sp hd
  rw [hres,hr]
  exact trodAll_cons_mk (shut_bool ht true) trodAll_mk0
 ·intro sp hsp
  rw [hargs]
  exact z5u hl hb hts hA (fun x hx=>hW.lt x (by rw [hpb]; exact hx)) (fun x hx=>hsp x (by rw [hpb]; exact hx))
 ·intro sp _
  rw [hv,hvs]
  rfl
 ·exact ok_one hr rfl (okWide_bool_mk ht true)
end
structure Enc (α:Type) where
 size:Nat
 cells:α->List Value
 ok:α->Prop
 pos:0 < size
 len:∀ a,(cells a).length = size
 one:∀ a,∀ u ∈ cells a,u.oneCell' = true
def Enc.flat {α:Type} (E:Enc α) (l:List α):List Value:=l.flatMap E.cells
theorem Enc.flat_get {α:Type} (E:Enc α):∀ (l:List α) (i:Nat) (a:α),l[i]? = some a->∀ j,j < E.size->(E.flat l)[i * E.size + j]? = (E.cells a)[j]?
 | [],i,a,hi,j,hj=>by simp at hi
 | x :: l,0,a,hi,j,hj=>by
  simp at hi; subst hi
  unfold Enc.flat
  rw [List.flatMap_cons,List.getElem?_append_left (by rw [E.len]; omega),Nat.zero_mul,Nat.zero_add]
 | x :: l,i + 1,a,hi,j,hj=>by
  have ih:=Enc.flat_get E l i a (by simpa using hi) j hj
  unfold Enc.flat at *
  rw [List.flatMap_cons,List.getElem?_append_right (by rw [E.len,Nat.succ_mul]; omega),E.len,← ih]
  rw [show (i + 1) * E.size + j - E.size = i * E.size + j by rw [Nat.succ_mul]; omega]
def Sl {α:Type} (E:Enc α) (w:World) (v:Value) (l:List α):Prop :=
 ∃ (A:Option Addr) (cap:Nat),v = .slice A l.length cap∧l.length≤cap∧cap≤maxLen∧l.length≤281474976710656∧(∀ (i:Nat) (a:α),l[i]? = some a->E.ok a) ∧
  (0 < l.length->∃ b off,A = some ⟨b,off,none⟩∧b < w.heap.size∧∀ (j:Nat) (u:Value),(E.flat l)[j]? = some u->w.cell? ⟨b,off + j,none⟩ = some u)
theorem Sl.mono {α:Type} {E:Enc α} {w w':World} {v:Value} {l:List α} (h:Sl E w v l) {B:Nat} (hb:Below B w w') (hB:w.heap.size≤B):Sl E w' v l:=by
 obtain ⟨A,cap,h1,h2,h3,hL,h4,h5⟩:=h
 refine ⟨A,cap,h1,h2,h3,hL,h4,fun h0=>?_⟩
 obtain ⟨b,off,e,hlt,hc⟩:=h5 h0
 exact ⟨b,off,e,Nat.lt_of_lt_of_le hlt hb.size,fun j u hj=>by rw [hb.cell (p:=⟨b,_,none⟩) (Nat.lt_of_lt_of_le hlt hB)]; exact hc j u hj⟩
theorem Sl.nil {α:Type} (E:Enc α) (w:World):Sl E w (.slice none 0 0) ([]:List α) :=
 ⟨none,0,rfl,Nat.le_refl _,Nat.zero_le _,by simp,by simp,fun h=>absurd h (by simp)⟩
theorem Sl.drewN {α:Type} {E:Enc α} {w:World} {v:Value} {l:List α} (h:Sl E w v l) (n:Nat):Sl E (w.drewN n) v l:=h
def Own {α:Type} (E:Enc α) (t:TypeId) (w:World) (base:Nat) (v:Value) (l:List α):Prop:=w.ownsRow base t E.size v l.length (E.flat l)
theorem Own.drewN {α:Type} {E:Enc α} {t:TypeId} {w:World} {base:Nat} {v:Value} {l:List α} (h:Own E t w base v l) (n:Nat):Own E t (w.drewN n) base v l:=h
def lenOf:Value->Nat | .slice _ n _=>n | _=>0
theorem Own.lenOf {α:Type} {E:Enc α} {t:TypeId} {w:World} {base:Nat} {v:Value} {l:List α} (h:Own E t w base v l):lenOf v = l.length:=by
 rcases h.2 with ⟨rfl,hn⟩ | ⟨g,cap,cur,rfl,_⟩
 ·rw [hn]; rfl
 ·rfl
theorem Own.shape {α:Type} {E:Enc α} {t:TypeId} {w:World} {base:Nat} {v:Value} {l:List α} (h:Own E t w base v l):∃ A cap,v = .slice A l.length cap:=by
 rcases h.2 with ⟨rfl,hn⟩ | ⟨g,cap,cur,rfl,_⟩
 ·exact ⟨none,0,by rw [hn]⟩
 ·exact ⟨_,cap,rfl⟩
theorem Own.mono {α:Type} {E:Enc α} {t:TypeId} {w w':World} {base:Nat} {v:Value} {l:List α} (h:Own E t w base v l) (hb:Below w.heap.size w w'):Own E t w' base v l:=by
 refine ⟨h.1,?_⟩
 rcases h.2 with h' | ⟨g,cap,cur,h1,h2,h3,h4⟩
 ·exact .inl h'
 ·refine .inr ⟨g,cap,cur,h1,h2,?_,h4⟩
  rw [hb.block g]
  ·exact h3
  ·rcases Nat.lt_or_ge g w.heap.size with h | h
   ·exact h
   ·rw [Array.getElem?_eq_none h] at h3; cases h3
section
variable {H:Type} {enc:TypeId × Value->H} {P:Program} {w:World} {sp:Nat->Bool} {held:Bool}
theorem zb2 {e:TypeId} {l:List (DataW H)} (h:(DataW.weightsAll P e l).all (·≤reachBytes) = true) {d:DataW H} (hd:d ∈ l):(d.weights P e).all (·≤reachBytes) = true:=by
 induction l with
 | nil=>cases hd
 | cons x l ih =>
  simp only [DataW.weightsAll,List.all_append,Bool.and_eq_true] at h
  rcases List.mem_cons.1 hd with rfl | hd
  ·exact h.1
  ·exact ih h.2 hd
theorem z3b:∀ {ts:List TypeId} {l:List (DataW H)},(DataW.weightsEach P ts l).all (·≤reachBytes) = true->∀ (j:Nat) (t:TypeId) (d:DataW H),ts[j]? = some t->l[j]? = some d->(d.weights P t).all (·≤reachBytes) = true
 | [],_,_,j,t,d,h1,_=>by simp at h1
 | _ :: _,[],_,j,t,d,_,h2=>by simp at h2
 | t :: ts,x :: l,h,j,t',d,h1,h2=>by
  simp only [DataW.weightsEach,List.all_append,Bool.and_eq_true] at h
  cases j with
  | zero=>simp at h1 h2; subst h1; subst h2; exact h.1
  | succ j=>exact z3b h.2 j t' d (by simpa using h1) (by simpa using h2)
theorem str_reach {s:ByteArray} {e:TypeId} (h:((DataW.lit (H:=H) (.string s.data.toList)).weights P e).all (·≤reachBytes) = true):s.size≤281474976710656:=by
 simp only [DataW.weights,List.all_cons,List.all_nil,Bool.and_true,decide_eq_true_eq,Array.length_toList] at h
 exact Nat.le_trans h (by decide)
end
end Go.Proofs.YtlhblpbfhfhlpaaGreatDoor
end
section
namespace Go.Proofs.YtlhblpbfhfhlpaaGreatDoor
open Go.RowKit
namespace Hm
def upd {α:Type} (f:Nat->α) (r:Nat) (x:α):Nat->α:=fun s=>if s = r then x else f s
theorem z03 {α:Type} (f:Nat->α) (r:Nat) (x:α):upd f r x r = x:=if_pos rfl
theorem z04 {α:Type} (f:Nat->α) {r s:Nat} (x:α) (h:s ≠ r):upd f r x s = f s:=if_neg h
inductive UK where
 | cell
 | int (k:IntKind)
 | rng (lo hi:Int)
 | bool
 | str
 deriving DecidableEq
def UK.has:UK->Value->Bool
 | .cell,u=>u.oneCell'
 | .int k,.int k' _=>decide (k = k')
 | .rng lo hi,.int k n=>decide (k = .i64∧lo≤n∧n≤hi)
 | .bool,.bool _=>true
 | .str,.string _=>true
 | _,_=>false
theorem UK.one {k:UK} {u:Value} (h:k.has u = true):u.oneCell' = true:=by
 cases k <;> cases u <;> first | exact h | rfl | (cases h)
inductive V where
 | lit (v:Value)
 | ptr (r o:Nat)
 | sl (r o z len:Nat)
 | mp (r:Nat)
 | fn (f:FuncId) (first caps:List V)
 | ifc (t:TypeId) (v:V)
 | agg (cs:List V)
 | tup (vs:List V)
 | any
 | un (k:UK)
 | yl (r:Nat)
 deriving Inhabited
mutual
def V.val?:V->Option Value
 | .lit v=>some v
 | .fn f a b=>match vals? a,vals? b with
  | some a,some b=>some (.func (.func f) a.toArray b.toArray)
  | _,_=>none
 | .ifc t v=>match v.val? with
  | some u=>some (.iface t u)
  | none=>none
 | .agg cs=>match vals? cs with
  | some us=>some (.agg us.toArray)
  | none=>none
 | .tup cs=>match vals? cs with
  | some us=>some (.tuple us.toArray)
  | none=>none
 | _=>none
def vals?:List V->Option (List Value)
 | []=>some []
 | v :: l=>match v.val?,vals? l with
  | some u,some us=>some (u :: us)
  | _,_=>none
end
def V.cells:V->List V
 | .agg cs=>cs
 | .lit (.agg cs)=>cs.toList.map .lit
 | v=>[v]
def V.known:V->Bool
 | .any=>false
 | _=>true
def V.sure:V->Bool
 | .any=>false
 | .un _=>false
 | _=>true
def V.one:V->Bool
 | .lit v=>v.oneCell'
 | .ptr .. | .sl .. | .mp _ | .fn .. | .ifc .. | .un _ | .yl _=>true
 | _=>false
inductive Ob where
 | cells (ty:TypeId × Nat) (cs:List V)
 | map (es:List (Value × V))
 | loop (ts:List V) (ps:List Nat) (asg bd:Code) (busy:Bool)
 | defd
structure Mx where
 μ:Nat->Nat × Nat
 U:Nat->Prop
 H:Nat->Option Ob
inductive Vr (E:Mx) (w:World):V->Value->Prop
 | lit (v:Value):Vr E w (.lit v) v
 | ptr (r o:Nat) (a:Addr) (hr:E.U r) (h:(E.H r).isSome->a = ⟨(E.μ r).1,(E.μ r).2 + o,none⟩):Vr E w (.ptr r o) (.pointer (some a))
 | sl (r o z len:Nat) (A:Option Addr) (cap:Nat) (hr:E.U r) (hz:0 < z) (hl:len≤cap) (hm:cap≤maxLen)
   (h:(E.H r).isSome->(∃ a,A = some a∧a.block = (E.μ r).1)∧(0 < cap->A = some ⟨(E.μ r).1,(E.μ r).2 + o,none⟩)∧∃ vs ty fr,w.heap[(E.μ r).1]? = some (.cells vs ty fr)∧(E.μ r).2 + o + cap * z = vs.size) :
   Vr E w (.sl r o z len) (.slice A len cap)
 | mp (r g:Nat) (hr:E.U r) (h:(E.H r).isSome->g = (E.μ r).1):Vr E w (.mp r) (.map (some g))
 | fn (f:FuncId) (a b:List V) (va vb:List Value) (ha:a.length = va.length) (hb:b.length = vb.length)
   (h1:∀ (j:Nat) (c:V) (u:Value),a[j]? = some c->va[j]? = some u->Vr E w c u) (h2:∀ (j:Nat) (c:V) (u:Value),b[j]? = some c->vb[j]? = some u->Vr E w c u) :
   Vr E w (.fn f a b) (.func (.func f) va.toArray vb.toArray)
 | ifc (t:TypeId) (v:V) (u:Value) (h:Vr E w v u):Vr E w (.ifc t v) (.iface t u)
 | agg (cs:List V) (us:List Value) (hl:cs.length = us.length) (h:∀ (j:Nat) (c:V) (u:Value),cs[j]? = some c->us[j]? = some u->Vr E w c u):Vr E w (.agg cs) (.agg us.toArray)
 | tup (cs:List V) (us:List Value) (hl:cs.length = us.length) (h:∀ (j:Nat) (c:V) (u:Value),cs[j]? = some c->us[j]? = some u->Vr E w c u):Vr E w (.tup cs) (.tuple us.toArray)
 | any (u:Value):Vr E w .any u
 | un (k:UK) (u:Value) (h:k.has u = true):Vr E w (.un k) u
 | yl (r g:Nat) (hr:E.U r) (h:(E.H r).isSome->g = (E.μ r).1):Vr E w (.yl r) (.func (.yield g) #[] #[])
structure Vrs (E:Mx) (w:World) (cs:List V) (us:List Value):Prop where
 len:cs.length = us.length
 at_:∀ (j:Nat) (c:V) (u:Value),cs[j]? = some c->us[j]? = some u->Vr E w c u
theorem Vrs.nil {E:Mx} {w:World}:Vrs E w [] []:=⟨rfl,fun j c u h=>by simp at h⟩
theorem Vrs.cons {E:Mx} {w:World} {c:V} {u:Value} {cs:List V} {us:List Value} (h:Vr E w c u) (hs:Vrs E w cs us):Vrs E w (c :: cs) (u :: us):=by
 refine ⟨by simp [hs.len],fun j d v hd hv=>?_⟩
 match j with
 | 0=>cases hd; cases hv; exact h
 | j + 1=>exact hs.at_ j d v (by simpa using hd) (by simpa using hv)
theorem Vrs.head {E:Mx} {w:World} {c:V} {u:Value} {cs:List V} {us:List Value} (h:Vrs E w (c :: cs) (u :: us)):Vr E w c u:=h.at_ 0 c u rfl rfl
theorem Vrs.tail {E:Mx} {w:World} {c:V} {u:Value} {cs:List V} {us:List Value} (h:Vrs E w (c :: cs) (u :: us)):Vrs E w cs us :=
 ⟨by have:=h.len; simpa using this,fun j d v hd hv=>h.at_ (j + 1) d v (by simpa using hd) (by simpa using hv)⟩
theorem Vrs.append {E:Mx} {w:World} {a b:List V} {x y:List Value} (h:Vrs E w a x) (k:Vrs E w b y):Vrs E w (a ++ b) (x ++ y):=by
 refine ⟨by simp [h.len,k.len],fun j c u hc hu=>?_⟩
 by_cases hj:j < a.length
 ·rw [List.getElem?_append_left hj] at hc
  rw [List.getElem?_append_left (by rw [← h.len]; exact hj)] at hu
  exact h.at_ j c u hc hu
 ·rw [List.getElem?_append_right (by omega)] at hc
  rw [List.getElem?_append_right (by rw [← h.len]; omega),← h.len] at hu
  exact k.at_ _ c u hc hu
theorem Vrs.lits {E:Mx} {w:World} (us:List Value):Vrs E w (us.map .lit) us:=by
 refine ⟨by simp,fun j c u hc hu=>?_⟩
 rw [List.getElem?_map,hu] at hc
 cases hc
 exact .lit u
theorem Vrs.get {E:Mx} {w:World} {cs:List V} {us:List Value} (h:Vrs E w cs us) {j:Nat} {c:V} (hc:cs[j]? = some c):∃ u,us[j]? = some u∧Vr E w c u:=by
 have hj:=(List.getElem?_eq_some_iff.1 hc).1
 refine ⟨us[j]'(by rw [← h.len]; exact hj),List.getElem?_eq_getElem _,h.at_ j c _ hc (List.getElem?_eq_getElem _)⟩
theorem Vrs.take {E:Mx} {w:World} {cs:List V} {us:List Value} (h:Vrs E w cs us) (n:Nat):Vrs E w (cs.take n) (us.take n):=by
 refine ⟨by simp [h.len],fun j c u hc hu=>?_⟩
 rw [List.getElem?_take] at hc hu
 split at hc
 ·rename_i hj
  rw [if_pos hj] at hu
  exact h.at_ j c u hc hu
 ·cases hc
theorem Vrs.drop {E:Mx} {w:World} {cs:List V} {us:List Value} (h:Vrs E w cs us) (n:Nat):Vrs E w (cs.drop n) (us.drop n):=by
 refine ⟨by simp [h.len],fun j c u hc hu=>?_⟩
 rw [List.getElem?_drop] at hc hu
 exact h.at_ _ c u hc hu
theorem Vr.agg_inv {E:Mx} {w:World} {cs:List V} {u:Value} (h:Vr E w (.agg cs) u):∃ us:List Value,u = .agg us.toArray∧Vrs E w cs us:=by
 cases h with
 | agg _ us hl h=>exact ⟨us,rfl,hl,h⟩
theorem Vr.tup_inv {E:Mx} {w:World} {cs:List V} {u:Value} (h:Vr E w (.tup cs) u):∃ us:List Value,u = .tuple us.toArray∧Vrs E w cs us:=by
 cases h with
 | tup _ us hl h=>exact ⟨us,rfl,hl,h⟩
theorem Vr.lit_inv {E:Mx} {w:World} {v u:Value} (h:Vr E w (.lit v) u):u = v:=by cases h; rfl
theorem Vrs.agg {E:Mx} {w:World} {cs:List V} {us:List Value} (h:Vrs E w cs us):Vr E w (.agg cs) (.agg us.toArray):=.agg cs us h.len h.at_
theorem Vrs.tup {E:Mx} {w:World} {cs:List V} {us:List Value} (h:Vrs E w cs us):Vr E w (.tup cs) (.tuple us.toArray):=.tup cs us h.len h.at_
mutual
theorem Vr.val:∀ {E:Mx} {w:World} {d:V} {u v:Value},Vr E w d u->d.val? = some v->u = v
 | E,w,.lit x,u,v,h,e=>by simp only [V.val?,Option.some.injEq] at e; rw [h.lit_inv,e]
 | E,w,.ptr ..,u,v,h,e=>by simp [V.val?] at e
 | E,w,.sl ..,u,v,h,e=>by simp [V.val?] at e
 | E,w,.mp ..,u,v,h,e=>by simp [V.val?] at e
 | E,w,.any,u,v,h,e=>by simp [V.val?] at e
 | E,w,.un _,u,v,h,e=>by simp [V.val?] at e
 | E,w,.yl _,u,v,h,e=>by simp [V.val?] at e
 | E,w,.fn f a b,u,v,h,e=>by
  cases h with
  | fn _ _ _ va vb ha hb h1 h2 =>
   simp only [V.val?] at e
   split at e
   ·rename_i x y e1 e2
    cases e
    rw [Vrs.val ⟨ha,h1⟩ e1,Vrs.val ⟨hb,h2⟩ e2]
   ·cases e
 | E,w,.ifc t x,u,v,h,e=>by
  cases h with
  | ifc _ _ y h =>
   simp only [V.val?] at e
   split at e
   ·rename_i z e1
    cases e
    rw [Vr.val h e1]
   ·cases e
 | E,w,.agg cs,u,v,h,e=>by
  obtain ⟨us,rfl,hs⟩:=h.agg_inv
  simp only [V.val?] at e
  split at e
  ·rename_i z e1
   cases e
   rw [Vrs.val hs e1]
  ·cases e
 | E,w,.tup cs,u,v,h,e=>by
  obtain ⟨us,rfl,hs⟩:=h.tup_inv
  simp only [V.val?] at e
  split at e
  ·rename_i z e1
   cases e
   rw [Vrs.val hs e1]
  ·cases e
theorem Vrs.val:∀ {E:Mx} {w:World} {ds:List V} {us vs:List Value},Vrs E w ds us->vals? ds = some vs->us = vs
 | E,w,[],us,vs,h,e=>by
  simp only [vals?,Option.some.injEq] at e
  rw [← e]
  exact List.length_eq_zero_iff.1 h.len.symm
 | E,w,d :: ds,us,vs,h,e=>by
  simp only [vals?] at e
  split at e
  ·rename_i x y e1 e2
   cases e
   match us,h with
   | [],h=>exact absurd h.len (by simp)
   | u :: us,h=>rw [Vr.val h.head e1,Vrs.val h.tail e2]
  ·cases e
end
theorem Vr.cells {E:Mx} {w:World} {d:V} {u:Value} (h:Vr E w d u) (hk:d.known = true):Vrs E w d.cells u.cells.toList:=by
 have one:∀ {d:V} {u:Value},Vr E w d u->Vrs E w [d] [u]:=fun h=>.cons h .nil
 cases h with
 | lit _ =>
  cases u with
  | agg cs=>exact Vrs.lits cs.toList
  | _=>exact one (.lit _)
 | ptr r o a hr h=>exact one (.ptr r o a hr h)
 | sl r o z len A cap hr hz hl hm h=>exact one (.sl r o z len A cap hr hz hl hm h)
 | mp r g hr h=>exact one (.mp r g hr h)
 | yl r g hr h=>exact one (.yl r g hr h)
 | fn f a b va vb ha hb h1 h2=>exact one (.fn f a b va vb ha hb h1 h2)
 | ifc t v u h=>exact one (.ifc t v u h)
 | agg cs us hl h=>exact ⟨by simpa [V.cells,Value.cells] using hl,fun j c u hc hu=>h j c u hc (by simpa [Value.cells] using hu)⟩
 | tup cs us hl h=>exact one (.tup cs us hl h)
 | any u=>cases hk
 | un k u h =>
  have h1:=UK.one h
  cases u with
  | agg cs=>cases h1
  | _=>exact one (.un k _ h)
theorem Vr.oneCell {E:Mx} {w:World} {d:V} {u:Value} (h:Vr E w d u) (h1:d.one = true):u.oneCell' = true:=by
 cases h <;> first | rfl | exact h1 | (rename_i h; exact UK.one h) | (cases h1)
def Mx.Un (E:Mx) (g:Nat):Prop:=∀ r ob,E.H r = some ob->(E.μ r).1 ≠ g
def Unf (fr:Nat × Nat) (n:Nat):Prop:=fr = (0,0)∨fr = (n,n + 1)
def ObR (E:Mx) (w:World) (b:Nat):Ob->Obj->Prop
 | .cells t cs,.cells vs ty fr=>Unf fr vs.size∧(b + cs.length≤vs.size∧(cs.length = 1->b = 0)∧ty = t.1∧(t.2 < 2->fr = (0,0))∧(t.2 = 0->b = 0∧vs.size = cs.length))∧∀ j c,cs[j]? = some c->c.one = true∧∃ u,vs[b + j]? = some u∧Vr E w c u
 | .map es,.map ms clk=>Go.MapKept.Stamped ms clk∧es.length = ms.size∧∀ (i:Nat) (e:Value × V) (m:MapEntry),es[i]? = some e->ms[i]? = some m->m.key = e.1∧Vr E w e.2 m.val
 | .loop ts ps asg bd busy,.loop rc=>(rc.params.toList = ps∧rc.assign = asg∧rc.body = bd)∧(rc.state = (if busy then .busy else .ready)∧rc.pending = none)∧Vrs E w ts rc.tmps.toList
 | .defd,.deferred ds=>ds = some []
 | _,_=>False
structure Rel (E:Mx) (w:World):Prop where
 used:∀ r ob,E.H r = some ob->E.U r
 inj:∀ r r' ob ob',E.H r = some ob->E.H r' = some ob'->(E.μ r).1 = (E.μ r').1->r = r'
 obj:∀ r ob,E.H r = some ob->∃ o,w.heap[(E.μ r).1]? = some o∧ObR E w (E.μ r).2 ob o
structure Step (E:Mx) (w:World) (E':Mx) (w':World):Prop where
 os:w'.os = w.os
 tape:w'.tape = w.tape
 output:w'.output = w.output
 size:w.heap.size≤w'.heap.size
 used:∀ r,E.U r->E'.U r
 same:∀ r,E.U r->E'.μ r = E.μ r
 live:∀ r,E.U r->(E'.H r).isSome->(E.H r).isSome
 keep:∀ g,g < w.heap.size->E.Un g->w'.heap[g]? = w.heap[g]?
 un:∀ g,g < w.heap.size->E.Un g->E'.Un g
 shape:∀ r,E.U r->(E'.H r).isSome->∀ vs ty fr,w.heap[(E.μ r).1]? = some (.cells vs ty fr)->∃ vs' ty' fr',w'.heap[(E.μ r).1]? = some (.cells vs' ty' fr')∧vs'.size = vs.size
theorem Step.refl (E:Mx) (w:World):Step E w E w :=
 ⟨rfl,rfl,rfl,Nat.le_refl _,fun _ h=>h,fun _ _=>rfl,fun _ _ h=>h,fun _ _ _=>rfl,fun _ _ h=>h,fun _ _ _ vs ty fr h=>⟨vs,ty,fr,h,rfl⟩⟩
theorem Step.trans {E E' E'':Mx} {w w' w'':World} (h:Step E w E' w') (k:Step E' w' E'' w''):Step E w E'' w'':=by
 refine ⟨k.os.trans h.os,k.tape.trans h.tape,k.output.trans h.output,Nat.le_trans h.size k.size,fun r hr=>k.used r (h.used r hr),fun r hr=>(k.same r (h.used r hr)).trans (h.same r hr),
  fun r hr hl=>h.live r hr (k.live r (h.used r hr) hl),fun g hg hu=>(k.keep g (Nat.lt_of_lt_of_le hg h.size) (h.un g hg hu)).trans (h.keep g hg hu),
  fun g hg hu=>k.un g (Nat.lt_of_lt_of_le hg h.size) (h.un g hg hu),fun r hr hl vs ty fr e=>?_⟩
 obtain ⟨vs',ty',fr',e1,e2⟩:=h.shape r hr (k.live r (h.used r hr) hl) vs ty fr e
 rw [← h.same r hr] at e1
 obtain ⟨vs2,ty2,fr2,f1,f2⟩:=k.shape r (h.used r hr) hl vs' ty' fr' e1
 rw [h.same r hr] at f1
 exact ⟨vs2,ty2,fr2,f1,f2.trans e2⟩
theorem Step.below {E E':Mx} {w w':World} (h:Step E w E' w') (hu:∀ g,g < w.heap.size->E.Un g):Below w.heap.size w w' :=
 ⟨h.os,h.tape,h.output,h.size,fun g hg=>h.keep g hg (hu g hg)⟩
theorem Vr.step {E E':Mx} {w w':World} (k:Step E w E' w') {d:V} {u:Value} (h:Vr E w d u):Vr E' w' d u:=by
 induction h with
 | lit v=>exact .lit v
 | ptr r o a hr h=>exact .ptr r o a (k.used r hr) fun hl=>by rw [k.same r hr]; exact h (k.live r hr hl)
 | sl r o z len A cap hr hz hl hm h =>
  refine .sl r o z len A cap (k.used r hr) hz hl hm fun hl'=>?_
  obtain ⟨h1,h2,vs,ty,fr,h3,h4⟩:=h (k.live r hr hl')
  obtain ⟨vs',ty',fr',e1,e2⟩:=k.shape r hr hl' vs ty fr h3
  rw [k.same r hr]
  exact ⟨h1,h2,vs',ty',fr',e1,by rw [e2]; exact h4⟩
 | mp r g hr h=>exact .mp r g (k.used r hr) fun hl=>by rw [k.same r hr]; exact h (k.live r hr hl)
 | yl r g hr h=>exact .yl r g (k.used r hr) fun hl=>by rw [k.same r hr]; exact h (k.live r hr hl)
 | fn f a b va vb ha hb h1 h2 ih1 ih2=>exact .fn f a b va vb ha hb ih1 ih2
 | ifc t v u h ih=>exact .ifc t v u ih
 | agg cs us hl h ih=>exact .agg cs us hl ih
 | tup cs us hl h ih=>exact .tup cs us hl ih
 | any u=>exact .any u
 | un k u h=>exact .un k u h
theorem Vrs.step {E E':Mx} {w w':World} (k:Step E w E' w') {cs:List V} {us:List Value} (h:Vrs E w cs us):Vrs E' w' cs us :=
 ⟨h.len,fun j c u hc hu=>(h.at_ j c u hc hu).step k⟩
theorem ObR.step {E E':Mx} {w w':World} (k:Step E w E' w') {b:Nat} {ob:Ob} {o:Obj} (h:ObR E w b ob o):ObR E' w' b ob o:=by
 cases ob <;> cases o <;> try exact h.elim
 ·obtain ⟨h0,h1,h2⟩:=h
  exact ⟨h0,h1,fun j c hc=>let ⟨a1,u,a2,a3⟩:=h2 j c hc; ⟨a1,u,a2,a3.step k⟩⟩
 ·obtain ⟨h0,h1,h2⟩:=h
  exact ⟨h0,h1,fun i e m he hm=>let ⟨a1,a2⟩:=h2 i e m he hm; ⟨a1,a2.step k⟩⟩
 ·obtain ⟨h0,h1,h2⟩:=h
  exact ⟨h0,h1,h2.step k⟩
 ·exact h
theorem Rel.grow {E:Mx} {w w':World} (h:Rel E w) (hb:Below w.heap.size w w'):Rel E w'∧Step E w E w':=by
 have k:Step E w E w':=⟨hb.os,hb.tape,hb.output,hb.size,fun _ h=>h,fun _ _=>rfl,fun _ _ h=>h,fun g hg _=>hb.block g hg,fun _ _ h=>h,fun r hr hl vs ty fr e=>by
  obtain ⟨ob,hob⟩:=Option.isSome_iff_exists.1 hl
  exact ⟨vs,ty,fr,by rw [hb.block _ (Array.getElem?_eq_some_iff.1 e).1]; exact e,rfl⟩⟩
 refine ⟨⟨h.used,h.inj,fun r ob hr=>?_⟩,k⟩
 obtain ⟨o,h1,h2⟩:=h.obj r ob hr
 exact ⟨o,by rw [hb.block _ (Array.getElem?_eq_some_iff.1 h1).1]; exact h1,h2.step k⟩
theorem Rel.drew {E:Mx} {w:World} (h:Rel E w):Rel E { w with drawn:=w.drawn + 1 }∧Step E w E { w with drawn:=w.drawn + 1 } :=
 h.grow ⟨rfl,rfl,rfl,Nat.le_refl _,fun _ _=>rfl⟩
def Mx.new (E:Mx) (r:Nat) (g b:Nat) (ob:Ob):Mx:=⟨upd E.μ r (g,b),fun s=>E.U s∨s = r,upd E.H r (some ob)⟩
theorem Rel.new {E:Mx} {w:World} (h:Rel E w) {r:Nat} (hr:¬ E.U r) {ob:Ob} {o:Obj} (ho:ObR E w 0 ob o):Rel (E.new r w.heap.size 0 ob) (w.alloc o)∧Step E w (E.new r w.heap.size 0 ob) (w.alloc o):=by
 have hne:∀ s,E.U s->s ≠ r:=fun s hs e=>hr (e ▸ hs)
 have hlt:∀ s ob,E.H s = some ob->(E.μ s).1 < w.heap.size:=fun s ob hs=>let ⟨o,h1,_⟩:=h.obj s ob hs; (Array.getElem?_eq_some_iff.1 h1).1
 have hblk:∀ g,g < w.heap.size->(w.alloc o).heap[g]? = w.heap[g]?:=fun g hg=>Below.heap_alloc w o g hg
 have k:Step E w (E.new r w.heap.size 0 ob) (w.alloc o):=by
  refine ⟨rfl,rfl,rfl,by simp,fun s hs=>.inl hs,fun s hs=>z04 _ _ (hne s hs),fun s hs hl=>?_,fun g hg _=>hblk g hg,fun g hg hu s ob' hs=>?_,fun s hs hl vs ty fr e=>?_⟩
  ·have hl':(upd E.H r (some ob) s).isSome:=hl
   rwa [z04 _ _ (hne s hs)] at hl'
  ·have hs':upd E.H r (some ob) s = some ob':=hs
   show (upd E.μ r (w.heap.size,0) s).1 ≠ g
   by_cases e:s = r
   ·subst e; rw [z03]; show w.heap.size ≠ g; omega
   ·rw [z04 _ _ e] at hs' ⊢; exact hu s ob' hs'
  ·exact ⟨vs,ty,fr,by rw [hblk _ (Array.getElem?_eq_some_iff.1 e).1]; exact e,rfl⟩
 refine ⟨⟨fun s ob' hs=>?_,fun s s' a a' hs hs' e=>?_,fun s ob' hs=>?_⟩,k⟩
 ·have hs':upd E.H r (some ob) s = some ob':=hs
  by_cases e:s = r
  ·exact .inr e
  ·rw [z04 _ _ e] at hs'; exact .inl (h.used s ob' hs')
 ·have hs1:upd E.H r (some ob) s = some a:=hs
  have hs2:upd E.H r (some ob) s' = some a':=hs'
  have e1:(upd E.μ r (w.heap.size,0) s).1 = (upd E.μ r (w.heap.size,0) s').1:=e
  by_cases q:s = r <;> by_cases q':s' = r
  ·rw [q,q']
  ·subst q; rw [z03,z04 _ _ q'] at e1; rw [z04 _ _ q'] at hs2; have:=hlt s' a' hs2; omega
  ·subst q'; rw [z03,z04 _ _ q] at e1; rw [z04 _ _ q] at hs1; have:=hlt s a hs1; omega
  ·rw [z04 _ _ q,z04 _ _ q'] at e1; rw [z04 _ _ q] at hs1; rw [z04 _ _ q'] at hs2; exact h.inj s s' a a' hs1 hs2 e1
 ·have hs':upd E.H r (some ob) s = some ob':=hs
  show ∃ o',(w.alloc o).heap[(upd E.μ r (w.heap.size,0) s).1]? = some o'∧ObR _ _ (upd E.μ r (w.heap.size,0) s).2 ob' o'
  by_cases e:s = r
  ·subst e
   rw [z03] at hs' ⊢
   cases hs'
   exact ⟨o,(Go.MapKept.heap_alloc w o).1,ho.step k⟩
  ·rw [z04 _ _ e] at hs' ⊢
   obtain ⟨o',h1,h2⟩:=h.obj s ob' hs'
   exact ⟨o',by rw [hblk _ (Array.getElem?_eq_some_iff.1 h1).1]; exact h1,h2.step k⟩
def Mx.kill (E:Mx) (r:Nat):Mx:={ E with H:=upd E.H r none }
theorem Rel.kill {E:Mx} {w:World} (h:Rel E w) (r:Nat):Rel (E.kill r) w∧Step E w (E.kill r) w:=by
 have hs:∀ s ob,(E.kill r).H s = some ob->E.H s = some ob:=fun s ob hs=>by
  have hs':upd E.H r none s = some ob:=hs
  by_cases e:s = r
  ·subst e; rw [z03] at hs'; cases hs'
  ·rwa [z04 _ _ e] at hs'
 have k:Step E w (E.kill r) w:=by
  refine ⟨rfl,rfl,rfl,Nat.le_refl _,fun _ h=>h,fun _ _=>rfl,fun s _ hl=>?_,fun _ _ _=>rfl,fun g _ hu s ob' hs'=>hu s ob' (hs s ob' hs'),fun _ _ _ vs ty fr h=>⟨vs,ty,fr,h,rfl⟩⟩
  obtain ⟨ob,hob⟩:=Option.isSome_iff_exists.1 hl
  rw [hs s ob hob]; rfl
 exact ⟨⟨fun s ob q=>h.used s ob (hs s ob q),fun s s' a a' q q' e=>h.inj s s' a a' (hs s a q) (hs s' a' q') e,fun s ob q=>let ⟨o,h1,h2⟩:=h.obj s ob (hs s ob q); ⟨o,h1,h2.step k⟩⟩,k⟩
structure Only (g:Nat) (w w':World):Prop where
 os:w'.os = w.os
 tape:w'.tape = w.tape
 output:w'.output = w.output
 size:w'.heap.size = w.heap.size
 block:∀ k,k ≠ g->w'.heap[k]? = w.heap[k]?
theorem Rel.write {E:Mx} {w w':World} (h:Rel E w) {r:Nat} {ob ob':Ob} {o o':Obj} (hr:E.H r = some ob) (ho:w.heap[(E.μ r).1]? = some o) (hw:Only (E.μ r).1 w w') (ho':w'.heap[(E.μ r).1]? = some o')
  (hsz:∀ vs ty fr,o = .cells vs ty fr->∃ vs' ty' fr',o' = .cells vs' ty' fr'∧vs'.size = vs.size) (hob:ObR E w (E.μ r).2 ob' o') :
  Rel { E with H:=upd E.H r (some ob') } w'∧Step E w { E with H:=upd E.H r (some ob') } w':=by
 have hs:∀ s,((upd E.H r (some ob')) s).isSome->(E.H s).isSome:=fun s hl=>by
  by_cases e:s = r
  ·subst e; rw [hr]; rfl
  ·rwa [z04 _ _ e] at hl
 have k:Step E w { E with H:=upd E.H r (some ob') } w':=by
  refine ⟨hw.os,hw.tape,hw.output,Nat.le_of_eq hw.size.symm,fun _ h=>h,fun _ _=>rfl,fun s _ hl=>hs s hl,fun g hg hu=>hw.block g fun e=>hu r ob hr e.symm,fun g hg hu s ob'' hs'=>?_,fun s hs' hl vs ty fr e=>?_⟩
  ·obtain ⟨ob3,h3⟩:=Option.isSome_iff_exists.1 (hs s (by rw [show upd E.H r (some ob') s = some ob'' from hs']; rfl))
   exact hu s ob3 h3
  ·by_cases q:(E.μ s).1 = (E.μ r).1
   ·rw [q] at e ⊢
    rw [ho] at e
    cases e
    obtain ⟨vs',ty',fr',e1,e2⟩:=hsz vs ty fr rfl
    exact ⟨vs',ty',fr',by rw [ho',e1],e2⟩
   ·exact ⟨vs,ty,fr,by rw [hw.block _ q]; exact e,rfl⟩
 refine ⟨⟨fun s ob'' hs'=>?_,fun s s' a a' q q' e=>?_,fun s ob'' hs'=>?_⟩,k⟩
 ·obtain ⟨ob3,h3⟩:=Option.isSome_iff_exists.1 (hs s (by rw [show upd E.H r (some ob') s = some ob'' from hs']; rfl))
  exact h.used s ob3 h3
 ·obtain ⟨x,hx⟩:=Option.isSome_iff_exists.1 (hs s (by rw [show upd E.H r (some ob') s = some a from q]; rfl))
  obtain ⟨x',hx'⟩:=Option.isSome_iff_exists.1 (hs s' (by rw [show upd E.H r (some ob') s' = some a' from q']; rfl))
  exact h.inj s s' x x' hx hx' e
 ·have hs2:upd E.H r (some ob') s = some ob'':=hs'
  by_cases e:s = r
  ·subst e
   rw [z03] at hs2
   cases hs2
   exact ⟨o',ho',hob.step k⟩
  ·rw [z04 _ _ e] at hs2
   obtain ⟨o3,h1,h2⟩:=h.obj s ob'' hs2
   refine ⟨o3,?_,h2.step k⟩
   rw [hw.block _ fun q=>e (h.inj s r ob'' ob hs2 hr q)]; exact h1
theorem Rel.take {E:Mx} {w:World} (h:Rel E w) {r s:Nat} {ob ob':Ob} {o:Obj} (hr:E.H r = some ob) (hs:¬ E.U s) {b:Nat} (ho:w.heap[(E.μ r).1]? = some o) (hob:ObR E w b ob' o) :
  Rel ((E.kill r).new s (E.μ r).1 b ob') w∧Step E w ((E.kill r).new s (E.μ r).1 b ob') w:=by
 have hsr:s ≠ r:=fun e=>hs (e ▸ h.used r ob hr)
 have hne:∀ q,E.U q->q ≠ s:=fun q hq e=>hs (e ▸ hq)
 have hH:∀ q x,upd (upd E.H r none) s (some ob') q = some x->(q = s∧x = ob')∨(q ≠ s∧q ≠ r∧E.H q = some x):=fun q x hq=>by
  by_cases e:q = s
  ·subst e; rw [z03] at hq; cases hq; exact .inl ⟨rfl,rfl⟩
  ·rw [z04 _ _ e] at hq
   by_cases e2:q = r
   ·subst e2; rw [z03] at hq; cases hq
   ·rw [z04 _ _ e2] at hq; exact .inr ⟨e,e2,hq⟩
 have k:Step E w ((E.kill r).new s (E.μ r).1 b ob') w:=by
  refine ⟨rfl,rfl,rfl,Nat.le_refl _,fun q hq=>.inl hq,fun q hq=>z04 _ _ (hne q hq),fun q hq hl=>?_,fun _ _ _=>rfl,fun g hg hu q x hq=>?_,fun _ _ _ vs ty fr e=>⟨vs,ty,fr,e,rfl⟩⟩
  ·obtain ⟨x,hx⟩:=Option.isSome_iff_exists.1 hl
   rcases hH q x hx with ⟨e,_⟩ | ⟨_,_,e⟩
   ·exact absurd e (hne q hq)
   ·rw [e]; rfl
  ·show (upd E.μ s ((E.μ r).1,b) q).1 ≠ g
   rcases hH q x hq with ⟨e,_⟩ | ⟨e,_,e2⟩
   ·rw [e,z03]; exact hu r ob hr
   ·rw [z04 _ _ e]; exact hu q x e2
 refine ⟨⟨fun q x hq=>?_,fun q q' x x' hq hq' e=>?_,fun q x hq=>?_⟩,k⟩
 ·rcases hH q x hq with ⟨e,_⟩ | ⟨_,_,e⟩
  ·exact .inr e
  ·exact .inl (h.used q x e)
 ·have e':(upd E.μ s ((E.μ r).1,b) q).1 = (upd E.μ s ((E.μ r).1,b) q').1:=e
  rcases hH q x hq with ⟨e1,_⟩ | ⟨e1,e2,e3⟩ <;> rcases hH q' x' hq' with ⟨f1,_⟩ | ⟨f1,f2,f3⟩
  ·rw [e1,f1]
  ·rw [e1,z03,z04 _ _ f1] at e'; exact absurd (h.inj r q' ob x' hr f3 e').symm f2
  ·rw [f1,z03,z04 _ _ e1] at e'; exact absurd (h.inj q r x ob e3 hr e') e2
  ·rw [z04 _ _ e1,z04 _ _ f1] at e'; exact h.inj q q' x x' e3 f3 e'
 ·show ∃ o',w.heap[(upd E.μ s ((E.μ r).1,b) q).1]? = some o'∧ObR _ _ (upd E.μ s ((E.μ r).1,b) q).2 x o'
  rcases hH q x hq with ⟨e,e'⟩ | ⟨e,_,e2⟩
  ·rw [e,z03,e']; exact ⟨o,ho,hob.step k⟩
  ·rw [z04 _ _ e]
   obtain ⟨o3,h1,h2⟩:=h.obj q x e2
   exact ⟨o3,h1,h2.step k⟩
end Hm
end Go.Proofs.YtlhblpbfhfhlpaaGreatDoor
end
section
namespace Go.Proofs.YtlhblpbfhfhlpaaGreatDoor
open Go.RowKit
namespace Hm
def flat (P:Program):Sem Next->Option Value
 | .pure (.value v)=>some v
 | .program k=>flat P (k P)
 | .mark _ k=>flat P k
 | _=>none
theorem zei {P:Program} {w:World}:∀ {s:Sem Next} {v:Value},flat P s = some v->s.run P w = .ok (.value v) w
 | .pure x,v,h=>by
  cases x <;> simp only [flat] at h <;> cases h
  rfl
 | .program k,v,h=>by
  simp only [flat] at h
  show (k P).run P w = _
  exact zei h
 | .mark m k,v,h=>by
  simp only [flat] at h
  show k.run P w = _
  exact zei h
 | .load ..,v,h=>by simp [flat] at h
 | .store ..,v,h=>by simp [flat] at h
 | .new ..,v,h=>by simp [flat] at h
 | .shape ..,v,h=>by simp [flat] at h
 | .freeze ..,v,h=>by simp [flat] at h
 | .frozen ..,v,h=>by simp [flat] at h
 | .getObj ..,v,h=>by simp [flat] at h
 | .setObj ..,v,h=>by simp [flat] at h
 | .choose ..,v,h=>by simp [flat] at h
 | .sys ..,v,h=>by simp [flat] at h
 | .halt ..,v,h=>by simp [flat] at h
def opV (T:Nat->V):Operand->V
 | .tmp t=>T t
 | .const v=>.lit v
 | .global g=>.lit (.pointer (some ⟨g,0,none⟩))
 | .func f=>.lit (.func (.func f) #[] #[])
inductive Eff where
 | val (v:V) (ups:List (Nat × Option Ob)) (nx:Nat)
 | call (f:FuncId) (args:List V)
 | dfr (f:FuncId) (args:List V)
 | yld (r:Nat) (args:List V)
def notSel:Op->Bool
 | .select ..=>false
 | _=>true
def flatV (P:Program) (T:Nat->V) (o:Oper):Option V :=
 if notSel o.op && o.op.operands.toList.all fun x=>((opV T x).val?).isSome then (flat P (execOp (fun x=>((opV T x).val?).getD undef) o)).map .lit else none
def zi7:V->Option IntKind
 | .un (.int k)=>some k
 | .un (.rng _ _)=>some .i64
 | .lit (.int k _)=>some k
 | _=>none
def rngV:V->Option (Int × Int)
 | .un (.rng lo hi)=>some (lo,hi)
 | .lit (.int .i64 n)=>some (n,n)
 | _=>none
def lssR (a b:Int × Int):V:=if a.2 < b.1 then .lit (.bool true) else if b.2≤a.1 then .lit (.bool false) else .un .bool
def leqR (a b:Int × Int):V:=if a.2≤b.1 then .lit (.bool true) else if b.2 < a.1 then .lit (.bool false) else .un .bool
def cmpR (op:BinOp) (x y:V):V:=match rngV x,rngV y with
 | some a,some b=>match op with
  | .lss=>lssR a b
  | .leq=>leqR a b
  | .gtr=>lssR b a
  | .geq=>leqR b a
  | _=>.un .bool
 | _,_=>.un .bool
def minR (k:IntKind) (x y:V):V:=match rngV x,rngV y with
 | some a,some b=>.un (.rng (min a.1 b.1) (min a.2 b.2))
 | _,_=>.un (.int k)
def maxR (k:IntKind) (x y:V):V:=match rngV x,rngV y with
 | some a,some b=>.un (.rng (max a.1 b.1) (max a.2 b.2))
 | _,_=>.un (.int k)
def cmpOp:BinOp->Bool
 | .eql | .neq | .lss | .leq | .gtr | .geq=>true
 | _=>false
def unV (P:Program) (T:Nat->V) (o:Oper):Option V:=match o.op with
 | .binOp op t x y _=>match zi7 (opV T x),zi7 (opV T y) with
  | some k,some k'=>if k = k'∧cmpOp op = true then some (cmpR op (opV T x) (opV T y)) else none
  | _,_=>none
 | .call c=>match c.callee,c.args.toList,c.argTypes.toList with
  | .builtin .len,[x],[t]=>match opV T x,P.underlying t with
   | .un .str,some .string=>some (.un (.int .i64))
   | _,_=>none
  | .builtin .min,[x,y],_=>match zi7 (opV T x),zi7 (opV T y) with
   | some k,some _=>some (minR k (opV T x) (opV T y))
   | _,_=>none
  | .builtin .max,[x,y],_=>match zi7 (opV T x),zi7 (opV T y) with
   | some k,some _=>some (maxR k (opV T x) (opV T y))
   | _,_=>none
  | _,_,_=>none
 | _=>none
def zai (P:Program) (T:Nat->V) (nx:Nat) (o:Oper):Option Eff:=match flatV P T o with
 | some v=>some (.val v [] nx)
 | none=>(unV P T o).map fun v=>.val v [] nx
def aggT (P:Program) (t:TypeId):Option Bool:=(P.underlying t).map fun
 | .struct _ | .array ..=>true
 | _=>false
def z2a (P:Program) (t:TypeId):Option Nat:=(P.info? t).map (·.size)
def intV:V->Option Int
 | .lit (.int _ n)=>some n
 | _=>none
def getC (agg:Bool) (z o:Nat) (cs:List V):Option V :=
 if agg then if o + z≤cs.length then some (.agg ((cs.drop o).take z)) else none else cs[o]?
def setC (o:Nat) (new cs:List V):List V:=cs.take o ++ new ++ cs.drop (o + new.length)
def oks (cs:List V):Bool:=cs.all V.one
theorem zhs {d:V} (h:oks d.cells = true):d.known = true:=by
 cases d <;> first | rfl | (simp [oks,V.cells,V.one] at h)
def zik (place:Nat->Option (Nat × Nat)):List V->List (Nat × V)->Option (List V)
 | cells,[]=>some cells
 | cells,(i,v) :: rest=>match place i with
  | some (off,size)=>if v.known && v.cells.length == size && decide (off + size≤cells.length) then zik place (setC off v.cells cells) rest else none
  | none=>none
def zeroC (P:Program) (t:TypeId):Option (List V):=((P.info? t).bind (·.zero)).map fun z=>z.cells.toList.map .lit
def zfz (P:Program) (t:TypeId):Option (Array Value):=((P.info? t).bind (·.zero)).map (·.cells)
def madeC (z:Array Value) (n:Nat):List V:=(madeCells z n).toList.map .lit
def buildC (P:Program) (T:Nat->V) (t:TypeId) (parts:Array (Nat × Operand)):Option V :=
 match zeroC P t,P.underlying t with
 | some zs,some (.struct fs)=>match fs.toList.mapM fun f=>(z2a P f.type).map fun n=>(f.offset,n) with
  | some pl=>(zik (pl[·]?) zs (parts.toList.map fun p=>(p.1,opV T p.2))).map .agg
  | none=>none
 | some zs,some (.array _ e)=>match z2a P e with
  | some z=>(zik (fun i=>some (i * z,z)) zs (parts.toList.map fun p=>(p.1,opV T p.2))).map .agg
  | none=>none
 | _,_=>none
def methOf (P:Program) (t:TypeId) (name:String):Option (FuncId × Option TypeId) :=
 match P.info? t with
 | some i=>match i.methods.find? (·.name == name) with
  | some m=>if m.path.isEmpty then match m.func,P.underlying t with
    | some (f,true),some (.pointer _)=>some (f,none)
    | some (f,false),some (.pointer e)=>some (f,some e)
    | some (f,false),some _=>some (f,none)
    | _,_=>none
   else none
  | none=>none
 | none=>none
def recvE (P:Program) (G:Nat->Option Ob) (v:V):Option TypeId->Option V
 | none=>some v
 | some e=>match v,aggT P e,z2a P e with
  | .ptr r o,some agg,some z=>match G r with
   | some (.cells _ cs)=>getC agg z o cs
   | _=>none
  | _,_,_=>none
def yldId:FuncId:=1000000000
def mkId:FuncId:=1000000001
def z1p (P:Program) (f:FuncId):Bool:=match P.funcs[f]? with
 | some fn=>Nat.blt f 1000000000 && (fn.name != "runtime.NumGoroutine" && fn.body.isSome)
 | none=>false
def z84 (kind:TypeDesc) (k:Value):List (Value × V)->Nat->Option (Option (Nat × V))
 | [],_=>some none
 | e :: es,i=>match Instr.sameNow kind k e.1 with
  | some true=>some (some (i,e.2))
  | some false=>z84 kind k es (i + 1)
  | none=>none
def za8:TypeDesc->Value->Bool
 | .int k,.int k' _=>k' == k
 | .string,.string _=>true
 | _,_=>false
def z4r (P:Program) (t:TypeId):Option TypeDesc:=match P.underlying t with
 | some (.int k)=>some (.int k)
 | some .string=>some .string
 | _=>none
def eqA (P:Program) (G:Nat->Option Ob) (d:Option TypeDesc) (x y:V):Option Bool :=
 match d,x,y with
 | some (.pointer _),.ptr ..,.lit (.pointer none) | some (.pointer _),.lit (.pointer none),.ptr ..=>some false
 | some (.slice _),.sl r ..,.lit (.slice none _ _) | some (.slice _),.lit (.slice none _ _),.sl r ..=>match G r with
  | some _=>some false
  | none=>none
 | some (.map ..),.mp _,.lit (.map none) | some (.map ..),.lit (.map none),.mp _=>some false
 | some (.func ..),.fn ..,.lit .nilFunc | some (.func ..),.lit .nilFunc,.fn ..=>some false
 | some (.interface _),.ifc ..,.lit .nilIface | some (.interface _),.lit .nilIface,.ifc ..=>some false
 | some (.pointer e),.ptr r o,.ptr r' o'=>match G r,G r',z2a P e with
  | some (.cells t1 cs),some (.cells t2 cs'),some (_ + 1)=>if (o < cs.length∧o' < cs'.length)∧(t1.2 < 2∨t2.2 < 2) then some (decide (r = r') && decide (o = o')) else none
  | _,_,_=>none
 | _,_,_=>none
def zc8 (G:Nat->Option Ob) (z:Nat):V->Option (List V)
 | .lit (.slice none 0 0)=>some []
 | .lit (.string s)=>if z = 1 then some (s.data.toList.map fun b=>.lit (.int .u8 b.toNat)) else none
 | .sl r o z' len=>if z' = z then match G r with
   | some (.cells _ cs)=>if o + len * z≤cs.length then some ((cs.drop o).take (len * z)) else none
   | _=>none
  else none
 | _=>none
def appE (G:Nat->Option Ob) (nx:Nat) (e:TypeId) (z bytes:Nat) (x y:V):Option Eff :=
 if z = 0 then none else
 match zc8 G z y with
 | none=>none
 | some news =>
  let n:=news.length / z
  match x with
  | .lit (.slice none 0 0)=>if n = 0 then some (.val x [] nx) else if bytes * n≤1000000000 && decide (n≤1000000000) then some (.val (.sl nx 0 z n) [(nx,some (.cells (e,1) news))] (nx + 1)) else none
  | .sl r o z' len=>if z' = z then match G r with
    | some (.cells ty cs)=>if n = 0 then some (.val x [] nx) else
     if o + len * z≤cs.length then
      if o + (len + n) * z≤cs.length then some (.val (.sl r o z (len + n)) [(r,some (.cells ty (setC (o + len * z) news cs)))] nx)
      else if bytes * (len + n)≤1000000000 && decide (len + n≤1000000000∧(len + n) * z ≠ 1∧ty.1 = e) then some (.val (.sl nx 0 z (len + n)) [(r,none),(nx,some (.cells (e,max 1 ty.2) ((cs.drop o).take (len * z) ++ news)))] (nx + 1)) else none
     else none
    | _=>none
   else none
  | _=>none
def appZ (P:Program) (nx:Nat) (e:TypeId) (i:TypeInfo) (t':TypeId) (x y:V):Option Eff :=
 match P.underlying t',x,y,zfz P e with
 | some (.int _),.lit (.slice none 0 0),.lit (.int _ n),some zs =>
  if (0 < n∧n≤1000000)∧(0 < i.size∧i.bytes≤1000000)∧zs.size = i.size∧oks ((Builtin.zeroCells zs n.toNat).toList.map .lit) = true then some (.val (.sl nx 0 i.size n.toNat) [(nx,some (.cells (e,1) ((Builtin.zeroCells zs n.toNat).toList.map .lit)))] (nx + 1)) else none
 | _,_,_,_=>none
def clearE (P:Program) (G:Nat->Option Ob) (nx r off z len:Nat) (e:TypeId):Option Eff :=
 if len = 0 then some (.val (.lit undef) [] nx) else
 match zfz P e,G r with
 | some zs,some (.cells ty cs) =>
  let new:=(Builtin.zeroCells zs len).toList.map V.lit
  if off + new.length≤cs.length∧oks new = true then some (.val (.lit undef) [(r,some (.cells ty (setC off new cs)))] nx) else none
 | _,_=>none
def copyE (G:Nat->Option Ob) (nx r off z len:Nat) (y:V):Option Eff :=
 if z = 0 then none else
 match zc8 G z y,G r with
 | some news,some (.cells ty cs) =>
  let n:=min (news.length / z) len
  if off + len * z≤cs.length then some (.val (.lit (.int .i64 n)) [(r,some (.cells ty (setC off (news.take (n * z)) cs)))] nx) else none
 | _,_=>none
def zeroOk (i:TypeInfo):Bool:=match i.zero with
 | some zv=>zv.cells.size == i.size
 | none=>false
def isStrT (P:Program) (t:TypeId):Bool:=match P.underlying t with
 | some .string=>true
 | _=>false
def z4o:V->Bool
 | .lit (.string _)=>false
 | _=>true
def zfn (P:Program) (f:V) (args:List V):Option (FuncId × List V) :=
 match f with
 | .lit (.func (.func g) a b)=>if z1p P g then some (g,a.toList.map .lit ++ args ++ b.toList.map .lit) else none
 | .fn g a b=>if z1p P g then some (g,a ++ args ++ b) else none
 | _=>none
def invT (P:Program) (G:Nat->Option Ob) (t:TypeId) (v:V) (name:String) (args:List V):Option (FuncId × List V):=match methOf P t name with
 | some (g,d)=>if z1p P g then (recvE P G v d).map fun u=>(g,u :: args) else none
 | none=>none
def invE (P:Program) (G:Nat->Option Ob) (recv:V) (name:String) (args:List V):Option (FuncId × List V) :=
 match recv with
 | .ifc t v=>invT P G t v name args
 | .lit (.iface t v)=>invT P G t (.lit v) name args
 | _=>none
def zaw (x:Option V) (d:Nat):Option Nat:=match x with
 | none=>some d
 | some v=>match intV v with
  | some n=>if 0≤n then some n.toNat else none
  | none=>none
def mapUE (P:Program) (T:Nat->V) (G:Nat->Option Ob) (nx:Nat) (t:TypeId) (x k y:Operand):Option Eff :=
 match opV T x,P.underlying t with
  | .mp r,some (.map kt et)=>match G r,z4r P kt,opV T k with
   | some (.map es),some kd,.lit kv=>if !za8 kd kv then none else match z84 kd kv es 0 with
    | some (some (i,_))=>some (.val (.lit undef) [(r,some (.map (es.set i (kv,opV T y))))] nx)
    | some none=>some (.val (.lit undef) [(r,some (.map (es ++ [(kv,opV T y)])))] nx)
    | none=>none
   | _,_,_=>none
  | _,_=>none
def ziv:List V->Option (List UInt8)
 | []=>some []
 | .lit (.int .u8 n) :: l=>match ziv l,decide (0≤n∧n < 256) with
  | some r,true=>some (UInt8.ofNat n.toNat :: r)
  | _,_=>none
 | _=>none
def convE (P:Program) (T:Nat->V) (G:Nat->Option Ob) (nx:Nat) (src dst:TypeId) (x:Operand) (o:Oper):Option Eff :=
 match opV T x,P.underlying src,P.underlying dst with
 | .lit (.string s),some .string,some (.slice e)=>match P.underlying e with
  | some (.int .u8)=>if s.size≤1000000 then some (.val (.sl nx 0 1 s.size) [(nx,some (.cells (e,2) (s.data.toList.map fun b=>.lit (.int .u8 b.toNat))))] (nx + 1)) else none
  | _=>none
 | .sl r off z len,some (.slice e),some .string=>match P.underlying e,G r with
  | some (.int .u8),some (.cells _ cs)=>if z = 1∧0 < len∧off + len≤cs.length then (ziv ((cs.drop off).take len)).map fun l=>.val (.lit (.string ⟨l.toArray⟩)) [] nx else none
  | _,_=>none
 | _,_,_=>zai P T nx o
def zj4 (P:Program) (G:Nat->Option Ob) (nx r off:Nat) (n:Int) (t:TypeId):Option Eff :=
 match P.underlying t,G r with
 | some (.pointer e),some (.cells ty cs)=>if (ty.1 = e∧P.cellsOf e = 1∧off = 0)∧0 < n∧n≤1000000∧n.toNat≤cs.length then (ziv (cs.take n.toNat)).map fun l=>.val (.lit (.string ⟨l.toArray⟩)) [(r,none)] nx else none
 | _,_=>none
def op1 (P:Program) (T:Nat->V) (G:Nat->Option Ob) (nx:Nat) (o:Oper):Option Eff :=
 let ev:=opV T
 match o.op with
 | .move x | .assign x=>some (.val (ev x) [] nx)
 | .pick c x y=>match ev c with
  | .lit (.bool t)=>some (.val (if t then ev x else ev y) [] nx)
  | _=>none
 | .alloc t=>match zeroC P t with
  | some cs=>if oks cs then some (.val (.ptr nx 0) [(nx,some (.cells (t,0) cs))] (nx + 1)) else none
  | none=>none
 | .box t x=>if oks (ev x).cells then some (.val (.ptr nx 0) [(nx,some (.cells (t,0) (ev x).cells))] (nx + 1)) else none
 | .build t parts=>(buildC P T t parts).map fun v=>.val v [] nx
 | .buildSlice t len parts=>match P.underlying t with
  | some (.slice e)=>match z2a P e,zfz P e with
   | some z,some zs=>if 0 < z∧len = 0∧parts = #[] then some (.val (.sl nx 0 z 0) [(nx,some (.cells (e,1) []))] (nx + 1)) else if 0 < z∧0 < len∧len≤1000000∧len * z≤1000000 then match zik (fun i=>some (i * z,z)) (madeC zs (len * z)) (parts.toList.map fun p=>(p.1,ev p.2)) with
     | some cs=>if oks cs && cs.length == len * z then some (.val (.sl nx 0 z len) [(nx,some (.cells (e,1) cs))] (nx + 1)) else none
     | none=>none
    else none
   | _,_=>none
  | _=>none
 | .load t x=>match ev x,aggT P t,z2a P t with
  | .ptr r off,some agg,some z=>match G r with
   | some (.cells _ cs)=>(getC agg z off cs).map fun v=>.val v [] nx
   | _=>none
  | _,_,_=>none
 | .store t x y=>match ev x,z2a P t with
  | .ptr r off,some z=>match G r with
   | some (.cells ty cs)=>if (ev y).cells.length == z && decide (off + z≤cs.length) && oks (ev y).cells then some (.val (.lit undef) [(r,some (.cells ty (setC off (ev y).cells cs)))] nx) else none
   | _=>none
  | _,_=>none
 | .nilCheck x=>match ev x with
  | .ptr r off=>some (.val (.ptr r off) [] nx)
  | .ifc t v=>some (.val (.ifc t v) [] nx)
  | .fn f a b=>some (.val (.fn f a b) [] nx)
  | .sl r off z len=>some (.val (.sl r off z len) [] nx)
  | .mp r=>some (.val (.mp r) [] nx)
  | _=>zai P T nx o
 | .binOp op t x y _=>match flatV P T o with
  | some v=>some (.val v [] nx)
  | none=>match op,eqA P G (P.underlying t) (ev x) (ev y) with
   | .eql,some b=>some (.val (.lit (.bool b)) [] nx)
   | .neq,some b=>some (.val (.lit (.bool !b)) [] nx)
   | _,_=>(unV P T o).map fun v=>.val v [] nx
 | .fieldAddr s x f=>match ev x,P.underlying s with
  | .ptr r off,some (.struct fs)=>match fs[f]? with
   | some fl=>match z2a P fl.type with
    | some (_ + 1)=>some (.val (.ptr r (off + fl.offset)) [] nx)
    | _=>none
   | none=>none
  | _,_=>none
 | .field s x f=>match ev x,P.underlying s with
  | .agg cs,some (.struct fs)=>match fs[f]? with
   | some fl=>match aggT P fl.type,z2a P fl.type with
    | some agg,some z=>(getC agg z fl.offset cs).map fun v=>.val v [] nx
    | _,_=>none
   | none=>none
  | _,_=>zai P T nx o
 | .indexAddr t x i=>match P.underlying t,ev x,intV (ev i) with
  | some (.slice e),.sl r off z len,some n=>if z2a P e = some z∧(0≤n∧n < len)∧(G r).isSome then some (.val (.ptr r (off + n.toNat * z)) [] nx) else none
  | some (.array len e),.ptr r off,some n=>match z2a P e with
   | some (z + 1)=>if 0≤n∧n < len then some (.val (.ptr r (off + n.toNat * (z + 1))) [] nx) else none
   | _=>none
  | _,_,_=>none
 | .slice t x lo hi none=>match P.underlying t,ev x with
  | some (.slice e),.sl r off z len=>match zaw (lo.map ev) 0,zaw (hi.map ev) len with
   | some l,some h=>if z2a P e = some z∧l≤h∧h≤len then some (.val (.sl r (off + l * z) z (h - l)) [] nx) else none
   | _,_=>none
  | _,_=>zai P T nx o
 | .makeMap t r=>match r with
  | none=>some (.val (.mp nx) [(nx,some (.map []))] (nx + 1))
  | some _=>none
 | .lookup t x k ok=>match ev x,P.underlying t with
  | .mp r,some (.map kt et)=>match G r,z4r P kt,ev k,(P.info? et).bind (·.zero) with
   | some (.map es),some kd,.lit kv,some zv=>if !za8 kd kv then none else match z84 kd kv es 0 with
    | some (some (_,v))=>some (.val (if ok then .tup [v,.lit (.bool true)] else v) [] nx)
    | some none=>some (.val (if ok then .tup [.lit zv,.lit (.bool false)] else .lit zv) [] nx)
    | none=>none
   | _,_,_,_=>none
  | _,_=>zai P T nx o
 | .mapUpdate t x k y=>mapUE P T G nx t x k y
 | .insert t x k y=>mapUE P T G nx t x k y
 | .convert src dst x=>convE P T G nx src dst x o
 | .makeFunc (.func f) a b=>some (.val (.fn f (a.toList.map ev) (b.toList.map ev)) [] nx)
 | .makeInterface t x=>match P.underlying t with
  | some (.interface _)=>none
  | some _=>some (.val (match (ev x).val? with
    | some v=>.lit (.iface t v)
    | none=>.ifc t (ev x)) [] nx)
  | none=>none
 | .makeSlice t x y=>match P.underlying t,intV (ev x),intV (ev y) with
  | some (.slice e),some n,some m=>match P.info? e,zfz P e with
   | some i,some zs=>if 0≤n∧n≤m∧m≤1000000∧i.bytes≤1000000∧0 < i.size∧oks (madeC zs (m.toNat * i.size)) = true then some (.val (.sl nx 0 i.size n.toNat) [(nx,some (.cells (e,1) (madeC zs (m.toNat * i.size))))] (nx + 1)) else none
   | _,_=>none
  | _,_,_=>none
 | .extract x i=>match ev x with
  | .tup vs=>(vs[i]?).map fun v=>.val v [] nx
  | _=>zai P T nx o
 | .typeAssert x xt t ok=>match ev x,P.underlying t with
  | .ifc d v,some (.interface want)=>match P.info? d with
   | some i=>match Instr.missingMethod want i.methods with
    | none=>some (.val (if ok then .tup [.ifc d v,.lit (.bool true)] else .ifc d v) [] nx)
    | some _=>none
   | none=>none
  | .ifc d v,some _=>if d = t then some (.val (if ok then .tup [v,.lit (.bool true)] else v) [] nx) else none
  | _,_=>zai P T nx o
 | .call c=>match c.callee,c.args.toList.map ev,c.argTypes.toList with
  | .value f,args,_=>match ev f with
   | .yl r=>some (.yld r args)
   | v=>(zfn P v args).map fun q=>.call q.1 q.2
  | .invoke f name,args,_=>(invE P G (ev f) name args).map fun q=>.call q.1 q.2
  | .builtin .len,[.sl r off z len],[t]=>match P.underlying t with
   | some (.slice _)=>some (.val (.lit (.int .i64 len)) [] nx)
   | _=>none
  | .builtin .len,[.mp r],[t]=>match P.underlying t,G r with
   | some (.map _ _),some (.map es)=>some (.val (.lit (.int .i64 es.length)) [] nx)
   | _,_=>none
  | .builtin .append,[x,y],[t,t']=>match P.underlying t with
   | some (.slice e)=>match P.info? e with
    | some i=>if zeroOk i = true∧((t = t'∧z4o y = true)∨(isStrT P t' = true∧z4o y = false)) then appE G nx e i.size i.bytes x y else appZ P nx e i t' x y
    | none=>none
   | _=>none
  | .builtin .unsafeSliceData,[.sl r off z len],_=>if 0 < len∧(G r).isSome then some (.val (.ptr r off) [] nx) else none
  | .builtin .unsafeString,[.ptr r off,.lit (.int .i64 n)],[t,_]=>zj4 P G nx r off n t
  | .builtin .clear,[.sl r off z len],[t]=>match P.underlying t with
   | some (.slice e)=>clearE P G nx r off z len e
   | _=>none
  | .builtin .copy,[.sl r off z len,y],[t,t']=>match P.underlying t with
   | some (.slice e)=>if z2a P e = some z∧z4o y = true then copyE G nx r off z len y else none
   | _=>none
  | .builtin .delete,[.mp r,k],[t,_]=>match P.underlying t with
   | some (.map kt et)=>match G r,z4r P kt,k with
    | some (.map es),some kd,.lit kv=>if !za8 kd kv then none else match z84 kd kv es 0 with
     | some (some (i,_))=>some (.val (.lit undef) [(r,some (.map (es.eraseIdx i)))] nx)
     | some none=>some (.val (.lit undef) [(r,some (.map es))] nx)
     | none=>none
    | _,_,_=>none
   | _=>none
  | _,_,_=>zai P T nx o
 | .defer c=>match c.callee,c.args.toList.map ev with
  | .value f,args=>(zfn P (ev f) args).map fun q=>.dfr q.1 q.2
  | _,_=>none
 | _=>zai P T nx o
end Hm
end Go.Proofs.YtlhblpbfhfhlpaaGreatDoor
end
section
namespace Go.Proofs.YtlhblpbfhfhlpaaGreatDoor
open Go.RowKit
namespace Hm
inductive Tr (α:Type) where
 | lf
 | nd (l:Tr α) (v:Option α) (r:Tr α)
def Tr.get {α:Type}:Tr α->Nat->Option α
 | .lf,_=>none
 | .nd l v r,n=>match n with
  | 0=>v
  | k + 1=>match Nat.beq (k % 2) 0 with
   | true=>l.get (k / 2)
   | false=>r.get (k / 2)
def Tr.set {α:Type}:Nat->Tr α->Nat->Option α->Tr α
 | 0,t,_,_=>t
 | f + 1,.lf,n,x=>match n with
  | 0=>.nd .lf x .lf
  | k + 1=>match Nat.beq (k % 2) 0 with
   | true=>.nd (Tr.set f .lf (k / 2) x) none .lf
   | false=>.nd .lf none (Tr.set f .lf (k / 2) x)
 | f + 1,.nd l v r,n,x=>match n with
  | 0=>.nd l x r
  | k + 1=>match Nat.beq (k % 2) 0 with
   | true=>.nd (Tr.set f l (k / 2) x) v r
   | false=>.nd l v (Tr.set f r (k / 2) x)
def Tr.f (t:Tr V) (n:Nat):V:=(t.get n).getD (.lit undef)
def trOf:List V->Nat->Tr V->Tr V
 | [],_,t=>t
 | v :: l,i,t=>trOf l (i + 1) (t.set 10 i (some v))
structure Hx where
 H:Tr Ob
 nx:Nat
 lg:List Nat
structure Sx where
 T:Tr V
 D:List (FuncId × List V)
 h:Hx
inductive XK where
 | normal
 | exit (id:Nat)
 | ret
abbrev z1v:=FuncId->List V->Hx->Option (V × Hx)
def upsX (nx nx':Nat):List (Nat × Option Ob)->Tr Ob->Option (Tr Ob)
 | [],t=>some t
 | p :: l,t=>match Nat.blt p.1 nx' && Nat.blt p.1 1000000 with
  | true=>match Nat.ble nx p.1 with
   | true=>upsX nx nx' l (t.set 20 p.1 p.2)
   | false=>match (t.get p.1).isSome with
    | true=>upsX nx nx' l (t.set 20 p.1 p.2)
    | false=>none
  | false=>none
def putX (N:Nat) (o:Oper) (v:V) (T:Tr V):Option (Tr V):=match o.dst with
 | some d=>match Nat.blt d N with
  | true=>some (T.set 10 d (some v))
  | false=>none
 | none=>some T
def wantV (ops:Array Oper) (T:Nat->V) (o:Oper):Bool:=match o.guard with
 | none=>true
 | some (j,want)=>match (ops[j]?).bind (·.dst) with
  | none=>false
  | some t=>match T t with
   | .lit (.bool b)=>b == want
   | _=>false
def wantK (ops:Array Oper) (T:Nat->V) (o:Oper):Bool:=match o.guard with
 | none=>true
 | some (j,want)=>match (ops[j]?).bind (·.dst) with
  | none=>true
  | some t=>(T t).sure
def effX (P:Program) (C:z1v) (Tf:Nat->V) (ops:Array Oper) (o:Oper) (D:List (FuncId × List V)) (h:Hx):Option (V × List (FuncId × List V) × Hx) :=
 match wantK ops Tf o with
 | false=>none
 | true=>match wantV ops Tf o with
  | true=>match op1 P Tf h.H.get h.nx o with
   | some (.val v ups nx)=>match upsX h.nx nx ups h.H,Nat.ble h.nx nx with
    | some H,true=>some (v,D,⟨H,nx,ups.map (·.1) ++ h.lg⟩)
    | _,_=>none
   | some (.call f args)=>match C f args h with
    | some (v,h)=>some (v,D,h)
    | none=>none
   | some (.dfr f args)=>some (.lit undef,(f,args) :: D,h)
   | some (.yld r args)=>match C yldId (.yl r :: args) h with
    | some (v,h)=>some (v,D,h)
    | none=>none
   | none=>none
  | false=>some (.lit undef,D,h)
def stepX (P:Program) (C:z1v) (N:Nat) (ops:Array Oper) (o:Oper) (s:Sx):Option Sx :=
 match effX P C s.T.f ops o s.D s.h with
 | some (v,D,h)=>match putX N o v s.T with
  | some T=>some ⟨T,D,h⟩
  | none=>none
 | none=>none
def runX (P:Program) (C:z1v) (N:Nat) (ops:Array Oper):List Oper->Sx->Option Sx
 | [],s=>some s
 | o :: l,s=>match stepX P C N ops o s with
  | some s=>runX P C N ops l s
  | none=>none
def z0b (o:Oper):List Nat:=o.after.toList.filterMap fun e=>if Region.binds .any e then some e.on else none
def tb (m j:Nat):Bool:=Nat.beq (Nat.land 1 (Nat.shiftRight m j)) 1
def bit (j:Nat):Nat:=Nat.shiftLeft 1 j
def orT (tab:List Nat):List Nat->Nat
 | []=>0
 | j :: l=>Nat.lor (Nat.lor (bit j) (tab.getD j 0)) (orT tab l)
def depT:List Oper->List Nat->List Nat
 | [],tab=>tab
 | o :: l,tab=>depT l (tab ++ [orT tab (z0b o)])
def wrX:List Oper->Nat->Tr Nat->Tr Nat
 | [],_,t=>t
 | o :: l,k,t=>wrX l (k + 1) (match o.dst with
  | some d=>t.set 10 d (some k)
  | none=>t)
def ze4 (W:Tr Nat) (tab:List Nat) (T:Tr V) (k:Nat) (t:Nat):V:=match W.get t with
 | some j=>match tb (tab.getD k 0) j with
  | true=>T.f t
  | false=>match tb (tab.getD j 0) k with
   | true=>T.f t
   | false=>.any
 | none=>T.f t
structure Ld where
 k:Nat
 lg:List Nat
 a:Nat
 b:Nat
def Ld.hits (x:Ld) (r:Nat):Bool:=(Nat.ble x.a r && Nat.blt r x.b) || x.lg.any fun q=>Nat.beq q r
def bad (lds:List Ld) (d nx0 n:Nat) (r:Nat):Bool :=
 (Nat.ble nx0 r && Nat.blt r (nx0 + n) && !(tb d (r - nx0))) || lds.any fun x=>!(tb d x.k) && x.hits r
def maskG (H:Tr Ob) (lds:List Ld) (d nx0 n:Nat) (r:Nat):Option Ob:=match H.get r with
 | some ob=>match bad lds d nx0 n r with
  | true=>none
  | false=>some ob
 | none=>none
def loud (o:Oper):Bool:=match o.op with
 | .store .. | .mapUpdate .. | .insert .. | .defer _=>true
 | .call c=>match c.callee with
  | .builtin .len | .builtin .cap | .builtin .min | .builtin .max=>false
  | _=>true
 | _=>false
structure Dx where
 T:Tr V
 D:List (FuncId × List V)
 h:Hx
 done:Nat
 lds:List Ld
def quietX (P:Program) (Tf:Nat->V) (G:Nat->Option Ob) (ops:Array Oper) (o:Oper) (r:Nat):Option (V × Option Ob) :=
 match wantK ops Tf o with
 | false=>none
 | true=>match wantV ops Tf o with
  | true=>match op1 P Tf G r o with
   | some (.val v [] nx)=>match Nat.ble nx (r + 1) with
    | true=>some (v,none)
    | false=>none
   | some (.val v [(q,some ob)] nx)=>match Nat.ble nx (r + 1),Nat.beq q r with
    | true,true=>some (v,some ob)
    | _,_=>none
   | _=>none
  | false=>some (.lit undef,none)
def stepD (P:Program) (C:z1v) (N:Nat) (ops:Array Oper) (tab:List Nat) (W:Tr Nat) (nx0 k:Nat) (c:Dx):Option Dx :=
 match ops[k]? with
 | none=>none
 | some o=>match tb c.done k with
  | true=>none
  | false=>match loud o with
   | true=>match Nat.beq c.done (tab.getD k 0) with
    | true=>match effX P C (ze4 W tab c.T k) ops o c.D ⟨c.h.H,c.h.nx,[]⟩ with
     | some (v,D,h)=>match putX N o v c.T with
      | some T=>some ⟨T,D,⟨h.H,h.nx,h.lg ++ c.h.lg⟩,Nat.lor c.done (bit k),⟨k,h.lg,c.h.nx,h.nx⟩ :: c.lds⟩
      | none=>none
     | none=>none
    | false=>none
   | false=>match Nat.beq (Nat.land (tab.getD k 0) c.done) (tab.getD k 0) with
    | true=>match quietX P (ze4 W tab c.T k) (maskG c.h.H c.lds (tab.getD k 0) nx0 ops.size) ops o (nx0 + k) with
     | some (v,ob)=>match putX N o v c.T with
      | some T=>match ob with
       | none=>some ⟨T,c.D,c.h,Nat.lor c.done (bit k),c.lds⟩
       | some ob=>match Nat.blt (nx0 + k) 1000000 with
        | true=>some ⟨T,c.D,⟨c.h.H.set 20 (nx0 + k) (some ob),c.h.nx,c.h.lg⟩,Nat.lor c.done (bit k),c.lds⟩
        | false=>none
      | none=>none
     | none=>none
    | false=>none
def runD (P:Program) (C:z1v) (N:Nat) (ops:Array Oper) (tab:List Nat) (W:Tr Nat) (nx0:Nat):List Nat->Dx->Option Dx
 | [],c=>some c
 | k :: l,c=>match stepD P C N ops tab W nx0 k c with
  | some c=>runD P C N ops tab W nx0 l c
  | none=>none
def ordG (tab all:List Nat):List Nat->Nat->List Nat
 | [],done=>all.filter fun j=>!(tb done j)
 | l :: ls,done=>(all.filter fun j=>tb (tab.getD l 0) j && !(tb done j)) ++ l :: ordG tab all ls (Nat.lor done (Nat.lor (tab.getD l 0) (bit l)))
def ordL (ops:Array Oper) (tab:List Nat):List Nat :=
 ordG tab (List.range ops.size) ((List.range ops.size).filter fun j=>match ops[j]? with
  | some o=>loud o
  | none=>false) 0
def zqh:List Oper->Nat->Bool
 | [],_=>true
 | o :: l,k=>(z0b o).all (fun j=>Nat.blt j k) && zqh l (k + 1)
def soleB (W:Tr Nat):List Oper->Nat->Bool
 | [],_=>true
 | o :: l,k=>(match o.dst with
  | some t=>match W.get t with
   | some j=>Nat.beq j k && Nat.blt t 1000
   | none=>false
  | none=>true) && soleB W l (k + 1)
def regD (P:Program) (C:z1v) (N:Nat) (ops:Array Oper) (s:Sx):Option Sx :=
 let tab:=depT ops.toList []
 let W:=wrX ops.toList 0 .lf
 match zqh ops.toList 0 && soleB W ops.toList 0 with
 | true=>match runD P C N ops tab W s.h.nx (ordL ops tab) ⟨s.T,s.D,⟨s.h.H,s.h.nx + ops.size,s.h.lg⟩,0,[]⟩ with
  | some c=>match Nat.beq (c.done + 1) (bit ops.size) with
   | true=>some ⟨c.T,c.D,c.h⟩
   | false=>none
  | none=>none
 | false=>none
def za2 (F:Sx->Option (XK × Sx)):Nat->Sx->Option (XK × Sx)
 | 0,_=>none
 | n + 1,s=>match F s with
  | some (.normal,s)=>za2 F n s
  | r=>r
def z6g (T:Tr V) (N:Nat):List V:=(List.range N).map T.f
def parsX:List Nat->List V->Tr V->Tr V
 | t :: ps,v :: vs,T=>parsX ps vs (T.set 10 t (some v))
 | _,_,T=>T
def exeX (P:Program) (C:z1v) (N:Nat):Nat->Code->Sx->Option (XK × Sx)
 | 0,_,_=>none
 | n + 1,.skip,s=>some (.normal,s)
 | n + 1,.label _,s=>some (.normal,s)
 | n + 1,.region id ops draw,s=>match (match draw with
   | true=>regD P C N ops s
   | false=>runX P C N ops ops.toList s) with
  | some s=>some (.normal,s)
  | none=>none
 | n + 1,.seq a b,s=>match exeX P C N n a s with
  | some (.normal,s)=>exeX P C N n b s
  | r=>r
 | n + 1,.cond c a b,s=>match opV s.T.f c with
  | .lit (.bool true)=>exeX P C N n a s
  | .lit (.bool false)=>exeX P C N n b s
  | _=>none
 | n + 1,.block id b,s=>match exeX P C N n b s with
  | some (.exit j,s)=>match Nat.beq j id with
   | true=>some (.normal,s)
   | false=>some (.exit j,s)
  | r=>r
 | n + 1,.loop b,s=>za2 (exeX P C N n b) n s
 | n + 1,.exit id,s=>some (.exit id,s)
 | n + 1,.ret,s=>some (.ret,s)
 | n + 1,.rangeFunc g ps asg bd,s=>match Nat.blt (s.h.nx + 1) 1000000,zfn P (opV s.T.f g) [.yl (s.h.nx + 1)] with
  | true,some (f,args)=>match C f args ⟨(s.h.H.set 20 s.h.nx (some .defd)).set 20 (s.h.nx + 1) (some (.loop (z6g s.T N) ps.toList asg bd false)),s.h.nx + 2,s.h.lg⟩ with
   | some (_,h)=>match h.H.get (s.h.nx + 1) with
    | some (.loop _ _ _ _ false)=>some (.normal,⟨s.T,(mkId,[.yl s.h.nx]) :: s.D,⟨h.H.set 20 (s.h.nx + 1) none,h.nx,(s.h.nx + 1) :: h.lg⟩⟩)
    | _=>none
   | none=>none
  | _,_=>none
 | n + 1,_,s=>none
def resX (P:Program) (T:Tr V) (H:Tr Ob):ResultVar->Option V
 | .tmp t=>some (T.f t)
 | .cell a t=>match T.f a,aggT P t,z2a P t with
  | .ptr r o,some agg,some z=>match H.get r with
   | some (.cells _ cs)=>getC agg z o cs
   | _=>none
  | _,_,_=>none
def ressX (P:Program) (T:Tr V) (H:Tr Ob):List ResultVar->Option (List V)
 | []=>some []
 | r :: l=>match resX P T H r,ressX P T H l with
  | some v,some vs=>some (v :: vs)
  | _,_=>none
def dfrX (F:FuncId->List V->Hx->Option Hx):List (FuncId × List V)->Hx->Option Hx
 | [],h=>some h
 | d :: l,h=>match Nat.beq d.1 mkId with
  | true=>match d.2 with
   | [.yl r]=>match h.H.get r,Nat.blt r 1000000 && Nat.blt r h.nx with
    | some .defd,true=>dfrX F l ⟨h.H.set 20 r none,h.nx,r :: h.lg⟩
    | _,_=>none
   | _=>none
  | false=>match F d.1 d.2 h with
   | some h=>dfrX F l h
   | none=>none
def z9r (o:Oper):Bool:=match o.op with
 | .defer _=>false
 | _=>true
def z4f:Code->Bool
 | .region _ ops _=>ops.toList.all z9r
 | .seq a b=>z4f a && z4f b
 | .cond _ a b=>z4f a && z4f b
 | .block _ b=>z4f b
 | .loop b=>z4f b
 | .rangeFunc ..=>false
 | _=>true
def rndX (P:Program) (C:z1v) (n:Nat) (args:List V) (h:Hx):Option (V × Hx):=match args with
 | .yl r :: vs=>match h.H.get r with
  | some (.loop ts ps asg bd false)=>match (Nat.beq vs.length ps.length && (ps.all fun t=>Nat.blt t ts.length)) && (Nat.ble ts.length 1000 && ((Nat.blt r 1000000 && Nat.blt r h.nx) && (z4f asg && z4f bd))) with
   | true=>match exeX P C ts.length n asg ⟨parsX ps vs (trOf ts 0 .lf),[],h⟩ with
    | some (.normal,s1)=>match s1.h.H.get r with
     | some (.loop ts2 ps2 as2 bd2 false)=>match exeX P C ts.length n bd ⟨s1.T,s1.D,⟨s1.h.H.set 20 r (some (.loop ts2 ps2 as2 bd2 true)),s1.h.nx,r :: s1.h.lg⟩⟩ with
      | some (.normal,s2)=>match s2.h.H.get r with
       | some (.loop ts3 ps3 as3 bd3 true)=>some (.lit (.bool true),⟨s2.h.H.set 20 r (some (.loop ts3 ps3 as3 bd3 false)),s2.h.nx,r :: s2.h.lg⟩)
       | _=>none
      | _=>none
     | _=>none
    | _=>none
   | false=>none
  | _=>none
 | _=>none
def bodyX (P:Program) (C:z1v) (n:Nat) (f:FuncId) (args:List V) (h:Hx):Option (Func × Sx) :=
 match P.funcs[f]? with
 | some fn=>match fn.body with
  | some c=>match Nat.ble args.length fn.ntmps && (Nat.ble fn.ntmps 1000 && Nat.ble fn.results.size 3) with
   | true=>match exeX P C fn.ntmps n c ⟨trOf args 0 .lf,[],h⟩ with
    | some (.normal,s)=>some (fn,s)
    | some (.ret,s)=>some (fn,s)
    | _=>none
   | false=>none
  | none=>none
 | none=>none
def zr3 (P:Program) (C:z1v) (n:Nat) (f:FuncId) (args:List V) (h:Hx):Option Hx:=match z1p P f with
 | true=>match bodyX P C n f args h with
  | some (fn,s)=>match s.D,ressX P s.T s.h.H fn.results.toList with
   | [],some _=>some s.h
   | _,_=>none
  | none=>none
 | false=>none
def tupX:List V->V
 | [v]=>v
 | vs=>.tup vs
def ziu (P : Program) (X : z1v) : Nat → z1v
  | 0, _, _, _ => none
  | n + 1, f, args, h => match Nat.beq f yldId with
   | true => rndX P (ziu P X n) n args h
   | false => match X f args h with
    | some r => some r
    | none => match bodyX P (ziu P X n) n f args ⟨h.H, h.nx, []⟩ with
      | some (fn, s) => match dfrX (zr3 P (ziu P X n) n) s.D s.h with
        | some h' => match ressX P s.T h'.H fn.results.toList with
          | some vs => some (tupX vs, ⟨h'.H, h'.nx, (h'.lg.filter fun q => Nat.blt q h.nx) ++ h.lg⟩)
          | none => none
        | none => none
      | none => none
end Hm
end Go.Proofs.YtlhblpbfhfhlpaaGreatDoor
end
section
namespace Go.Proofs.YtlhblpbfhfhlpaaGreatDoor
open Go.RowKit
namespace Hm
theorem opds_congr {P:Program} {E:Mx} {w:World} {T:Nat->V} {a:Act} {o:Oper} (h:∀ x:Operand,Vr E w (opV T x) (a.eval x)) (hs:notSel o.op = true) (hv:∀ x,x ∈ o.op.operands.toList->((opV T x).val?).isSome = true) :
  execOp (fun x=>((opV T x).val?).getD undef) o = execOp a.eval o:=by
 refine execOp_congr o (fun cs b e=>by rw [e] at hs; cases hs) fun x hx=>?_
 obtain ⟨v,e⟩:=Option.isSome_iff_exists.1 (hv x (by simpa using hx))
 rw [e]
 exact ((h x).val e).symm
theorem zah {P:Program} {E:Mx} {w:World} {T:Nat->V} {a:Act} {o:Oper} (h:∀ x:Operand,Vr E w (opV T x) (a.eval x)) {v:V} (e:flatV P T o = some v):∃ u,v = .lit u∧(execOp a.eval o).run P w = .ok (.value u) w:=by
 unfold flatV at e
 split at e
 ·rename_i hc
  rw [Bool.and_eq_true,List.all_eq_true] at hc
  rw [opds_congr (P:=P) h hc.1 hc.2] at e
  rw [Option.map_eq_some_iff] at e
  obtain ⟨u,hu,rfl⟩:=e
  exact ⟨u,rfl,zei hu⟩
 ·cases e
def upsH:List (Nat × Option Ob)->(Nat->Option Ob)->Nat->Option Ob
 | [],H=>H
 | p :: l,H=>upsH l (upd H p.1 p.2)
def Out (P:Program) (E:Mx) (w:World) (s:Sem Next) (v:V) (ups:List (Nat × Option Ob)) (nx nx':Nat):Prop :=
 ∃ u w' E',(s.run P w = .ok (.value u) w'∨(s.run P w = .ok .skip w'∧u = undef))∧Vr E' w' v u∧Rel E' w'∧Step E w E' w'∧E'.H = upsH ups E.H∧(∀ r,E'.U r ↔ E.U r∨(nx≤r∧r < nx'))
section
variable {P:Program} {E:Mx} {w:World}
theorem Out.pure {s:Sem Next} {v:V} {u:Value} {nx:Nat} (hR:Rel E w) (h:s.run P w = .ok (.value u) w) (hv:Vr E w v u):Out P E w s v [] nx nx :=
 ⟨u,w,E,.inl h,hv,hR,Step.refl _ _,rfl,fun r=>⟨.inl,fun q=>q.elim id fun q=>by omega⟩⟩
theorem Out.made {s:Sem Next} {v:V} {u:Value} {nx:Nat} (hR:Rel E w) (hnx:¬ E.U nx) {ob:Ob} {o:Obj} (h:s.run P w = .ok (.value u) (w.alloc o)) (ho:ObR E w 0 ob o) (hv:Vr (E.new nx w.heap.size 0 ob) (w.alloc o) v u):Out P E w s v [(nx,some ob)] nx (nx + 1):=by
 obtain ⟨h1,h2⟩:=hR.new hnx ho
 refine ⟨u,_,_,.inl h,hv,h1,h2,rfl,fun r=>⟨fun q=>q.imp id fun q=>by omega,fun q=>q.imp id fun q=>by omega⟩⟩
theorem ObR.lits {E:Mx} {w:World} {vs:Array Value} {t:TypeId} {k b:Nat} (hb:b = 0) (h:oks (vs.toList.map .lit) = true):ObR E w b (.cells (t,k) (vs.toList.map .lit)) (.cells vs t (0,0)):=by
 subst hb
 refine ⟨.inl rfl,by simp,fun j c hc=>?_⟩
 have h1:=List.all_eq_true.1 h c (List.mem_of_getElem? hc)
 rw [List.getElem?_map,Option.map_eq_some_iff] at hc
 obtain ⟨u,hu,rfl⟩:=hc
 exact ⟨h1,u,by rw [Nat.zero_add,← Array.getElem?_toList]; exact hu,.lit u⟩
theorem ObR.vrs {E:Mx} {w:World} {cs:List V} {us:List Value} {t:TypeId} {k:Nat} (h:Vrs E w cs us) (h1:oks cs = true):ObR E w 0 (.cells (t,k) cs) (.cells us.toArray t (0,0)):=by
 refine ⟨.inl rfl,by simp [h.len],fun j c hc=>⟨List.all_eq_true.1 h1 c (List.mem_of_getElem? hc),?_⟩⟩
 obtain ⟨u,hu,hv⟩:=h.get hc
 exact ⟨u,by rw [Nat.zero_add,List.getElem?_toArray]; exact hu,hv⟩
theorem z6z {t:TypeId} {cs:List V} (h:zeroC P t = some cs):∃ i z,P.info? t = some i∧i.zero = some z∧cs = z.cells.toList.map .lit:=by
 unfold zeroC at h
 rw [Option.map_eq_some_iff] at h
 obtain ⟨z,hz,rfl⟩:=h
 rw [Option.bind_eq_some_iff] at hz
 obtain ⟨i,hi,hz⟩:=hz
 exact ⟨i,z,hi,hz,rfl⟩
theorem z0s {t:TypeId} {n:Nat} (h:z2a P t = some n):∃ i,P.info? t = some i∧i.size = n:=by
 unfold z2a at h
 rw [Option.map_eq_some_iff] at h
 exact h
theorem zrb {t:TypeId} {b:Bool} (h:aggT P t = some b) (w:World):(isAgg t).run P w = .ok b w:=by
 unfold aggT at h
 rw [Option.map_eq_some_iff] at h
 obtain ⟨d,hd,rfl⟩:=h
 unfold isAgg
 rw [Sem.run_bind,run_underlying hd]
 cases d <;> rfl
theorem z4s {v:V} {n:Int} {u:Value} (h:intV v = some n) (hv:Vr E w v u):∃ k,u = .int k n:=by
 unfold intV at h
 split at h
 ·cases h
  exact ⟨_,hv.lit_inv⟩
 ·cases h
theorem z4b (g o j:Nat):(⟨g,o,none⟩:Addr).add j = ⟨g,o + j,none⟩:=by
 unfold Addr.add
 split
 ·rename_i e; rw [e]; rfl
 ·rfl
theorem Rel.cell (h:Rel E w) {r:Nat} {tb:TypeId × Nat} {cs:List V} (hr:E.H r = some (.cells tb cs)) {j:Nat} {c:V} (hc:cs[j]? = some c):∃ u,w.cell? ⟨(E.μ r).1,(E.μ r).2 + j,none⟩ = some u∧Vr E w c u:=by
 obtain ⟨o,h1,h2⟩:=h.obj r _ hr
 cases o <;> try exact h2.elim
 obtain ⟨h3,h4,h5⟩:=h2
 obtain ⟨_,u,h6,h7⟩:=h5 j c hc
 exact ⟨u,by simp [World.cell?,h1,h6],h7⟩
theorem Rel.reads (h:Rel E w) {r:Nat} {tb:TypeId × Nat} {cs:List V} (hr:E.H r = some (.cells tb cs)) (o z:Nat) (hz:o + z≤cs.length) :
  ∃ us:List Value,Vrs E w ((cs.drop o).take z) us∧us.length = z∧(∀ u,u ∈ us->u.oneCell' = true)∧∀ j u,us[j]? = some u->w.cell? ((⟨(E.μ r).1,(E.μ r).2 + o,none⟩:Addr).add j) = some u:=by
 obtain ⟨ob,h1,h2⟩:=h.obj r _ hr
 cases ob <;> try exact h2.elim
 rename_i vs ty fr
 obtain ⟨h3,h4,h5⟩:=h2
 refine ⟨((vs.toList.drop ((E.μ r).2 + o)).take z),⟨by simp; omega,fun j c u hc hu=>?_⟩,by simp; omega,fun u hu=>?_,fun j u hu=>?_⟩
 ·rw [List.getElem?_take] at hc hu
  split at hc
  ·rename_i hj
   rw [if_pos hj] at hu
   rw [List.getElem?_drop] at hc hu
   obtain ⟨_,u',h6,h7⟩:=h5 _ c hc
   rw [Array.getElem?_toList,show (E.μ r).2 + o + j = (E.μ r).2 + (o + j) by omega,h6] at hu
   cases hu
   exact h7
  ·cases hc
 ·obtain ⟨j,hj⟩:=List.mem_iff_getElem?.1 hu
  rw [List.getElem?_take] at hj
  split at hj
  ·rename_i hjz
   rw [List.getElem?_drop,Array.getElem?_toList] at hj
   have hlt:o + j < cs.length:=by omega
   obtain ⟨h6,u',h7,h8⟩:=h5 (o + j) cs[o + j] (List.getElem?_eq_getElem hlt)
   rw [show (E.μ r).2 + o + j = (E.μ r).2 + (o + j) by omega,h7] at hj
   cases hj
   exact h8.oneCell h6
  ·cases hj
 ·rw [List.getElem?_take] at hu
  split at hu
  ·rw [List.getElem?_drop,Array.getElem?_toList] at hu
   rw [z4b]
   simp [World.cell?,h1,hu]
  ·cases hu
theorem Vr.ptr_inv {r o:Nat} {u:Value} (h:Vr E w (.ptr r o) u):∃ a,u = .pointer (some a)∧E.U r∧((E.H r).isSome->a = ⟨(E.μ r).1,(E.μ r).2 + o,none⟩):=by
 cases h with
 | ptr _ _ a hr h=>exact ⟨a,rfl,hr,h⟩
theorem Vr.ptr_live {r o:Nat} {u:Value} (h:Vr E w (.ptr r o) u) {ob:Ob} (hr:E.H r = some ob):u = .pointer (some ⟨(E.μ r).1,(E.μ r).2 + o,none⟩):=by
 obtain ⟨a,rfl,_,h2⟩:=h.ptr_inv
 rw [h2 (by rw [hr]; rfl)]
theorem Vr.mp_live {r:Nat} {u:Value} (h:Vr E w (.mp r) u) {ob:Ob} (hr:E.H r = some ob):u = .map (some (E.μ r).1):=by
 cases h with
 | mp _ g hr' h=>rw [h (by rw [hr]; rfl)]
theorem ze7 {t:TypeId} {r off z:Nat} {agg:Bool} {tb:TypeId × Nat} {cs:List V} {v:V} {u:Value} (hR:Rel E w) (hu:Vr E w (.ptr r off) u) (ha:aggT P t = some agg) (hz:z2a P t = some z) (hr:E.H r = some (.cells tb cs)) (hv:getC agg z off cs = some v) :
  ∃ x,(Instr.loadAt t u).run P w = .ok x w∧Vr E w v x:=by
 have hp:=hu.ptr_live hr
 subst hp
 obtain ⟨i,hi,rfl⟩:=z0s hz
 have hagg:=zrb (P:=P) ha w
 unfold getC at hv
 cases agg with
 | true =>
  simp only [if_true] at hv
  split at hv
  ·rename_i hle
   cases hv
   obtain ⟨us,h1,h2,_,h3⟩:=hR.reads hr off i.size hle
   have hl:=run_loadCells_list (P:=P) w ⟨(E.μ r).1,(E.μ r).2 + off,none⟩ us h3
   rw [h2] at hl
   exact ⟨_,by simp [Instr.loadAt,Instr.sureAddr,loadVar,hagg,sizeOf,typeInfo,hi,hl],h1.agg⟩
  ·cases hv
 | false =>
  simp only [Bool.false_eq_true,if_false] at hv
  obtain ⟨x,h1,h2⟩:=hR.cell hr hv
  exact ⟨x,by simp [Instr.loadAt,Instr.sureAddr,loadVar,hagg,h1],h2⟩
theorem Unf.no {w:World} {g o n:Nat} {cur:Array Value} {t:TypeId} {fr:Nat × Nat} (hg:w.heap[g]? = some (.cells cur t fr)) (hf:Unf fr n) (ho:o < n):w.frozen? ⟨g,o,none⟩ = false:=by
 rcases hf with rfl | rfl
 ·simp [World.frozen?,hg]
 ·simp only [World.frozen?,hg,Bool.and_eq_false_iff,decide_eq_false_iff_not]
  left
  omega
theorem z10 (P:Program) (g o:Nat) (t:TypeId) (fz:Nat × Nat) (n:Nat) (hfz:Unf fz n):∀ (vs:List Value) (i:Nat) (cur:Array Value) (w:World),cur.size = n->w.heap[g]? = some (.cells cur t fz)->o + i + vs.length≤cur.size->(∀ v ∈ vs,v.oneCell' = true) ->
  (storeCells ⟨g,o,none⟩ vs i).run P w = .ok () (w.setRow g (cur.toList.take (o + i) ++ vs ++ cur.toList.drop (o + i + vs.length)).toArray)
 | [],i,cur,w,hn,hg,_,_=>by
  simp only [storeCells,List.append_nil,List.length_nil,Nat.add_zero,List.take_append_drop,Array.toArray_toList]
  rw [setRow_self w g cur t fz hg]
  rfl
 | v :: rest,i,cur,w,hn,hg,hl,h1=>by
  have hi:o + i < cur.size:=by simp at hl; omega
  have hadd:(⟨g,o,none⟩:Addr).add i = ⟨g,o + i,none⟩:=by unfold Addr.add; split <;> simp_all
  have hcell:w.cell? ⟨g,o + i,none⟩ = some cur[o + i]:=by simp [World.cell?,hg,hi]
  have hfro:w.frozen? ⟨g,o + i,none⟩ = false:=Unf.no hg hfz (by omega)
  have hst:(store ((⟨g,o,none⟩:Addr).add i) v).run P w = .ok () (w.setRow g (cur.setIfInBounds (o + i) v)):=by
   rw [hadd,run_store P w _ v _ (h1 v (by simp)),hcell]
   simp [hfro,setCell_eq_setRow w g (o + i) cur t fz v hg]
  have ih:=z10 P g o t fz n hfz rest (i + 1) (cur.setIfInBounds (o + i) v) (w.setRow g (cur.setIfInBounds (o + i) v)) (by simp [hn]) (setRow_heap w g cur _ t _ hg) (by simp at hl ⊢; omega) (fun x hx=>h1 x (by simp [hx]))
  simp only [storeCells,Sem.run_bind,hst,Result.andThen_ok,ih,setRow_setRow]
  congr 3
  have e:=list_seg_step cur.toList (o + i) v rest (by simp at hl ⊢; omega)
  simpa [Array.toList_setIfInBounds,Nat.add_assoc] using e
theorem Rel.store (hR:Rel E w) {r:Nat} {tb:TypeId × Nat} {cs new:List V} {us:List Value} (hr:E.H r = some (.cells tb cs)) {off:Nat} (hle:off + new.length≤cs.length) (hn:Vrs E w new us) (h1:oks new = true) :
  ∃ vs fr,w.heap[(E.μ r).1]? = some (.cells vs tb.1 fr)∧Unf fr vs.size∧(E.μ r).2 + cs.length≤vs.size∧(∀ u,u ∈ us->u.oneCell' = true) ∧
   Rel { E with H:=upd E.H r (some (.cells tb (setC off new cs))) } (w.setRow (E.μ r).1 (vs.toList.take ((E.μ r).2 + off) ++ us ++ vs.toList.drop ((E.μ r).2 + off + us.length)).toArray) ∧
   Step E w { E with H:=upd E.H r (some (.cells tb (setC off new cs))) } (w.setRow (E.μ r).1 (vs.toList.take ((E.μ r).2 + off) ++ us ++ vs.toList.drop ((E.μ r).2 + off + us.length)).toArray):=by
 obtain ⟨ob,g1,g2⟩:=hR.obj r _ hr
 cases ob <;> try exact g2.elim
 rename_i vs ty fr
 obtain ⟨hfr,⟨h4,h41,rfl,h42,h43⟩,h5⟩:=g2
 have hul:us.length = new.length:=hn.len.symm
 refine ⟨vs,fr,g1,hfr,h4,fun u hu=>?_,?_⟩
 ·obtain ⟨j,hj⟩:=List.mem_iff_getElem?.1 hu
  have hjl:=(List.getElem?_eq_some_iff.1 hj).1
  have hc:new[j]? = some (new[j]'(by omega)):=List.getElem?_eq_getElem _
  exact (hn.at_ j _ u hc hj).oneCell (List.all_eq_true.1 h1 _ (List.mem_of_getElem? hc))
 obtain ⟨vs',hvs⟩:∃ vs',(vs.toList.take ((E.μ r).2 + off) ++ us ++ vs.toList.drop ((E.μ r).2 + off + us.length)).toArray = vs':=⟨_,rfl⟩
 rw [hvs]
 have hlt:(vs.toList.take ((E.μ r).2 + off)).length = (E.μ r).2 + off:=by rw [List.length_take,Array.length_toList]; omega
 have hsz:vs'.size = vs.size:=by rw [← hvs]; simp; omega
 have hget:∀ q,vs'[q]? = if q < (E.μ r).2 + off then vs[q]? else if q < (E.μ r).2 + off + us.length then us[q - ((E.μ r).2 + off)]? else vs[q]?:=by
  intro q
  rw [← hvs,List.getElem?_toArray]
  by_cases a1:q < (E.μ r).2 + off
  ·rw [if_pos a1,List.append_assoc,List.getElem?_append_left (by omega),List.getElem?_take,if_pos a1,Array.getElem?_toList]
  ·rw [if_neg a1]
   by_cases a2:q < (E.μ r).2 + off + us.length
   ·rw [if_pos a2,List.append_assoc,List.getElem?_append_right (by omega),hlt,List.getElem?_append_left (by omega)]
   ·rw [if_neg a2,List.getElem?_append_right (by rw [List.length_append]; omega),List.length_append,hlt,List.getElem?_drop,Array.getElem?_toList]
    congr 1; omega
 have hgs:(w.setRow (E.μ r).1 vs').heap[(E.μ r).1]? = some (.cells vs' tb.1 fr):=by simp only [World.setRow,Array.getElem?_modify,if_true,g1,Option.map_some]
 refine hR.write hr g1 ⟨rfl,rfl,rfl,by simp [World.setRow],fun k hk=>by simp [World.setRow,Array.getElem?_modify,Ne.symm hk]⟩ hgs (fun a b c e=>by cases e; exact ⟨_,_,_,rfl,hsz⟩) ⟨by rw [hsz]; exact hfr,⟨?_,?_,rfl,h42,fun q=>⟨(h43 q).1,?_⟩⟩,fun j c hc=>?_⟩
 ·simp only [setC,List.length_append,List.length_take,List.length_drop]; omega
 ·simp only [setC,List.length_append,List.length_take,List.length_drop]; intro q; exact h41 (by omega)
 ·have:=(h43 q).2
  simp only [setC,List.length_append,List.length_take,List.length_drop]; omega
 ·unfold setC at hc
  have hl1:(cs.take off).length = off:=by rw [List.length_take]; omega
  rw [hget]
  by_cases a1:j < off
  ·rw [List.append_assoc,List.getElem?_append_left (by omega),List.getElem?_take,if_pos a1] at hc
   rw [if_pos (by omega)]
   exact h5 j c hc
  ·rw [if_neg (by omega)]
   by_cases a2:j < off + new.length
   ·rw [List.append_assoc,List.getElem?_append_right (by omega),hl1,List.getElem?_append_left (by omega)] at hc
    rw [if_pos (by omega),show (E.μ r).2 + j - ((E.μ r).2 + off) = j - off by omega]
    obtain ⟨u,hu,hv⟩:=hn.get hc
    exact ⟨List.all_eq_true.1 h1 _ (List.mem_of_getElem? hc),u,hu,hv⟩
   ·rw [List.getElem?_append_right (by rw [List.length_append]; omega),List.length_append,hl1,List.getElem?_drop,show off + new.length + (j - (off + new.length)) = j by omega] at hc
    rw [if_neg (by omega)]
    exact h5 j c hc
end
end Hm
end Go.Proofs.YtlhblpbfhfhlpaaGreatDoor
end
section
namespace Go.Proofs.YtlhblpbfhfhlpaaGreatDoor
open Go.RowKit
namespace Hm
section
variable {P:Program} {E:Mx} {w:World} {T:Nat->V} {a:Act} {o:Oper} {nx:Nat} {G:Nat->Option Ob}
theorem alloc_out {t:TypeId} {cs:List V} (hR:Rel E w) (hnx:¬ E.U nx) (ho:o.op = .alloc t) (hz:zeroC P t = some cs) (h1:oks cs = true):Out P E w (execOp a.eval o) (.ptr nx 0) [(nx,some (.cells (t,0) cs))] nx (nx + 1):=by
 obtain ⟨i,z,hi,hzz,rfl⟩:=z6z hz
 refine Out.made hR hnx (o:=.cells z.cells t) (u:=.pointer (some ⟨w.heap.size,0,none⟩)) ?_ (ObR.lits rfl h1) (.ptr _ _ _ (.inr rfl) fun _=>by simp [Mx.new,z03])
 simp [execOp,ho,Instr.alloc,zeroValue,typeInfo,hi,hzz,newVar,newRow]
theorem box_out {t:TypeId} {x:Operand} (hR:Rel E w) (hnx:¬ E.U nx) (ho:o.op = .box t x) (hx:Vr E w (opV T x) (a.eval x)) (h1:oks (opV T x).cells = true):Out P E w (execOp a.eval o) (.ptr nx 0) [(nx,some (.cells (t,0) (opV T x).cells))] nx (nx + 1):=by
 refine Out.made hR hnx (o:=.cells (a.eval x).cells t) (u:=.pointer (some ⟨w.heap.size,0,none⟩)) ?_ ?_ (.ptr _ _ _ (.inr rfl) fun _=>by simp [Mx.new,z03])
 ·simp [execOp,ho,Instr.box,newVar,newRow]
 ·have:=ObR.vrs (t:=t) (k:=0) (hx.cells (zhs h1)) h1
  simpa using this
theorem zcf (off:Nat):∀ (l:List Value) (k:Nat) (cs:Array Value),off + k + l.length≤cs.size ->
  ((l.zipIdx k).foldl (fun cs (p:Value × Nat)=>cs.setIfInBounds (off + p.2) p.1) cs).toList = cs.toList.take (off + k) ++ l ++ cs.toList.drop (off + k + l.length)
 | [],k,cs,h=>by simp
 | v :: l,k,cs,h=>by
  simp only [List.zipIdx_cons,List.foldl_cons]
  rw [zcf off l (k + 1) _ (by simp at h ⊢; omega),Array.toList_setIfInBounds]
  have hlt:off + k < cs.toList.length:=by simp at h ⊢; omega
  have e1:(cs.toList.set (off + k) v).take (off + (k + 1)) = cs.toList.take (off + k) ++ [v]:=by
   rw [List.set_eq_take_append_cons_drop,if_pos hlt,List.take_append]
   have:(cs.toList.take (off + k)).length = off + k:=by rw [List.length_take]; omega
   rw [this,List.take_take,Nat.min_eq_right (by omega)]
   rw [show off + (k + 1) - (off + k) = 1 by omega]
   simp
  have e2:(cs.toList.set (off + k) v).drop (off + (k + 1) + l.length) = cs.toList.drop (off + k + (v :: l).length):=by
   rw [List.drop_set_of_lt (by omega)]
   congr 1
   simp; omega
  rw [e1,e2]
  simp
theorem Vrs.setC {cs new:List V} {us ns:List Value} (h:Vrs E w cs us) (k:Vrs E w new ns) (off:Nat):Vrs E w (setC off new cs) (us.take off ++ ns ++ us.drop (off + ns.length)):=by
 unfold Hm.setC
 rw [← k.len]
 exact ((h.take off).append k).append (h.drop _)
theorem z8f {place:Nat->Option (Nat × Nat)}:∀ (ps:List (Nat × Operand)) {cs:List V} {us:Array Value} {cs':List V},(∀ p,p ∈ ps->Vr E w (opV T p.2) (a.eval p.2))->Vrs E w cs us.toList ->
  zik place cs (ps.map fun p=>(p.1,opV T p.2)) = some cs'->∃ us',Instr.fill place us (ps.map fun p=>(p.1,a.eval p.2)) = some us'∧Vrs E w cs' us'.toList
 | [],cs,us,cs',_,h,e=>by
  simp only [List.map_nil,zik,Option.some.injEq] at e
  subst e
  exact ⟨us,rfl,h⟩
 | p :: ps,cs,us,cs',hp,h,e=>by
  simp only [List.map_cons,zik] at e
  split at e
  ·rename_i off size hpl
   split at e
   ·rename_i hc
    rw [Bool.and_eq_true,Bool.and_eq_true,beq_iff_eq,decide_eq_true_eq] at hc
    have hv:=(hp p (by simp)).cells hc.1.1
    have hc:=And.intro hc.1.2 hc.2
    have hvl:(a.eval p.2).cells.size = size:=by have:=hv.len; simp at this; omega
    have hul:us.size = cs.length:=by have:=h.len; simp at this; omega
    have hlay:=zcf off (a.eval p.2).cells.toList 0 us (by simp [hvl]; omega)
    have hfold:((a.eval p.2).cells.zipIdx.foldl (fun cs (q:Value × Nat)=>cs.setIfInBounds (off + q.2) q.1) us) = (((a.eval p.2).cells.toList.zipIdx 0).foldl (fun cs (q:Value × Nat)=>cs.setIfInBounds (off + q.2) q.1) us):=by
     rw [← Array.foldl_toList,Array.toList_zipIdx]
    simp only [List.map_cons,Instr.fill,hpl]
    rw [if_neg (by simp [hvl]; omega)]
    show ∃ us',Instr.fill place ((a.eval p.2).cells.zipIdx.foldl (fun cs (q:Value × Nat)=>cs.setIfInBounds (off + q.2) q.1) us) _ = some us'∧_
    rw [hfold]
    refine z8f ps (fun q hq=>hp q (by simp [hq])) ?_ e
    rw [hlay]
    exact h.setC hv off
   ·cases e
  ·cases e
theorem zhz:∀ {fs:List Field} {pl:List (Nat × Nat)},(fs.mapM fun f=>(z2a P f.type).map fun n=>(f.offset,n)) = some pl->(fs.mapM fun f=>(Prod.mk f.offset <$> sizeOf f.type:Sem (Nat × Nat))).run P w = .ok pl w
 | [],pl,h=>by
  simp at h; subst h; rfl
 | f :: fs,pl,h=>by
  simp only [List.mapM_cons,Option.bind_eq_bind,Option.pure_def] at h
  cases hx:z2a P f.type with
  | none=>rw [hx] at h; cases h
  | some n =>
   rw [hx] at h
   simp only [Option.map_some,Option.bind_some] at h
   cases hl:(fs.mapM fun f=>(z2a P f.type).map fun n=>(f.offset,n)) with
   | none=>rw [hl] at h; cases h
   | some ys =>
    rw [hl] at h
    cases h
    obtain ⟨i,hi,rfl⟩:=z0s hx
    have ih:=zhz hl
    have hs:(sizeOf f.type).run P w = .ok i.size w:=by simp [sizeOf,typeInfo,hi]
    simp only [List.mapM_cons,Sem.run_bind,Sem.run_map,hs,Result.andThen,ih]
    rfl
theorem build_out {t:TypeId} {parts:Array (Nat × Operand)} {v:V} (hR:Rel E w) (ho:o.op = .build t parts) (h:∀ x:Operand,Vr E w (opV T x) (a.eval x)) (e:buildC P T t parts = some v):Out P E w (execOp a.eval o) v [] nx nx:=by
 unfold buildC at e
 have hparts:(parts.map fun (p:Nat × Operand)=>(p.1,a.eval p.2)).toList = parts.toList.map fun p=>(p.1,a.eval p.2):=by simp
 split at e
 ·rename_i zs fs hz hu
  obtain ⟨i,z,hi,hzz,rfl⟩:=z6z hz
  split at e
  ·rename_i pl hpl
   rw [Option.map_eq_some_iff] at e
   obtain ⟨cs,hcs,rfl⟩:=e
   obtain ⟨us,h1,h2⟩:=z8f (a:=a) parts.toList (fun p _=>h p.2) (Vrs.lits z.cells.toList) hcs
   have hm:=zhz (P:=P) (w:=w) hpl
   have hm':(fs.mapM fun f=>(Prod.mk f.offset <$> sizeOf f.type:Sem (Nat × Nat))).run P w = .ok pl.toArray w:=by
    rw [Array.mapM_eq_mapM_toList,Sem.run_map,hm]; rfl
   refine Out.pure hR (u:=.agg us) ?_ (by have:=h2.agg; simpa using this)
   simp only [execOp,ho,Instr.build,Sem.run_bind,zeroValue,typeInfo]
   simp [hi,hzz,run_underlying hu,hm',h1]
  ·cases e
 ·rename_i zs len el hz hu
  obtain ⟨i,z,hi,hzz,rfl⟩:=z6z hz
  split at e
  ·rename_i n hn
   obtain ⟨j,hj,rfl⟩:=z0s hn
   rw [Option.map_eq_some_iff] at e
   obtain ⟨cs,hcs,rfl⟩:=e
   obtain ⟨us,h1,h2⟩:=z8f (a:=a) parts.toList (fun p _=>h p.2) (Vrs.lits z.cells.toList) hcs
   refine Out.pure hR (u:=.agg us) ?_ (by have:=h2.agg; simpa using this)
   simp only [execOp,ho,Instr.build,Sem.run_bind,zeroValue,typeInfo]
   simp [hi,hzz,run_underlying hu,sizeOf,typeInfo,hj,h1]
  ·cases e
 ·cases e
theorem z52 {t:TypeId} {zs:Array Value} (h:zfz P t = some zs):∃ i z,P.info? t = some i∧i.zero = some z∧zs = z.cells:=by
 unfold zfz at h
 rw [Option.map_eq_some_iff] at h
 obtain ⟨z,hz,rfl⟩:=h
 rw [Option.bind_eq_some_iff] at hz
 obtain ⟨i,hi,hz⟩:=hz
 exact ⟨i,z,hi,hz,rfl⟩
theorem z99 {E:Mx} {w:World} {ob:Ob} {vs:Array Value} {t:TypeId} {fr:Nat × Nat} {z len cap:Nat} (hz:0 < z) (hl:len≤cap) (hm:cap≤maxLen) (hs:cap * z = vs.size):Vr (E.new nx w.heap.size 0 ob) (w.alloc (.cells vs t fr)) (.sl nx 0 z len) (.slice (some ⟨w.heap.size,0,none⟩) len cap):=by
 refine .sl _ _ _ _ _ _ (.inr rfl) hz hl hm fun _=>?_
 have e:(E.new nx w.heap.size 0 ob).μ nx = (w.heap.size,0):=z03 _ _ _
 rw [e]
 exact ⟨⟨_,rfl,rfl⟩,fun _=>rfl,vs,t,fr,(Go.MapKept.heap_alloc w _).1,by omega⟩
theorem zcc {n:Nat} (h:n≤1000000000):n≤maxLen:=Nat.le_trans h (by decide)
theorem zbc {t e:TypeId} {len z:Nat} {parts:Array (Nat × Operand)} {zs:Array Value} {cs:List V} (hR:Rel E w) (hnx:¬ E.U nx) (ho:o.op = .buildSlice t len parts) (h:∀ x:Operand,Vr E w (opV T x) (a.eval x)) (ht:P.underlying t = some (.slice e)) (hz:z2a P e = some z) (hzs:zfz P e = some zs)
  (hc:0 < z∧0 < len∧len≤1000000∧len * z≤1000000) (hf:zik (fun i=>some (i * z,z)) (madeC zs (len * z)) (parts.toList.map fun p=>(p.1,opV T p.2)) = some cs) (h1:oks cs = true) (h2:cs.length = len * z) :
  Out P E w (execOp a.eval o) (.sl nx 0 z len) [(nx,some (.cells (e,1) cs))] nx (nx + 1):=by
 obtain ⟨i,zv,hi,hzv,rfl⟩:=z52 hzs
 obtain ⟨j,hj,rfl⟩:=z0s hz
 rw [hi] at hj
 cases hj
 obtain ⟨us,k1,k2⟩:=z8f (a:=a) parts.toList (fun p _=>h p.2) (us:=madeCells zv.cells (len * i.size)) (Vrs.lits (E:=E) (w:=w) _) hf
 have hne:¬ len * i.size = 0:=by
  have:=Nat.mul_pos hc.2.1 hc.1
  omega
 have hsm:¬ 16777216 < len * i.size:=by omega
 refine Out.made hR hnx (o:=.cells us e) (u:=.slice (some ⟨w.heap.size,0,none⟩) len len) ?_ ?_ (z99 hc.1 (Nat.le_refl _) (zcc (by omega)) (by have:=k2.len; simp at this; omega))
 ·have k1':Instr.fill (fun i_1=>some (i_1 * i.size,i.size)) ((Array.range (len * i.size)).map (zv.cells[· % zv.cells.size]!)) (parts.toList.map fun p=>(p.1,a.eval p.2)) = some us:=k1
  simp [execOp,ho,Instr.buildSlice,run_underlying ht,sizeOf,typeInfo,hi,hsm,hne,zeroValue,hzv,newRow,k1']
 ·have:=ObR.vrs (t:=e) (k:=1) k2 h1
  simpa using this
theorem zfo {t e:TypeId} {z:Nat} {parts:Array (Nat × Operand)} (hR:Rel E w) (hnx:¬ E.U nx) (ho:o.op = .buildSlice t 0 parts) (hp:parts = #[]) (ht:P.underlying t = some (.slice e)) (hz:z2a P e = some z) (h0:0 < z):Out P E w (execOp a.eval o) (.sl nx 0 z 0) [(nx,some (.cells (e,1) []))] nx (nx + 1):=by
 subst hp
 obtain ⟨i,hi,rfl⟩:=z0s hz
 refine Out.made hR hnx (o:=.cells #[] e) (u:=.slice (some ⟨w.heap.size,0,none⟩) 0 0) ?_ ⟨.inl rfl,by simp,fun j c hc=>by simp at hc⟩ (z99 h0 (Nat.le_refl _) (by decide) (by simp))
 simp [execOp,ho,Instr.buildSlice,run_underlying ht,sizeOf,typeInfo,hi,newRow,Instr.fill,Array.range_zero']
theorem ze5 {t e:TypeId} {x y:Operand} {n m:Int} {i:TypeInfo} {zs:Array Value} (hR:Rel E w) (hnx:¬ E.U nx) (ho:o.op = .makeSlice t x y) (h:∀ x:Operand,Vr E w (opV T x) (a.eval x)) (ht:P.underlying t = some (.slice e)) (hx:intV (opV T x) = some n) (hy:intV (opV T y) = some m) (hi:P.info? e = some i) (hzs:zfz P e = some zs)
  (hc:0≤n∧n≤m∧m≤1000000∧i.bytes≤1000000∧0 < i.size∧oks (madeC zs (m.toNat * i.size)) = true):Out P E w (execOp a.eval o) (.sl nx 0 i.size n.toNat) [(nx,some (.cells (e,1) (madeC zs (m.toNat * i.size))))] nx (nx + 1):=by
 obtain ⟨j,zv,hj,hzv,rfl⟩:=z52 hzs
 rw [hi] at hj
 cases hj
 obtain ⟨k1,e1⟩:=z4s hx (h x)
 obtain ⟨k2,e2⟩:=z4s hy (h y)
 obtain ⟨c1,c2,c3,c4,c5,c6⟩:=hc
 have hb:(i.bytes:Int) * m≤281474976710656:=by
  have:(i.bytes:Int) * m≤1000000 * 1000000:=Int.mul_le_mul (by omega) c3 (by omega) (by omega)
  omega
 have hrun:=run_make (P:=P) w t e i zv ht hi hzv k1 k2 n m c1 c2 hb (by omega)
 refine Out.made hR hnx (o:=.cells (madeCells zv.cells (m.toNat * i.size)) e) (u:=.slice (some ⟨w.heap.size,0,none⟩) n.toNat m.toNat) ?_ (ObR.lits rfl c6) (z99 c5 (by omega) (zcc (by omega)) (by rw [size_madeCells]))
 simp [execOp,ho,e1,e2,hrun]
theorem zek {s:TypeId} {x:Operand} {f r off n:Nat} {fs:Array Field} {fl:Field} (hR:Rel E w) (ho:o.op = .fieldAddr s x f) (h:Vr E w (.ptr r off) (a.eval x)) (hs:P.underlying s = some (.struct fs)) (hf:fs[f]? = some fl) (hz:z2a P fl.type = some (n + 1)) :
  Out P E w (execOp a.eval o) (.ptr r (off + fl.offset)) [] nx nx:=by
 obtain ⟨ad,hp,hU,hl⟩:=h.ptr_inv
 obtain ⟨i,hi,hi2⟩:=z0s hz
 refine Out.pure hR (u:=.pointer (some (ad.add fl.offset))) ?_ (.ptr _ _ _ hU fun q=>?_)
 ·simp [execOp,ho,hp,Instr.fieldAt,run_underlying hs,hf,Instr.sureAddr,fieldPlace,sizeOf,typeInfo,hi,hi2]
 ·rw [hl q,z4b]; congr 1; omega
theorem z8a {t:TypeId} {agg:Bool} {z off:Nat} {cs:List V} {us:List Value} {v:V} (hv:Vrs E w cs us) (ha:aggT P t = some agg) (hz:z2a P t = some z) (hg:getC agg z off cs = some v):∃ x,(part t us.toArray off).run P w = .ok x w∧Vr E w v x:=by
 obtain ⟨i,hi,rfl⟩:=z0s hz
 have hagg:=zrb (P:=P) ha w
 unfold getC at hg
 cases agg with
 | true =>
  simp only [if_true] at hg
  split at hg
  ·cases hg
   refine ⟨.agg (us.toArray.extract off (off + i.size)),by simp [part,hagg,sizeOf,typeInfo,hi],?_⟩
   have:=((hv.drop off).take i.size).agg
   have e:((us.drop off).take i.size).toArray = us.toArray.extract off (off + i.size):=by
    apply Array.ext'
    simp [List.take_drop,List.extract_eq_take_drop]
   rwa [e] at this
  ·cases hg
 | false =>
  simp only [Bool.false_eq_true,if_false] at hg
  obtain ⟨u,h1,h2⟩:=hv.get hg
  exact ⟨u,by simp [part,hagg,h1],h2⟩
theorem field_out {s:TypeId} {x:Operand} {f z:Nat} {agg:Bool} {fs:Array Field} {fl:Field} {cs:List V} {v:V} (hR:Rel E w) (ho:o.op = .field s x f) (h:Vr E w (.agg cs) (a.eval x)) (hs:P.underlying s = some (.struct fs)) (hf:fs[f]? = some fl) (ha:aggT P fl.type = some agg) (hz:z2a P fl.type = some z) (hg:getC agg z fl.offset cs = some v) :
  Out P E w (execOp a.eval o) v [] nx nx:=by
 obtain ⟨us,hu,hv⟩:=h.agg_inv
 obtain ⟨x',h1,h2⟩:=z8a hv ha hz hg
 refine Out.pure hR (u:=x') ?_ h2
 simp [execOp,ho,hu,Instr.field,run_underlying hs,hf,asAgg,h1]
theorem Vr.sl_inv {r off z len:Nat} {u:Value} (h:Vr E w (.sl r off z len) u):∃ A cap,u = .slice A len cap∧E.U r∧0 < z∧len≤cap∧cap≤maxLen ∧
  ((E.H r).isSome->(∃ a,A = some a∧a.block = (E.μ r).1)∧(0 < cap->A = some ⟨(E.μ r).1,(E.μ r).2 + off,none⟩)∧∃ vs ty fr,w.heap[(E.μ r).1]? = some (.cells vs ty fr)∧(E.μ r).2 + off + cap * z = vs.size):=by
 cases h with
 | sl _ _ _ _ A cap hr hz hl hm h=>exact ⟨A,cap,rfl,hr,hz,hl,hm,h⟩
theorem zea {t e:TypeId} {x y:Operand} {r off z len:Nat} {n:Int} (hR:Rel E w) (ho:o.op = .indexAddr t x y) (h:Vr E w (.sl r off z len) (a.eval x)) (hy:Vr E w (opV T y) (a.eval y)) (ht:P.underlying t = some (.slice e)) (hn:intV (opV T y) = some n) (hz:z2a P e = some z) (hlt:0≤n∧n < len) (hlive:(E.H r).isSome) :
  Out P E w (execOp a.eval o) (.ptr r (off + n.toNat * z)) [] nx nx:=by
 obtain ⟨A,cap,hu,hU,h0,hl,hm,hlv⟩:=h.sl_inv
 obtain ⟨k,ek⟩:=z4s hn hy
 obtain ⟨i,hi,rfl⟩:=z0s hz
 obtain ⟨_,hA,_⟩:=hlv hlive
 have hA:=hA (by omega)
 subst hA
 refine Out.pure hR (u:=.pointer (some ⟨(E.μ r).1,(E.μ r).2 + off + n.toNat * i.size,none⟩)) ?_ (.ptr _ _ _ hU fun q=>by congr 1; omega)
 simp [execOp,ho,hu,ek,Instr.indexAt,asIntOf,run_underlying ht,hlt.1,hlt.2,sizeOf,typeInfo,hi,z4b]
theorem zic {t e:TypeId} {x y:Operand} {r off z len:Nat} {n:Int} (hR:Rel E w) (ho:o.op = .indexAddr t x y) (h:Vr E w (.ptr r off) (a.eval x)) (hy:Vr E w (opV T y) (a.eval y)) (ht:P.underlying t = some (.array len e)) (hn:intV (opV T y) = some n) (hz:z2a P e = some (z + 1)) (hlt:0≤n∧n < len) :
  Out P E w (execOp a.eval o) (.ptr r (off + n.toNat * (z + 1))) [] nx nx:=by
 obtain ⟨ad,hp,hU,hl⟩:=h.ptr_inv
 obtain ⟨k,ek⟩:=z4s hn hy
 obtain ⟨i,hi,hi2⟩:=z0s hz
 refine Out.pure hR (u:=.pointer (some (ad.add (n.toNat * (z + 1))))) ?_ (.ptr _ _ _ hU fun q=>?_)
 ·simp [execOp,ho,hp,ek,Instr.indexAt,Instr.sureAddr,asIntOf,run_underlying ht,hlt.1,hlt.2,sizeOf,typeInfo,hi,hi2]
 ·rw [hl q,z4b]; congr 1; omega
theorem slice_out {t e:TypeId} {x:Operand} {lo hi:Option Operand} {r off z len l h':Nat} (hR:Rel E w) (ho:o.op = .slice t x lo hi none) (h:Vr E w (.sl r off z len) (a.eval x)) (hv:∀ x:Operand,Vr E w (opV T x) (a.eval x)) (ht:P.underlying t = some (.slice e))
  (hl:zaw (lo.map (opV T)) 0 = some l) (hh:zaw (hi.map (opV T)) len = some h') (hc:z2a P e = some z∧l≤h'∧h'≤len):Out P E w (execOp a.eval o) (.sl r (off + l * z) z (h' - l)) [] nx nx:=by
 obtain ⟨A,cap,hu,hU,h0,hlc,hm,hlv⟩:=h.sl_inv
 obtain ⟨i,hi',rfl⟩:=z0s hc.1
 have hb:∀ (y:Option Operand) (d m:Nat),zaw (y.map (opV T)) d = some m->(y = none∧m = d)∨∃ z k,y = some z∧a.eval z = .int k (m:Int):=by
  intro y d m hy
  cases y with
  | none=>left; simp [zaw] at hy; exact ⟨rfl,hy.symm⟩
  | some y =>
   right
   simp only [Option.map_some,zaw] at hy
   split at hy
   ·rename_i n hn
    split at hy
    ·rename_i hn0
     cases hy
     obtain ⟨k,ek⟩:=z4s hn (hv y)
     exact ⟨y,k,rfl,by rw [ek,Int.toNat_of_nonneg hn0]⟩
    ·cases hy
   ·cases hy
 have hb1:=hb lo 0 l hl
 have hb2:=hb hi len h' hh
 have hle:h'≤cap:=by omega
 have hs:(Instr.sliceBounds true len cap (lo.map a.eval) (hi.map a.eval) none).run P w = .ok (l,h',cap) w:=by
  rcases hb1 with ⟨rfl,rfl⟩ | ⟨y1,k1,rfl,e1⟩ <;> rcases hb2 with ⟨rfl,rfl⟩ | ⟨y2,k2,rfl,e2⟩ <;>
   simp [Instr.sliceBounds,Instr.sliceBound,asIntOf, *] <;> omega
 refine Out.pure hR (u:=.slice (if cap = l then A else A.map (·.add (l * i.size))) (h' - l) (cap - l)) ?_ (.sl _ _ _ _ _ _ hU h0 (by omega) (by omega) fun q=>?_)
 ·simp [execOp,ho,hu,Instr.sliceAt,Instr.slice,run_underlying ht,hs,sizeOf,typeInfo,hi']
 ·obtain ⟨⟨ad,hA,hbk⟩,hA2,vs,ty,fr,h3,h4⟩:=hlv q
  refine ⟨?_,fun hpos=>?_,vs,ty,fr,h3,?_⟩
  ·split
   ·exact ⟨ad,hA,hbk⟩
   ·refine ⟨ad.add (l * i.size),by rw [hA]; rfl,?_⟩
    unfold Addr.add
    split <;> exact hbk
  ·rw [if_neg (by omega),hA2 (by omega)]
   simp only [Option.map_some,z4b]
   congr 2; omega
  ·rw [Nat.sub_mul,← h4]
   have:l * i.size≤cap * i.size:=Nat.mul_le_mul_right _ (by omega)
   omega
theorem run_guard {op:BinOp} {t:TypeId} {x y:Operand} {u v:Value} (h1:∀ cs,u ≠ .agg cs) (h2:u ≠ .nilIface∨v ≠ .nilIface):(eqGuard op t x y u v).run P w = .ok () w:=by
 unfold eqGuard
 cases u <;> cases v <;> first | (exact absurd rfl (h1 _)) | (cases op <;> rfl) | (rcases h2 with h2 | h2 <;> exact absurd rfl h2)
def eqlB:BinOp->Bool->Bool
 | .eql,b=>b
 | _,b=>!b
theorem eq_out {t:TypeId} {op:BinOp} {x y:Operand} {yt:TypeId} {b:Bool} (hR:Rel E w) (hop:op = .eql∨op = .neq) (ho:o.op = .binOp op t x y yt) (h:∀ x:Operand,Vr E w (opV T x) (a.eval x)) (hG:∀ r ob,G r = some ob->E.H r = some ob) (he:eqA P G (P.underlying t) (opV T x) (opV T y) = some b) :
  Out P E w (execOp a.eval o) (.lit (.bool (eqlB op b))) [] nx nx:=by
 have hx:=h x
 have hy:=h y
 have fin:(∀ cs,a.eval x ≠ .agg cs)->(a.eval x ≠ .nilIface∨a.eval y ≠ .nilIface)->(∀ d,(Op.equalIn (d + 1) t (a.eval x) (a.eval y)).run P w = .ok b w)->(∀ k n,a.eval x ≠ .int k n)->(∀ k n,a.eval x ≠ .float k n)->(∀ k n m,a.eval x ≠ .complex k n m)->(∀ s,a.eval x ≠ .string s) ->
   Out P E w (execOp a.eval o) (.lit (.bool (eqlB op b))) [] nx nx:=by
  intro g1 g2 g3' g4 g5 g6 g7
  have g3:(Op.equal t (a.eval x) (a.eval y)).run P w = .ok b w:=g3' 9999
  clear g3'
  refine Out.pure hR (u:=.bool (eqlB op b)) ?_ (.lit _)
  have gd:=run_guard (P:=P) (w:=w) (op:=op) (t:=t) (x:=x) (y:=y) g1 g2
  generalize hu:a.eval x = u at g1 g2 g3 g4 g5 g6 g7 gd
  generalize hv:a.eval y = v at g2 g3 gd
  rcases hop with rfl | rfl
  ·cases u <;> first
    | exact absurd rfl (g4 _ _) | exact absurd rfl (g5 _ _) | exact absurd rfl (g6 _ _ _) | exact absurd rfl (g7 _) | exact absurd rfl (g1 _)
    | simp [execOp,ho,hu,hv,gd,binOp,g3,eqlB]
  ·cases u <;> first
    | exact absurd rfl (g4 _ _) | exact absurd rfl (g5 _ _) | exact absurd rfl (g6 _ _ _) | exact absurd rfl (g7 _) | exact absurd rfl (g1 _)
    | simp [execOp,ho,hu,hv,gd,binOp,g3,eqlB]
 unfold eqA at he
 split at he
 ·rename_i el r1 o1 ht e1 e2
  rw [e1] at hx; rw [e2] at hy
  obtain ⟨ad,hp,_⟩:=hx.ptr_inv
  have hq:=hy.lit_inv
  cases he
  exact fin (by simp [hp]) (by simp [hp]) (fun d=>by simp [hp,hq,Op.equalIn,run_underlying ht]) (by simp [hp]) (by simp [hp]) (by simp [hp]) (by simp [hp])
 ·rename_i el r1 o1 ht e1 e2
  rw [e1] at hx; rw [e2] at hy
  obtain ⟨ad,hp,_⟩:=hy.ptr_inv
  have hq:=hx.lit_inv
  cases he
  exact fin (by simp [hq]) (by simp [hq]) (fun d=>by simp [hp,hq,Op.equalIn,run_underlying ht]) (by simp [hq]) (by simp [hq]) (by simp [hq]) (by simp [hq])
 ·rename_i el r1 o1 z1 n1 n2 n3 ht e1 e2
  rw [e1] at hx; rw [e2] at hy
  split at he
  ·rename_i ob hob
   cases he
   obtain ⟨A,cap,hp,_,_,_,_,hl⟩:=hx.sl_inv
   obtain ⟨⟨ad,hA,_⟩,_⟩:=hl (by rw [hG r1 ob hob]; rfl)
   subst hA
   have hq:=hy.lit_inv
   exact fin (by simp [hp]) (by simp [hp]) (fun d=>by simp [hp,hq,Op.equalIn,run_underlying ht]) (by simp [hp]) (by simp [hp]) (by simp [hp]) (by simp [hp])
  ·cases he
 ·rename_i el n1 n2 r1 o1 z1 n3 ht e1 e2
  rw [e1] at hx; rw [e2] at hy
  split at he
  ·rename_i ob hob
   cases he
   obtain ⟨A,cap,hp,_,_,_,_,hl⟩:=hy.sl_inv
   obtain ⟨⟨ad,hA,_⟩,_⟩:=hl (by rw [hG r1 ob hob]; rfl)
   subst hA
   have hq:=hx.lit_inv
   exact fin (by simp [hq]) (by simp [hq]) (fun d=>by simp [hp,hq,Op.equalIn,run_underlying ht]) (by simp [hq]) (by simp [hq]) (by simp [hq]) (by simp [hq])
  ·cases he
 ·rename_i k1 k2 r1 ht e1 e2
  rw [e1] at hx; rw [e2] at hy
  cases he
  have hq:=hy.lit_inv
  generalize hp:a.eval x = u at hx fin
  cases hx
  exact fin (by simp) (by simp) (fun d=>by simp [hq,Op.equalIn,run_underlying ht]) (by simp) (by simp) (by simp) (by simp)
 ·rename_i k1 k2 r1 ht e1 e2
  rw [e1] at hx; rw [e2] at hy
  cases he
  have hq:=hx.lit_inv
  generalize hp:a.eval y = u at hy fin
  cases hy
  exact fin (by simp [hq]) (by simp [hq]) (fun d=>by simp [hq,Op.equalIn,run_underlying ht]) (by simp [hq]) (by simp [hq]) (by simp [hq]) (by simp [hq])
 ·rename_i k1 k2 k3 g b1 b2 ht e1 e2
  rw [e1] at hx; rw [e2] at hy
  cases he
  have hq:=hy.lit_inv
  generalize hp:a.eval x = u at hx fin
  cases hx
  exact fin (by simp) (by simp) (fun d=>by simp [hq,Op.equalIn,run_underlying ht]) (by simp) (by simp) (by simp) (by simp)
 ·rename_i k1 k2 k3 g b1 b2 ht e1 e2
  rw [e1] at hx; rw [e2] at hy
  cases he
  have hq:=hx.lit_inv
  generalize hp:a.eval y = u at hy fin
  cases hy
  exact fin (by simp [hq]) (by simp [hq]) (fun d=>by simp [hq,Op.equalIn,run_underlying ht]) (by simp [hq]) (by simp [hq]) (by simp [hq]) (by simp [hq])
 ·rename_i k1 d1 v1 ht e1 e2
  rw [e1] at hx; rw [e2] at hy
  cases he
  have hq:=hy.lit_inv
  generalize hp:a.eval x = u at hx fin
  cases hx
  exact fin (by simp) (by simp) (fun d=>by simp [hq,Op.equalIn,run_underlying ht]) (by simp) (by simp) (by simp) (by simp)
 ·rename_i k1 d1 v1 ht e1 e2
  rw [e1] at hx; rw [e2] at hy
  cases he
  have hq:=hx.lit_inv
  generalize hp:a.eval y = u at hy fin
  cases hy
  exact fin (by simp [hq]) (by simp) (fun d=>by simp [hq,Op.equalIn,run_underlying ht]) (by simp [hq]) (by simp [hq]) (by simp [hq]) (by simp [hq])
 ·rename_i el r1 o1 r2 o2 ht e1 e2
  rw [e1] at hx; rw [e2] at hy
  split at he
  ·rename_i ta1 cs1 ta2 cs2 z g1 g2 hz
   split at he
   case isFalse=>cases he
   rename_i hoo12
   cases he
   have q1:=hG _ _ g1
   have q2:=hG _ _ g2
   have hp:=hx.ptr_live q1
   have hq:=hy.ptr_live q2
   obtain ⟨ie,hie,hies⟩:=z0s hz
   obtain ⟨ob1,w1,x1⟩:=hR.obj _ _ q1
   obtain ⟨ob2,w2,x2⟩:=hR.obj _ _ q2
   cases ob1 <;> try exact x1.elim
   rename_i vs1 ty1 fr1
   cases ob2 <;> try exact x2.elim
   rename_i vs2 ty2 fr2
   obtain ⟨y1,⟨z1,_,_,z3,_⟩,_⟩:=x1
   obtain ⟨y2,⟨z2,_,_,z4,_⟩,_⟩:=x2
   refine fin (by simp [hp]) (by simp [hp]) ?_ (by simp [hp]) (by simp [hp]) (by simp [hp]) (by simp [hp])
   have hsame:(sameAddr ⟨(E.μ r1).1,(E.μ r1).2 + o1,none⟩ ⟨(E.μ r2).1,(E.μ r2).2 + o2,none⟩).run P w = .ok (decide (r1 = r2) && decide (o1 = o2)) w:=by
    by_cases hrr:r1 = r2
    ·subst hrr
     by_cases hoo:o1 = o2
     ·subst hoo; simp [sameAddr]
     ·simp [sameAddr,hoo]
    ·have hne:((E.μ r1).1 == (E.μ r2).1) = false:=by
      rw [beq_eq_false_iff_ne]
      exact fun q=>hrr (hR.inj _ _ _ _ q1 q2 q)
     have f1:w.frozen? ⟨(E.μ r1).1,(E.μ r1).2 + o1,none⟩ = false:=Unf.no w1 y1 (by omega)
     have f2:w.frozen? ⟨(E.μ r2).1,(E.μ r2).2 + o2,none⟩ = false:=Unf.no w2 y2 (by omega)
     have s1:w.shape? (E.μ r1).1 = some (ty1,vs1.size):=by simp [World.shape?,w1]
     have s2:w.shape? (E.μ r2).1 = some (ty2,vs2.size):=by simp [World.shape?,w2]
     have k1:0 < vs1.size:=by omega
     have k2:0 < vs2.size:=by omega
     have k3:w.frozen? ⟨(E.μ r1).1,vs1.size,none⟩ = false∨w.frozen? ⟨(E.μ r2).1,vs2.size,none⟩ = false:=by
      rcases hoo12.2 with q | q
      ·left
       have:=z3 q
       subst this
       simp [World.frozen?,w1]
      ·right
       have:=z4 q
       subst this
       simp [World.frozen?,w2]
     generalize vs1.size = m1 at *
     generalize vs2.size = m2 at *
     have u1:(frozen ⟨(E.μ r1).1,(E.μ r1).2 + o1,none⟩).run P w = .ok false w:=by show Result.ok (w.frozen? _) w = _; rw [f1]
     have u2:(frozen ⟨(E.μ r2).1,(E.μ r2).2 + o2,none⟩).run P w = .ok false w:=by show Result.ok (w.frozen? _) w = _; rw [f2]
     have v1:(shape (E.μ r1).1).run P w = .ok (some (ty1,m1)) w:=by show Result.ok (w.shape? _) w = _; rw [s1]
     have v2:(shape (E.μ r2).1).run P w = .ok (some (ty2,m2)) w:=by show Result.ok (w.shape? _) w = _; rw [s2]
     obtain ⟨m1',rfl⟩:∃ m,m1 = m + 1:=⟨m1 - 1,by omega⟩
     obtain ⟨m2',rfl⟩:∃ m,m2 = m + 1:=⟨m2 - 1,by omega⟩
     rcases k3 with k3 | k3 <;> simp [sameAddr,hne,u1,u2,noView,viewAt,v1,v2,mayBeOne,stringish,hrr,f1,f2,s1,s2,k3]
   intro d
   simp [hp,hq,Op.equalIn,run_underlying ht,sizeOf,typeInfo,hie,hies,hsame]
  ·cases he
 ·cases he
end
end Hm
end Go.Proofs.YtlhblpbfhfhlpaaGreatDoor
end
