/-
  Part 4 of a proof: AmA, AmB, AmC, AmD, AmE.
-/
import Derived.MapKept
import Derived.Test.YtlhblpbfhfhlpaaGreatDoorSB3
set_option linter.unusedVariables false
set_option linter.unusedSimpArgs false
section
namespace Go.Proofs.YtlhblpbfhfhlpaaGreatDoor
open Go.RowKit
def upd {α:Type} (f:Nat->α) (r:Nat) (x:α):Nat->α:=fun s=>if s = r then x else f s
theorem z03 {α:Type} (f:Nat->α) (r:Nat) (x:α):upd f r x r = x:=if_pos rfl
theorem z04 {α:Type} (f:Nat->α) {r s:Nat} (x:α) (h:s ≠ r):upd f r x s = f s:=if_neg h
inductive AV where
 | und
 | int (k:IntKind) (n:Int)
 | bool (b:Bool)
 | str (s:ByteArray)
 | sl (l:List AV)
 | agg (cs:List AV)
 | tup (vs:List AV)
 | nilp
 | rp (cs:List AV)
 | clo (f:FuncId) (first caps:List AV)
 | ptr (r i f:Nat)
 | rs (r off len:Nat)
 | own (z:Nat) (ty:TypeId) (l:List AV)
 | cst (v:Value)
 | clom (f:FuncId) (r:Nat)
 | mp (r:Nat) (es:List (Int × AV))
 | mv (es:List (Int × AV))
 | vrs (r off len:Nat) (u:Value)
def AV.cells:AV->List AV
 | .agg cs=>cs
 | v=>[v]
def AV.one:AV->Bool
 | .int .. | .bool _ | .str _ | .sl _ | .nilp | .rp _ | .clo .. | .cst _ | .mv _=>true
 | _=>false
structure LiesAt (Pr:Nat->Nat->Prop) (w:World) (l:List AV) (z b off:Nat) (u:Nat->Nat->Value):Prop where
 lt:b < w.heap.size
 len:∀ d,d ∈ l->d.cells.length = z
 at_:∀ i j,i < l.length->j < z->Pr b (off + (i * z + j))∧w.cell? ⟨b,off + (i * z + j),none⟩ = some (u i j)
inductive VR (Pr:Nat->Nat->Prop) (w:World):AV->Value->Prop
 | int (k:IntKind) (n:Int):VR Pr w (.int k n) (.int k n)
 | bool (b:Bool):VR Pr w (.bool b) (.bool b)
 | str (s:ByteArray):VR Pr w (.str s) (.string s)
 | sl (l:List AV) (A:Option Addr) (cap z:Nat) (u:Nat->Nat->Value) (hcap:l.length≤cap) (hmax:cap≤maxLen)
   (hA:0 < l.length->∃ b off,A = some ⟨b,off,none⟩∧LiesAt Pr w l z b off u)
   (h:∀ (i:Nat) (d:AV) (j:Nat) (c:AV),l[i]? = some d->d.cells[j]? = some c->VR Pr w c (u i j)):VR Pr w (.sl l) (.slice A l.length cap)
 | agg (cs:List AV) (vs:List Value) (hl:cs.length = vs.length) (h:∀ (j:Nat) (c:AV) (v:Value),cs[j]? = some c->vs[j]? = some v->VR Pr w c v):VR Pr w (.agg cs) (.agg vs.toArray)
 | tup (cs:List AV) (vs:List Value) (hl:cs.length = vs.length) (h:∀ (j:Nat) (c:AV) (v:Value),cs[j]? = some c->vs[j]? = some v->VR Pr w c v):VR Pr w (.tup cs) (.tuple vs.toArray)
 | nilp:VR Pr w .nilp (.pointer none)
 | cst (v:Value) (h1:v.oneCell' = true):VR Pr w (.cst v) v
 | rp (cs:List AV) (b off:Nat) (u:Nat->Value) (hb:b < w.heap.size) (hc:∀ j,j < cs.length->Pr b (off + j)∧w.cell? ⟨b,off + j,none⟩ = some (u j))
   (h:∀ (j:Nat) (c:AV),cs[j]? = some c->VR Pr w c (u j)):VR Pr w (.rp cs) (.pointer (some ⟨b,off,none⟩))
 | clo (f:FuncId) (first caps:List AV) (vf vc:List Value) (hf:first.length = vf.length) (hc:caps.length = vc.length)
   (h1:∀ (j:Nat) (c:AV) (v:Value),first[j]? = some c->vf[j]? = some v->VR Pr w c v) (h2:∀ (j:Nat) (c:AV) (v:Value),caps[j]? = some c->vc[j]? = some v->VR Pr w c v) :
   VR Pr w (.clo f first caps) (.func (.func f) vf.toArray vc.toArray)
 | mv (es:List (Int × AV)) (g:Nat) (ms:Array MapEntry) (c:Nat) (hg:g < w.heap.size) (hp:Pr g 0) (hb:w.heap[g]? = some (.map ms c)) (hl:es.length = ms.size) (hst:Go.MapKept.Stamped ms c)
   (hk:∀ (i:Nat) (e:Int × AV) (m:MapEntry),es[i]? = some e->ms[i]? = some m->m.key = .int .i64 e.1) (hv:∀ (i:Nat) (e:Int × AV) (m:MapEntry),es[i]? = some e->ms[i]? = some m->VR Pr w e.2 m.val) :
   VR Pr w (.mv es) (.map (some g))
structure Kept (Pr Pr':Nat->Nat->Prop) (w w':World):Prop where
 size:w.heap.size≤w'.heap.size
 pr:∀ b o,b < w.heap.size->Pr b o->Pr' b o
 cell:∀ b o,b < w.heap.size->Pr b o->w'.cell? ⟨b,o,none⟩ = w.cell? ⟨b,o,none⟩
 map:∀ b ms c,b < w.heap.size->Pr b 0->w.heap[b]? = some (.map ms c)->w'.heap[b]? = some (.map ms c)
theorem VR.kept {Pr Pr':Nat->Nat->Prop} {w w':World} (k:Kept Pr Pr' w w') {d:AV} {v:Value} (h:VR Pr w d v):VR Pr' w' d v:=by
 induction h with
 | int k n=>exact .int k n
 | bool b=>exact .bool b
 | str s=>exact .str s
 | sl l A cap z u hcap hmax hA h ih =>
  refine .sl l A cap z u hcap hmax (fun h0=>?_) ih
  obtain ⟨b,off,e,hL⟩:=hA h0
  refine ⟨b,off,e,⟨Nat.lt_of_lt_of_le hL.lt k.size,hL.len,fun i j hi hj=>?_⟩⟩
  obtain ⟨h1,h2⟩:=hL.at_ i j hi hj
  exact ⟨k.pr _ _ hL.lt h1,by rw [k.cell _ _ hL.lt h1]; exact h2⟩
 | agg cs vs hl h ih=>exact .agg cs vs hl ih
 | tup cs vs hl h ih=>exact .tup cs vs hl ih
 | nilp=>exact .nilp
 | cst v h1=>exact .cst v h1
 | rp cs b off u hb hc h ih =>
  exact .rp cs b off u (Nat.lt_of_lt_of_le hb k.size) (fun j hj=>⟨k.pr _ _ hb (hc j hj).1,by rw [k.cell _ _ hb (hc j hj).1]; exact (hc j hj).2⟩) ih
 | clo f first caps vf vc hf hc h1 h2 ih1 ih2=>exact .clo f first caps vf vc hf hc ih1 ih2
 | mv es g ms c hg hp hb hl hst hk hv ih=>exact .mv es g ms c (Nat.lt_of_lt_of_le hg k.size) (k.pr _ _ hg hp) (k.map g ms c hg hp hb) hl hst hk ih
theorem VR.oneCell {Pr:Nat->Nat->Prop} {w:World} {d:AV} {v:Value} (h:VR Pr w d v) (h1:d.one = true):v.oneCell' = true:=by
 cases h <;> first | rfl | assumption | (simp [AV.one] at h1)
inductive Flat:AV->Prop
 | int (k:IntKind) (n:Int):Flat (.int k n)
 | bool (b:Bool):Flat (.bool b)
 | str (s:ByteArray):Flat (.str s)
 | nilp:Flat .nilp
 | cst (v:Value):Flat (.cst v)
 | agg (cs:List AV) (h:∀ c,c ∈ cs->Flat c):Flat (.agg cs)
 | tup (cs:List AV) (h:∀ c,c ∈ cs->Flat c):Flat (.tup cs)
theorem VR.flat {Pr Pr':Nat->Nat->Prop} {w w':World} {d:AV} {v:Value} (h:VR Pr w d v) (hf:Flat d):VR Pr' w' d v:=by
 induction h with
 | int k n=>exact .int k n
 | bool b=>exact .bool b
 | str s=>exact .str s
 | sl=>cases hf
 | agg cs vs hl h ih =>
  cases hf with
  | agg _ hf=>exact .agg cs vs hl fun j c v hc hv=>ih j c v hc hv (hf c (List.mem_of_getElem? hc))
 | tup cs vs hl h ih =>
  cases hf with
  | tup _ hf=>exact .tup cs vs hl fun j c v hc hv=>ih j c v hc hv (hf c (List.mem_of_getElem? hc))
 | nilp=>exact .nilp
 | cst v h1=>exact .cst v h1
 | rp=>cases hf
 | clo=>cases hf
 | mv=>cases hf
structure Arr where
 z:Nat
 ty:TypeId
 cells:List AV
 prot:Nat
structure St where
 T:Nat->AV
 H:Nat->Option Arr
structure Start where
 w:World
 F:AV->Value->Prop
def PrOf (w0:Start) (Pr0:Nat->Nat->Prop) (μ:Nat->Option Nat) (H:Nat->Option Arr) (b o:Nat):Prop :=
 (b < w0.w.heap.size->Pr0 b o)∧∀ r,μ r = some b->∃ arr,H r = some arr∧o < arr.prot * arr.z
structure MapR (Pr:Nat->Nat->Prop) (w:World) (es:List (Int × AV)) (ms:Array MapEntry) (c:Nat):Prop where
 st:Go.MapKept.Stamped ms c
 len:es.length = ms.size
 key:∀ (i:Nat) (e:Int × AV) (m:MapEntry),es[i]? = some e->ms[i]? = some m->m.key = .int .i64 e.1
 val:∀ (i:Nat) (e:Int × AV) (m:MapEntry),es[i]? = some e->ms[i]? = some m->VR Pr w e.2 m.val
theorem MapR.kept {Pr Pr':Nat->Nat->Prop} {w w':World} (k:Kept Pr Pr' w w') {es:List (Int × AV)} {ms:Array MapEntry} {c:Nat} (h:MapR Pr w es ms c):MapR Pr' w' es ms c :=
 ⟨h.st,h.len,h.key,fun i e m h1 h2=>(h.val i e m h1 h2).kept k⟩
def SlAt (v:Value) (g o len cap:Nat):Prop:=v = .slice (some ⟨g,o,none⟩) len cap∨(cap = 0∧0 < o∧∃ o',v = .slice (some ⟨g,o',none⟩) len cap)
theorem SlAt.val {v:Value} {g o len cap:Nat} (h:SlAt v g o len cap):∃ o',v = .slice (some ⟨g,o',none⟩) len cap:=by
 rcases h with h | ⟨_,_,o',h⟩
 ·exact ⟨o,h⟩
 ·exact ⟨o',h⟩
theorem SlAt.exact {v:Value} {g o len cap:Nat} (h:SlAt v g o len cap) (hc:0 < cap):v = .slice (some ⟨g,o,none⟩) len cap:=by
 rcases h with h | ⟨h,_⟩
 ·exact h
 ·omega
theorem SlAt.exact0 {v:Value} {g o len cap:Nat} (h:SlAt v g o len cap) (ho:o = 0):v = .slice (some ⟨g,0,none⟩) len cap:=by
 rcases h with h | ⟨_,h,_⟩
 ·rw [ho] at h; exact h
 ·omega
def TR (Pr:Nat->Nat->Prop) (μ:Nat->Option Nat) (H:Nat->Option Arr) (w:World):AV->Value->Prop
 | .und,_=>True
 | .own ..,_=>False
 | .ptr r i f,v=>∀ arr,H r = some arr->∃ g,μ r = some g∧v = .pointer (some ⟨g,i * arr.z + f,none⟩)
 | .rs r off len,v=>∀ arr,H r = some arr->(μ r = none∧v = .slice none 0 0∧off = 0∧len = 0) ∨
   ∃ g cap cs,μ r = some g∧SlAt v g (off * arr.z) len cap∧w.heap[g]? = some (.cells cs arr.ty (0,0))∧(off + cap) * arr.z = cs.size∧off + len≤arr.cells.length∧len≤cap∧cap≤maxLen
 | .vrs r off len u,_=>∀ arr,H r = some arr->(μ r = none∧u = .slice none 0 0∧off = 0∧len = 0) ∨
   ∃ g cap cs,μ r = some g∧SlAt u g (off * arr.z) len cap∧w.heap[g]? = some (.cells cs arr.ty (0,0))∧(off + cap) * arr.z = cs.size∧off + len≤arr.cells.length∧len≤cap∧cap≤maxLen
 | .clom f r,v=>∀ arr,H r = some arr->∃ g,μ r = some g∧v = .func (.func f) #[] #[.pointer (some ⟨g,0,none⟩)]
 | .mp r es,v=>∀ arr,H r = some arr->∃ g ms c,μ r = some g∧v = .map (some g)∧w.heap[g]? = some (.map ms c)∧MapR Pr w es ms c
 | d,v=>VR Pr w d v
def OR (Pr:Nat->Nat->Prop) (μ:Nat->Option Nat) (w:World) (r:Nat) (arr:Arr):Prop :=
 0 < arr.z∧arr.prot≤arr.cells.length∧(∀ d,d ∈ arr.cells->d.cells.length = arr.z∧∀ c,c ∈ d.cells->c.one = true) ∧
 match μ r with
 | none=>arr.cells = []
 | some g=>(arr.cells = []∧∃ ms c,w.heap[g]? = some (.map ms c))∨∃ cs,w.heap[g]? = some (.cells cs arr.ty (0,0))∧arr.cells.length * arr.z≤cs.size∧
   ∀ (i:Nat) (d:AV) (j:Nat) (c:AV),arr.cells[i]? = some d->d.cells[j]? = some c->∃ u,cs[i * arr.z + j]? = some u∧VR Pr w c u
def AV.name:AV->Option Nat
 | .ptr r _ _=>some r
 | .rs r _ _=>some r
 | .vrs r _ _ _=>some r
 | .clom _ r=>some r
 | .mp r _=>some r
 | _=>none
structure SR (w0:Start) (Pr0:Nat->Nat->Prop) (n:Nat) (μ:Nat->Option Nat) (σ:St) (a:Act) (w:World):Prop where
 below:Below w0.w.heap.size w0.w w
 inj:∀ r r' g,μ r = some g->μ r' = some g->r = r'
 range:∀ r g,μ r = some g->w0.w.heap.size≤g∧g < w.heap.size
 live:∀ r g,μ r = some g->(σ.H r).isSome
 size:a.tmps.size = n
 tmp:∀ t,TR (PrOf w0 Pr0 μ σ.H) μ σ.H w (σ.T t) (a.tmps.getD t undef)
 obj:∀ r arr,σ.H r = some arr->OR (PrOf w0 Pr0 μ σ.H) μ w r arr
 defers:a.defers = []
 glob:Glob w0.w
 small:n≤1000
 frame:∀ d v,w0.F d v->(∀ r,d.name = some r->1000≤r)∧TR (PrOf w0 Pr0 μ σ.H) μ σ.H w d v
theorem Kept.refl (Pr:Nat->Nat->Prop) (w:World):Kept Pr Pr w w:=⟨Nat.le_refl _,fun _ _ _ h=>h,fun _ _ _ _=>rfl,fun _ _ _ _ _ h=>h⟩
theorem TR.kept {Pr Pr':Nat->Nat->Prop} {μ:Nat->Option Nat} {H:Nat->Option Arr} {w w':World} (k:Kept Pr Pr' w w')
  (hh:∀ r g,μ r = some g->∀ cs ty,w.heap[g]? = some (.cells cs ty (0,0))->∃ cs',w'.heap[g]? = some (.cells cs' ty (0,0))∧cs'.size = cs.size) (hm:∀ r g,μ r = some g->∀ ms c,w.heap[g]? = some (.map ms c)->w'.heap[g]? = some (.map ms c)) {d:AV} {v:Value} (h:TR Pr μ H w d v):TR Pr' μ H w' d v:=by
 cases d with
 | und=>trivial
 | own=>exact h
 | ptr r i f=>exact h
 | clom f r=>exact h
 | mp r es =>
  intro arr ha
  obtain ⟨g,ms,c,h1,h2,h3,h4⟩:=h arr ha
  exact ⟨g,ms,c,h1,h2,hm r g h1 ms c h3,h4.kept k⟩
 | rs r off len =>
  intro arr ha
  rcases h arr ha with h | ⟨g,cap,cs,h1,h2,h3,h4,h5⟩
  ·exact .inl h
  ·obtain ⟨cs',e1,e2⟩:=hh r g h1 cs _ h3
   exact .inr ⟨g,cap,cs',h1,h2,e1,by rw [e2]; exact h4,h5⟩
 | vrs r off len u0 =>
  intro arr ha
  rcases h arr ha with h | ⟨g,cap,cs,h1,h2,h3,h4,h5⟩
  ·exact .inl h
  ·obtain ⟨cs',e1,e2⟩:=hh r g h1 cs _ h3
   exact .inr ⟨g,cap,cs',h1,h2,e1,by rw [e2]; exact h4,h5⟩
 | _=>exact VR.kept k h
theorem SR.grow {w0:Start} {Pr0:Nat->Nat->Prop} {n:Nat} {μ:Nat->Option Nat} {σ:St} {a:Act} {w w':World} (h:SR w0 Pr0 n μ σ a w) (hb:Below w.heap.size w w'):SR w0 Pr0 n μ σ a w':=by
 have k:Kept (PrOf w0 Pr0 μ σ.H) (PrOf w0 Pr0 μ σ.H) w w':=⟨hb.size,fun _ _ _ h=>h,fun b o hlt _=>hb.cell (p:=⟨b,o,none⟩) hlt,fun b ms c hlt _ e=>by rw [hb.block b hlt]; exact e⟩
 have hblk:∀ r g,μ r = some g->w'.heap[g]? = w.heap[g]?:=fun r g hr=>hb.block g (h.range r g hr).2
 refine ⟨h.below.trans (hb.mono h.below.size),h.inj,fun r g hr=>⟨(h.range r g hr).1,Nat.lt_of_lt_of_le (h.range r g hr).2 hb.size⟩,h.live,h.size,fun t=>(h.tmp t).kept k (fun r g hr cs ty hc=>⟨cs,by rw [hblk r g hr]; exact hc,rfl⟩) (fun r g hr ms c hc=>by rw [hblk r g hr]; exact hc),fun r arr ha=>?_,h.defers,h.glob,h.small,fun d v hf=>⟨(h.frame d v hf).1,(h.frame d v hf).2.kept k (fun r g hr cs ty hc=>⟨cs,by rw [hblk r g hr]; exact hc,rfl⟩) (fun r g hr ms c hc=>by rw [hblk r g hr]; exact hc)⟩⟩
 obtain ⟨h1,h2,h3,h4⟩:=h.obj r arr ha
 refine ⟨h1,h2,h3,?_⟩
 cases hr:μ r with
 | none=>rw [hr] at h4; exact h4
 | some g =>
  rw [hr] at h4
  rcases h4 with ⟨e0,ms,c,e1⟩ | ⟨cs,e1,e2,e3⟩
  ·exact .inl ⟨e0,ms,c,by rw [hblk r g hr]; exact e1⟩
  exact .inr ⟨cs,by rw [hblk r g hr]; exact e1,e2,fun i d j c hi hj=>let ⟨u,a1,a2⟩:=e3 i d j c hi hj; ⟨u,a1,a2.kept k⟩⟩
theorem SR.drew {w0:Start} {Pr0:Nat->Nat->Prop} {n:Nat} {μ:Nat->Option Nat} {σ:St} {a:Act} {w:World} (h:SR w0 Pr0 n μ σ a w):SR w0 Pr0 n μ σ a { w with drawn:=w.drawn + 1 } :=
 h.grow ⟨rfl,rfl,rfl,Nat.le_refl _,fun _ _=>rfl⟩
def St.set (σ:St) (t:Nat) (v:AV):St:=⟨upd σ.T t v,σ.H⟩
theorem getD_set {l:Array Value} {t s:Nat} {v d:Value} (ht:t < l.size):(l.setIfInBounds t v).getD s d = if s = t then v else l.getD s d:=by
 simp only [Array.getD_eq_getD_getElem?,Array.getElem?_setIfInBounds]
 by_cases h:t = s
 ·subst h; simp [ht]
 ·rw [if_neg h,if_neg (fun e=>h e.symm)]
theorem SR.put {w0:Start} {Pr0:Nat->Nat->Prop} {n:Nat} {μ:Nat->Option Nat} {σ:St} {a:Act} {w:World} (h:SR w0 Pr0 n μ σ a w) {t:Nat} (ht:t < n) {d:AV} {v:Value} (hv:TR (PrOf w0 Pr0 μ σ.H) μ σ.H w d v) :
  SR w0 Pr0 n μ (σ.set t d) (a.put (some t) v) w:=by
 refine ⟨h.below,h.inj,h.range,h.live,?_,fun s=>?_,h.obj,?_,h.glob,h.small,h.frame⟩
 ·show (a.tmps.setIfInBounds t v).size = n
  rw [Array.size_setIfInBounds]; exact h.size
 ·show TR _ _ _ _ (upd σ.T t d s) ((a.tmps.setIfInBounds t v).getD s undef)
  rw [getD_set (by rw [h.size]; exact ht)]
  by_cases e:s = t
  ·rw [e,z03,if_pos rfl]; exact hv
  ·rw [z04 _ _ e,if_neg e]; exact h.tmp s
 ·exact h.defers
theorem SR.forget {w0:Start} {Pr0:Nat->Nat->Prop} {n:Nat} {μ:Nat->Option Nat} {σ:St} {a:Act} {w:World} (h:SR w0 Pr0 n μ σ a w) (T:Nat->AV) (hT:∀ t,T t = σ.T t∨T t = .und):SR w0 Pr0 n μ { σ with T:=T } a w:=by
 refine ⟨h.below,h.inj,h.range,h.live,h.size,fun t=>?_,h.obj,h.defers,h.glob,h.small,h.frame⟩
 rcases hT t with e | e
 ·show TR _ _ _ _ (T t) _; rw [e]; exact h.tmp t
 ·show TR _ _ _ _ (T t) _; rw [e]; trivial
theorem z32 {w:World} {g o:Nat} {cs:Array Value} {ty:TypeId} {fr:Nat × Nat} (h:w.heap[g]? = some (.cells cs ty fr)):w.cell? ⟨g,o,none⟩ = cs[o]?:=by
 simp [World.cell?,h]
theorem z6x {w:World} {g:Nat} {o:Obj} (h:w.heap[g]? = some o):g < w.heap.size:=(Array.getElem?_eq_some_iff.1 h).1
theorem z4t {i j z len:Nat} (hi:i < len) (hj:j < z):i * z + j < len * z:=by
 have:(i + 1) * z≤len * z:=Nat.mul_le_mul_right z hi
 rw [Nat.succ_mul] at this; omega
def keepV (H:Nat->Option Arr):AV->AV
 | .rs r off len=>match H r with
  | some arr=>.sl ((arr.cells.drop off).take len)
  | none=>.und
 | _=>.und
theorem z38 (H:Nat->Option Arr) (v:AV):(keepV H v).name = none:=by
 cases v with
 | rs r off len =>
  simp only [keepV]
  split <;> rfl
 | _=>rfl
theorem SR.keepV {w0:Start} {Pr0:Nat->Nat->Prop} {n:Nat} {μ μ':Nat->Option Nat} {σ:St} {a:Act} {w:World} (h:SR w0 Pr0 n μ σ a w) {r:Nat} {Pr':Nat->Nat->Prop} {H':Nat->Option Arr} (k:Kept (PrOf w0 Pr0 μ σ.H) Pr' w w)
  (hall:∀ g o,μ r = some g->Pr' g o) {d:AV} {v:Value} (hn:d.name = some r) (ht:TR (PrOf w0 Pr0 μ σ.H) μ σ.H w d v):TR Pr' μ' H' w (keepV σ.H d) v:=by
 cases d with
 | rs s off len =>
  cases hn
  cases ha:σ.H r with
  | none=>simp only [Go.Proofs.YtlhblpbfhfhlpaaGreatDoor.keepV,ha]; trivial
  | some arr =>
   simp only [Go.Proofs.YtlhblpbfhfhlpaaGreatDoor.keepV,ha]
   show VR Pr' w (.sl _) v
   rcases ht arr ha with ⟨h1,rfl,rfl,rfl⟩ | ⟨g,cap,cs,h1,h2,h3,h4,h5,h6,h7⟩
   ·rw [List.take_zero]
    exact .sl [] none 0 1 (fun _ _=>undef) (Nat.le_refl 0) (by decide) (fun h=>absurd h (by decide)) (fun i d j c hi=>by simp at hi)
   ·obtain ⟨o1,o2,o3,o4⟩:=h.obj r arr ha
    rw [h1] at o4
    rcases o4 with ⟨_,ms,c,q⟩ | ⟨cs',f1,f2,f3⟩
    ·rw [h3] at q; cases q
    rw [h3] at f1
    cases f1
    obtain ⟨o',hv'⟩:=h2.val
    have hex:0 < len->o' = off * arr.z:=fun h0=>by
     have:=h2.exact (by omega)
     rw [hv'] at this
     simpa using this
    subst hv'
    have hlen:((arr.cells.drop off).take len).length = len:=by rw [List.length_take,List.length_drop]; omega
    have hget:∀ i,i < len->((arr.cells.drop off).take len)[i]? = arr.cells[off + i]?:=fun i hi=>by rw [List.getElem?_take,if_pos hi,List.getElem?_drop]
    have:=VR.sl (Pr:=Pr') (w:=w) ((arr.cells.drop off).take len) (some ⟨g,o',none⟩) cap arr.z (fun i j=>cs.getD ((off + i) * arr.z + j) undef) (by rw [hlen]; exact h6) h7
     (fun h0=>⟨g,off * arr.z,by rw [hex (by rw [hlen] at h0; exact h0)],z6x h3,fun d hd=>(o3 d (List.mem_of_mem_drop (List.mem_of_mem_take hd))).1,fun i j hi hj=>?_⟩)
     (fun i d j c hi hj=>?_)
    ·rw [hlen] at this; exact this
    ·rw [hlen] at hi
     have hlt:(off + i) * arr.z + j < arr.cells.length * arr.z:=z4t (by omega) hj
     have e:off * arr.z + (i * arr.z + j) = (off + i) * arr.z + j:=by rw [Nat.add_mul]; omega
     refine ⟨hall g _ h1,?_⟩
     rw [z32 h3,e,Array.getD_eq_getD_getElem?,Array.getElem?_eq_getElem (by omega)]; rfl
    ·have hil:i < len:=by
      have:=(List.getElem?_eq_some_iff.1 hi).1
      rw [hlen] at this; exact this
     rw [hget i hil] at hi
     obtain ⟨u,q1,q2⟩:=f3 _ d j c hi hj
     rw [Array.getD_eq_getD_getElem?,q1]
     exact q2.kept k
 | _=>trivial
def St.kill (σ:St) (r:Nat):St:=⟨fun t=>if (σ.T t).name = some r then keepV σ.H (σ.T t) else σ.T t,upd σ.H r none⟩
theorem SR.kill {w0:Start} {Pr0:Nat->Nat->Prop} {n:Nat} {μ:Nat->Option Nat} {σ:St} {a:Act} {w:World} (h:SR w0 Pr0 n μ σ a w) (r:Nat) (hr1:r < 1000) :
  SR w0 Pr0 n (upd μ r none) (σ.kill r) a w:=by
 have k:Kept (PrOf w0 Pr0 μ σ.H) (PrOf w0 Pr0 (upd μ r none) (σ.kill r).H) w w:=by
  refine ⟨Nat.le_refl _,fun b o _ hp=>⟨hp.1,fun s hs=>?_⟩,fun _ _ _ _=>rfl,fun _ _ _ _ _ h=>h⟩
  by_cases e:s = r
  ·rw [e,z03] at hs; cases hs
  ·rw [z04 _ _ e] at hs
   show ∃ arr,(upd σ.H r none s) = some arr∧_
   rw [z04 _ _ e]
   exact hp.2 s hs
 have tr:∀ d v,d.name ≠ some r->TR (PrOf w0 Pr0 μ σ.H) μ σ.H w d v->TR (PrOf w0 Pr0 (upd μ r none) (σ.kill r).H) (upd μ r none) (σ.kill r).H w d v:=by
  intro d v e ht
  cases d with
  | und=>trivial
  | own=>exact ht
  | clom f s =>
   have hne:s ≠ r:=fun e'=>e (by rw [e']; rfl)
   intro arr ha
   have ha':(upd σ.H r none s) = some arr:=ha
   rw [z04 _ _ hne] at ha'
   rw [z04 _ _ hne]
   exact ht arr ha'
  | mp s es =>
   have hne:s ≠ r:=fun e'=>e (by rw [e']; rfl)
   intro arr ha
   have ha':(upd σ.H r none s) = some arr:=ha
   rw [z04 _ _ hne] at ha'
   rw [z04 _ _ hne]
   obtain ⟨g,ms,c,q1,q2,q3,q4⟩:=ht arr ha'
   exact ⟨g,ms,c,q1,q2,q3,q4.kept k⟩
  | ptr s i f =>
   have hne:s ≠ r:=fun e'=>e (by rw [e']; rfl)
   intro arr ha
   have ha':(upd σ.H r none s) = some arr:=ha
   rw [z04 _ _ hne] at ha'
   rw [z04 _ _ hne]
   exact ht arr ha'
  | rs s off len =>
   have hne:s ≠ r:=fun e'=>e (by rw [e']; rfl)
   intro arr ha
   have ha':(upd σ.H r none s) = some arr:=ha
   rw [z04 _ _ hne] at ha'
   rw [z04 _ _ hne]
   exact ht arr ha'
  | vrs s off len u0 =>
   have hne:s ≠ r:=fun e'=>e (by rw [e']; rfl)
   intro arr ha
   have ha':(upd σ.H r none s) = some arr:=ha
   rw [z04 _ _ hne] at ha'
   rw [z04 _ _ hne]
   exact ht arr ha'
  | _=>exact VR.kept k ht
 refine ⟨h.below,fun s s' g hs hs'=>?_,fun s g hs=>?_,fun s g hs=>?_,h.size,fun t=>?_,fun s arr ha=>?_,h.defers,h.glob,h.small,fun d v hf=>⟨(h.frame d v hf).1,tr d v (fun e=>by have:=(h.frame d v hf).1 r e; omega) (h.frame d v hf).2⟩⟩
 ·by_cases e:s = r
  ·rw [e,z03] at hs; cases hs
  ·by_cases e':s' = r
   ·rw [e',z03] at hs'; cases hs'
   ·rw [z04 _ _ e] at hs; rw [z04 _ _ e'] at hs'; exact h.inj s s' g hs hs'
 ·by_cases e:s = r
  ·rw [e,z03] at hs; cases hs
  ·rw [z04 _ _ e] at hs; exact h.range s g hs
 ·by_cases e:s = r
  ·rw [e,z03] at hs; cases hs
  ·rw [z04 _ _ e] at hs
   show (upd σ.H r none s).isSome
   rw [z04 _ _ e]; exact h.live s g hs
 ·have ht:=h.tmp t
  show TR _ _ _ _ (if (σ.T t).name = some r then Go.Proofs.YtlhblpbfhfhlpaaGreatDoor.keepV σ.H (σ.T t) else σ.T t) _
  by_cases e:(σ.T t).name = some r
  ·rw [if_pos e]
   refine h.keepV k (fun g o hg=>⟨fun hlt=>absurd hlt (by have:=(h.range r g hg).1; omega),fun s hs=>?_⟩) e ht
   by_cases e2:s = r
   ·rw [e2,z03] at hs; cases hs
   ·rw [z04 _ _ e2] at hs; exact absurd (h.inj s r g hs hg) e2
  ·rw [if_neg e]; exact tr _ _ e ht
 ·have ha':(upd σ.H r none s) = some arr:=ha
  by_cases e:s = r
  ·rw [e,z03] at ha'; cases ha'
  ·rw [z04 _ _ e] at ha'
   obtain ⟨h1,h2,h3,h4⟩:=h.obj s arr ha'
   refine ⟨h1,h2,h3,?_⟩
   rw [z04 _ _ e]
   cases hr:μ s with
   | none=>rw [hr] at h4; exact h4
   | some g =>
    rw [hr] at h4
    rcases h4 with h4 | ⟨cs,e1,e2,e3⟩
    ·exact .inl h4
    exact .inr ⟨cs,e1,e2,fun i d j c hi hj=>let ⟨u,a1,a2⟩:=e3 i d j c hi hj; ⟨u,a1,a2.kept k⟩⟩
def Arr.freeze (a:Arr):Arr:={ a with prot:=a.cells.length }
def St.fz (σ:St) (r:Nat):St:=⟨σ.T,upd σ.H r ((σ.H r).map Arr.freeze)⟩
theorem SR.fz {w0:Start} {Pr0:Nat->Nat->Prop} {n:Nat} {μ:Nat->Option Nat} {σ:St} {a:Act} {w:World} (h:SR w0 Pr0 n μ σ a w) (r:Nat) :
  SR w0 Pr0 n μ (σ.fz r) a w:=by
 have hH:∀ s arr,(σ.fz r).H s = some arr->∃ arr0,σ.H s = some arr0∧arr.z = arr0.z∧arr.ty = arr0.ty∧arr.cells = arr0.cells∧(arr.prot = arr0.prot∨arr.prot = arr0.cells.length):=by
  intro s arr ha
  have ha':(upd σ.H r ((σ.H r).map Arr.freeze) s) = some arr:=ha
  by_cases e:s = r
  ·subst e
   rw [z03] at ha'
   cases hs:σ.H s with
   | none=>rw [hs] at ha'; cases ha'
   | some a0=>rw [hs] at ha'; cases ha'; exact ⟨a0,rfl,rfl,rfl,rfl,.inr rfl⟩
  ·rw [z04 _ _ e] at ha'; exact ⟨arr,ha',rfl,rfl,rfl,.inl rfl⟩
 have k:Kept (PrOf w0 Pr0 μ σ.H) (PrOf w0 Pr0 μ (σ.fz r).H) w w:=by
  refine ⟨Nat.le_refl _,fun b o _ hp=>⟨hp.1,fun s hs=>?_⟩,fun _ _ _ _=>rfl,fun _ _ _ _ _ h=>h⟩
  obtain ⟨arr,h1,h2⟩:=hp.2 s hs
  show ∃ arr,(upd σ.H r ((σ.H r).map Arr.freeze) s) = some arr∧_
  by_cases e:s = r
  ·subst e
   rw [z03,h1]
   exact ⟨arr.freeze,rfl,Nat.lt_of_lt_of_le h2 (Nat.mul_le_mul_right _ (h.obj s arr h1).2.1)⟩
  ·rw [z04 _ _ e]; exact ⟨arr,h1,h2⟩
 have tr:∀ d v,TR (PrOf w0 Pr0 μ σ.H) μ σ.H w d v->TR (PrOf w0 Pr0 μ (σ.fz r).H) μ (σ.fz r).H w d v:=by
  intro d v ht
  cases d with
  | und=>trivial
  | own=>exact ht
  | clom f s =>
   intro arr ha
   obtain ⟨a0,e0,e1,e2,e3,_⟩:=hH s arr ha
   exact ht a0 e0
  | mp s es =>
   intro arr ha
   obtain ⟨a0,e0,e1,e2,e3,_⟩:=hH s arr ha
   obtain ⟨g,ms,c,q1,q2,q3,q4⟩:=ht a0 e0
   exact ⟨g,ms,c,q1,q2,q3,q4.kept k⟩
  | ptr s i f =>
   intro arr ha
   obtain ⟨a0,e0,e1,e2,e3,_⟩:=hH s arr ha
   rw [e1]; exact ht a0 e0
  | rs s off len =>
   intro arr ha
   obtain ⟨a0,e0,e1,e2,e3,_⟩:=hH s arr ha
   rw [e1,e2,e3]; exact ht a0 e0
  | vrs s off len u0 =>
   intro arr ha
   obtain ⟨a0,e0,e1,e2,e3,_⟩:=hH s arr ha
   rw [e1,e2,e3]; exact ht a0 e0
  | _=>exact VR.kept k ht
 refine ⟨h.below,h.inj,h.range,fun s g hs=>?_,h.size,fun t=>tr _ _ (h.tmp t),fun s arr ha=>?_,h.defers,h.glob,h.small,fun d v hf=>⟨(h.frame d v hf).1,tr d v (h.frame d v hf).2⟩⟩
 ·show (upd σ.H r ((σ.H r).map Arr.freeze) s).isSome
  have:=h.live s g hs
  by_cases e:s = r
  ·subst e; rw [z03,Option.isSome_map]; exact this
  ·rw [z04 _ _ e]; exact this
 ·obtain ⟨a0,e0,e1,e2,e3,e4⟩:=hH s arr ha
  obtain ⟨h1,h2,h3,h4⟩:=h.obj s a0 e0
  refine ⟨by rw [e1]; exact h1,?_,by rw [e3,e1]; exact h3,?_⟩
  ·rw [e3]; rcases e4 with e | e <;> rw [e]
   ·exact h2
   ·exact Nat.le_refl _
  ·cases hr:μ s with
   | none=>rw [hr] at h4; rw [e3]; exact h4
   | some g =>
    rw [hr] at h4
    rcases h4 with ⟨f0,ms,c,f1⟩ | ⟨cs,f1,f2,f3⟩
    ·exact .inl ⟨by rw [e3]; exact f0,ms,c,f1⟩
    refine .inr ⟨cs,by rw [e2]; exact f1,by rw [e3,e1]; exact f2,fun i d j c hi hj=>?_⟩
    rw [e3] at hi
    obtain ⟨u,a1,a2⟩:=f3 i d j c hi hj
    exact ⟨u,by rw [e1]; exact a1,a2.kept k⟩
end Go.Proofs.YtlhblpbfhfhlpaaGreatDoor
end
section
namespace Go.Proofs.YtlhblpbfhfhlpaaGreatDoor
open Go.RowKit
inductive IOpd where
 | t (n:Nat)
 | c (v:AV)
def St.get (σ:St):IOpd->AV
 | .t n=>σ.T n
 | .c v=>v
def z23:Value->Option AV
 | .int k n=>some (.int k n)
 | .bool b=>some (.bool b)
 | .string s=>some (.str s)
 | .slice none 0 0=>some (.sl [])
 | .pointer none=>some .nilp
 | .nilFunc=>some (.cst .nilFunc)
 | .nilIface=>some (.cst .nilIface)
 | .map none=>some (.cst (.map none))
 | _=>none
def z16 (pv:Bool) (v:Value):Option AV :=
 match v with
 | .slice none 0 0=>some (if pv then .cst (.slice none 0 0) else .sl [])
 | v=>z23 v
def z02:Operand->Option IOpd
 | .tmp t=>some (.t t)
 | .const v=>(z23 v).map .c
 | .func f=>some (.c (.clo f [] []))
 | .global _=>none
theorem TR.of_VR {Pr:Nat->Nat->Prop} {μ:Nat->Option Nat} {H:Nat->Option Arr} {w:World} {d:AV} {v:Value} (h:VR Pr w d v):TR Pr μ H w d v:=by
 cases h with
 | int k n=>exact .int k n
 | bool b=>exact .bool b
 | str s=>exact .str s
 | sl l A cap z u hcap hmax hA h=>exact .sl l A cap z u hcap hmax hA h
 | agg cs vs hl h=>exact .agg cs vs hl h
 | tup cs vs hl h=>exact .tup cs vs hl h
 | nilp=>exact .nilp
 | cst v h1=>exact .cst v h1
 | rp cs b off u hb hc h=>exact .rp cs b off u hb hc h
 | clo f first caps vf vc hf hc h1 h2=>exact .clo f first caps vf vc hf hc h1 h2
 | mv es g ms c hg hp hb hl hst hk hv=>exact .mv es g ms c hg hp hb hl hst hk hv
theorem VR.nilSlice {Pr:Nat->Nat->Prop} {w:World}:VR Pr w (.sl []) (.slice none 0 0) :=
 .sl [] none 0 0 (fun _ _=>undef) (Nat.le_refl _) (Nat.zero_le _) (fun h=>absurd h (by simp)) (fun i d j c h=>by simp at h)
theorem z2q {Pr:Nat->Nat->Prop} {w:World} {v:Value} {d:AV} (h:z23 v = some d):VR Pr w d v:=by
 unfold z23 at h
 split at h <;> cases h
 ·exact .int _ _
 ·exact .bool _
 ·exact .str _
 ·exact VR.nilSlice
 ·exact .nilp
 ·exact .cst _ rfl
 ·exact .cst _ rfl
 ·exact .cst _ rfl
theorem z2z {Pr:Nat->Nat->Prop} {w:World} {pv:Bool} {v:Value} {d:AV} (h:z16 pv v = some d):VR Pr w d v:=by
 unfold z16 at h
 split at h
 ·cases h
  cases pv
  ·exact VR.nilSlice
  ·exact .cst _ rfl
 ·exact z2q h
section
variable {P:Program} {w0:Start} {Pr0:Nat->Nat->Prop} {n:Nat} {μ:Nat->Option Nat} {σ:St} {a:Act} {w:World}
theorem SR.get (h:SR w0 Pr0 n μ σ a w) {x:Operand} {ix:IOpd} (hx:z02 x = some ix):TR (PrOf w0 Pr0 μ σ.H) μ σ.H w (σ.get ix) (a.eval x):=by
 cases x with
 | tmp t =>
  cases hx
  have:=h.tmp t
  simpa [St.get,Act.eval,Array.getD_eq_getD_getElem?] using this
 | const v =>
  simp only [z02,Option.map_eq_some_iff] at hx
  obtain ⟨d,hd,rfl⟩:=hx
  exact TR.of_VR (z2q hd)
 | func f =>
  cases hx
  exact TR.of_VR (.clo f [] [] [] [] rfl rfl (fun j c v h=>by simp at h) (fun j c v h=>by simp at h))
 | global g=>cases hx
end
def St.byval (σ:St) (hid:List Nat):AV->Option (AV × List Nat)
 | .rs r off len=>if hid.contains r then none else match σ.H r with
  | some arr=>some (.sl ((arr.cells.drop off).take len),[r])
  | none=>none
 | .ptr r i f=>if hid.contains r then none else match σ.H r with
  | some arr=>match arr.cells[i]? with
   | some d=>some (.rp (d.cells.drop f),[r])
   | none=>none
  | none=>none
 | .und=>none
 | .own ..=>none
 | .clom ..=>none
 | .mp ..=>none
 | .vrs ..=>none
 | v=>some (v,[])
def St.byvals (σ:St) (hid:List Nat):List AV->Option (List AV × List Nat)
 | []=>some ([],[])
 | v :: l=>match σ.byval hid v with
  | some (d,f)=>match σ.byvals hid l with
   | some (ds,fs)=>some (d :: ds,f ++ fs)
   | none=>none
  | none=>none
def St.fzs (σ:St):List Nat->St
 | []=>σ
 | r :: rs=>(σ.fz r).fzs rs
theorem z4i:∀ (l:List Nat) (σ:St),(σ.fzs l).T = σ.T
 | [],_=>rfl
 | r :: l,σ=>z4i l (σ.fz r)
structure Frozen (a b:Arr):Prop where
 z:b.z = a.z
 ty:b.ty = a.ty
 cells:b.cells = a.cells
 prot:b.prot = a.prot∨b.prot = a.cells.length
theorem Frozen.refl (a:Arr):Frozen a a:=⟨rfl,rfl,rfl,.inl rfl⟩
theorem Frozen.trans {a b c:Arr} (h:Frozen a b) (k:Frozen b c):Frozen a c :=
 ⟨k.z.trans h.z,k.ty.trans h.ty,k.cells.trans h.cells,by rcases k.prot with e | e <;> rw [e] <;> first | exact h.prot | (rw [h.cells]; exact .inr rfl)⟩
theorem fz_H {σ:St} {r s:Nat} {arr:Arr} (h:σ.H s = some arr):∃ arr',(σ.fz r).H s = some arr'∧Frozen arr arr'∧(s = r->arr'.prot = arr.cells.length):=by
 show ∃ arr',upd σ.H r ((σ.H r).map Arr.freeze) s = some arr'∧_
 by_cases e:s = r
 ·subst e
  rw [z03,h]
  exact ⟨_,rfl,⟨rfl,rfl,rfl,.inr rfl⟩,fun _=>rfl⟩
 ·rw [z04 _ _ e]
  exact ⟨arr,h,Frozen.refl _,fun h=>absurd h e⟩
theorem z7j:∀ {l:List Nat} {σ:St} {s:Nat} {arr:Arr},σ.H s = some arr->∃ arr',(σ.fzs l).H s = some arr'∧Frozen arr arr'∧(s ∈ l->arr'.prot = arr.cells.length)
 | [],σ,s,arr,h=>⟨arr,h,Frozen.refl _,fun h=>by simp at h⟩
 | r :: l,σ,s,arr,h=>by
  obtain ⟨a1,h1,h2,h3⟩:=fz_H (r:=r) h
  obtain ⟨a2,k1,k2,k3⟩:=z7j (l:=l) h1
  refine ⟨a2,k1,h2.trans k2,fun hm=>?_⟩
  rcases List.mem_cons.1 hm with e | e
  ·rcases k2.prot with e2 | e2
   ·rw [e2]; exact h3 e
   ·rw [e2,h2.cells]
  ·rw [k3 e,h2.cells]
theorem fz_H_back {σ:St} {r s:Nat} {arr':Arr} (h:(σ.fz r).H s = some arr'):∃ arr,σ.H s = some arr∧Frozen arr arr':=by
 cases hs:σ.H s with
 | some arr =>
  obtain ⟨a1,h1,h2,_⟩:=fz_H (r:=r) hs
  rw [h] at h1; cases h1
  exact ⟨arr,rfl,h2⟩
 | none =>
  have h':upd σ.H r ((σ.H r).map Arr.freeze) s = some arr':=h
  by_cases e:s = r
  ·subst e; rw [z03,hs] at h'; cases h'
  ·rw [z04 _ _ e,hs] at h'; cases h'
theorem SR.fzs {w0:Start} {Pr0:Nat->Nat->Prop} {n:Nat} {μ:Nat->Option Nat} {a:Act} {w:World}:∀ {l:List Nat} {σ:St},SR w0 Pr0 n μ σ a w->SR w0 Pr0 n μ (σ.fzs l) a w
 | [],_,h=>h
 | r :: l,σ,h=>SR.fzs (l:=l) (h.fz r)
section
variable {P:Program} {w0:Start} {Pr0:Nat->Nat->Prop} {n:Nat} {μ:Nat->Option Nat} {σ:St} {a:Act} {w:World}
theorem SR.prOwn (h:SR w0 Pr0 n μ σ a w) {r g o:Nat} {arr:Arr} (hr:μ r = some g) (ha:σ.H r = some arr) (ho:o < arr.prot * arr.z):PrOf w0 Pr0 μ σ.H g o :=
 ⟨fun hlt=>absurd hlt (by have:=(h.range r g hr).1; omega),fun s hs=>by rw [h.inj s r g hs hr]; exact ⟨arr,ha,ho⟩⟩
theorem SR.byval (h:SR w0 Pr0 n μ σ a w) {hid:List Nat} {d d':AV} {v:Value} {f:List Nat} (hd:σ.byval hid d = some (d',f))
  (hv:TR (PrOf w0 Pr0 μ σ.H) μ σ.H w d v) {σ':St} (h':SR w0 Pr0 n μ σ' a w) (hf:∀ s arr,σ.H s = some arr->∃ arr',σ'.H s = some arr'∧Frozen arr arr'∧(s ∈ f->arr'.prot = arr.cells.length)) :
  VR (PrOf w0 Pr0 μ σ'.H) w d' v:=by
 have k:Kept (PrOf w0 Pr0 μ σ.H) (PrOf w0 Pr0 μ σ'.H) w w:=by
  refine ⟨Nat.le_refl _,fun b o _ hp=>⟨hp.1,fun s hs=>?_⟩,fun _ _ _ _=>rfl,fun _ _ _ _ _ h=>h⟩
  obtain ⟨arr,h1,h2⟩:=hp.2 s hs
  obtain ⟨arr',e1,e2,_⟩:=hf s arr h1
  refine ⟨arr',e1,?_⟩
  rw [e2.z]
  rcases e2.prot with e | e <;> rw [e]
  ·exact h2
  ·exact Nat.lt_of_lt_of_le h2 (Nat.mul_le_mul_right _ (h.obj s arr h1).2.1)
 cases d with
 | und=>simp [St.byval] at hd
 | own=>simp [St.byval] at hd
 | clom=>simp [St.byval] at hd
 | mp=>simp [St.byval] at hd
 | vrs=>simp [St.byval] at hd
 | rs r off len =>
  simp only [St.byval] at hd
  split at hd
  ·cases hd
  ·split at hd
   ·rename_i arr ha
    cases hd
    obtain ⟨arr',e1,e2,e3⟩:=hf r arr ha
    have hprot:=e3 (by simp)
    rcases hv arr ha with ⟨h1,rfl,rfl,rfl⟩ | ⟨g,cap,cs,h1,h2,h3,h4,h5,h6,h7⟩
    ·rw [List.take_zero]; exact VR.nilSlice
    ·obtain ⟨o1,o2,o3,o4⟩:=h.obj r arr ha
     rw [h1] at o4
     rcases o4 with ⟨_,ms,c,q⟩ | ⟨cs',f1,f2,f3⟩
     ·rw [h3] at q; cases q
     rw [h3] at f1
     cases f1
     obtain ⟨o',hv'⟩:=h2.val
     have hex:0 < len->o' = off * arr.z:=fun h0=>by
      have:=h2.exact (by omega)
      rw [hv'] at this
      simpa using this
     subst hv'
     have hlen:((arr.cells.drop off).take len).length = len:=by rw [List.length_take,List.length_drop]; omega
     have hget:∀ i,i < len->((arr.cells.drop off).take len)[i]? = arr.cells[off + i]?:=fun i hi=>by rw [List.getElem?_take,if_pos hi,List.getElem?_drop]
     have:=VR.sl (Pr:=PrOf w0 Pr0 μ σ'.H) (w:=w) ((arr.cells.drop off).take len) (some ⟨g,o',none⟩) cap arr.z (fun i j=>cs.getD ((off + i) * arr.z + j) undef) (by rw [hlen]; exact h6) h7
      (fun h0=>⟨g,off * arr.z,by rw [hex (by rw [hlen] at h0; exact h0)],z6x h3,fun d hd=>(o3 d (List.mem_of_mem_drop (List.mem_of_mem_take hd))).1,fun i j hi hj=>?_⟩)
      (fun i d j c hi hj=>?_)
     ·rw [hlen] at this; exact this
     ·rw [hlen] at hi
      have hlt:(off + i) * arr.z + j < arr.cells.length * arr.z:=z4t (by omega) hj
      have e:off * arr.z + (i * arr.z + j) = (off + i) * arr.z + j:=by rw [Nat.add_mul]; omega
      refine ⟨h'.prOwn h1 e1 (by rw [hprot,e2.z,e]; exact hlt),?_⟩
      rw [z32 h3,e,Array.getD_eq_getD_getElem?,Array.getElem?_eq_getElem (by omega)]; rfl
     ·have hil:i < len:=by
       have:=(List.getElem?_eq_some_iff.1 hi).1
       rw [hlen] at this; exact this
      rw [hget i hil] at hi
      obtain ⟨u,q1,q2⟩:=f3 _ d j c hi hj
      rw [Array.getD_eq_getD_getElem?,q1]
      exact q2.kept k
   ·cases hd
 | ptr r i f' =>
  simp only [St.byval] at hd
  split at hd
  ·cases hd
  ·split at hd
   ·rename_i arr ha
    split at hd
    ·rename_i d0 hi
     cases hd
     obtain ⟨arr',e1,e2,e3⟩:=hf r arr ha
     have hprot:=e3 (by simp)
     obtain ⟨g,h1,rfl⟩:=hv arr ha
     obtain ⟨o1,o2,o3,o4⟩:=h.obj r arr ha
     rw [h1] at o4
     rcases o4 with ⟨q,_⟩ | ⟨cs,f1,f2,f3⟩
     ·rw [q] at hi; simp at hi
     have hil:i < arr.cells.length:=(List.getElem?_eq_some_iff.1 hi).1
     have hdl:=(o3 d0 (List.mem_of_getElem? hi)).1
     refine VR.rp _ g (i * arr.z + f') (fun j=>cs.getD (i * arr.z + (f' + j)) undef) (z6x f1) (fun j hj=>?_) (fun j c hj=>?_)
     ·rw [List.length_drop,hdl] at hj
      have hlt:i * arr.z + (f' + j) < arr.cells.length * arr.z:=z4t hil (by omega)
      rw [Nat.add_assoc]
      refine ⟨h'.prOwn h1 e1 (by rw [hprot,e2.z]; exact hlt),?_⟩
      rw [z32 f1,Array.getD_eq_getD_getElem?,Array.getElem?_eq_getElem (by omega)]; rfl
     ·rw [List.getElem?_drop] at hj
      obtain ⟨u,q1,q2⟩:=f3 i d0 (f' + j) c hi hj
      rw [Array.getD_eq_getD_getElem?,q1]
      exact q2.kept k
    ·cases hd
   ·cases hd
 | _=>cases hd; exact VR.kept k hv
end
end Go.Proofs.YtlhblpbfhfhlpaaGreatDoor
end
section
namespace Go.Proofs.YtlhblpbfhfhlpaaGreatDoor
open Go.RowKit
structure Part where
 off:Nat
 z:Nat
 x:IOpd
inductive IOp where
 | mv (x:IOpd)
 | mvs (x:IOpd)
 | pick (c x y:IOpd)
 | bin (op:BinOp) (x y:IOpd)
 | beq (neq:Bool) (x y:IOpd)
 | feq (neq:Bool) (sh:List (Nat × Nat)) (x y:IOpd)
 | un (op:UnOp) (x:IOpd)
 | ext (i:Nat) (x:IOpd)
 | load (z:Nat) (agg:Bool) (p:IOpd)
 | faddr (off:Nat) (p:IOpd)
 | fld (off z:Nat) (agg:Bool) (x:IOpd)
 | iaddr (z:Nat) (x i:IOpd)
 | iaddrA (len z:Nat) (x i:IOpd)
 | idx (x i:IOpd)
 | idxA (len z:Nat) (agg:Bool) (x i:IOpd)
 | slc (str:Bool) (z:Nat) (x:IOpd) (lo hi:Option IOpd)
 | len (str:Bool) (x:IOpd)
 | mx (isMax:Bool) (x y:IOpd)
 | conv (k:IntKind) (x:IOpd)
 | mkfn (f:FuncId) (first caps:List IOpd)
 | bld (zero:List AV) (parts:List Part)
 | alloc (z:Nat) (ty:TypeId) (zero:AV)
 | box (z:Nat) (ty:TypeId) (x:IOpd)
 | bsl (z:Nat) (ty:TypeId) (xs:List IOpd)
 | mknil (z:Nat) (ty:TypeId)
 | mksl (z:Nat) (ty:TypeId) (bytes:Nat) (zero:AV) (x:IOpd)
 | tobytes (x:IOpd)
 | tostr (x:IOpd)
 | call (f:FuncId) (xs:List IOpd)
 | callv (f:IOpd) (xs:List IOpd)
 | store (z:Nat) (p x:IOpd)
 | append (z:Nat) (ty:TypeId) (bytes:Nat) (x y:IOpd)
 | copy (z:Nat) (x y:IOpd)
 | nileq (neq:Bool) (x:IOpd)
 | loadp (z:Nat) (agg:Bool) (p:IOpd)
 | storep (z:Nat) (p x:IOpd)
def binI (op:BinOp) (k:IntKind) (a b:Int) (K:AV->Prop):Prop :=
 match op with
 | .add=>K (.int k (k.wrap (a + b)))
 | .sub=>K (.int k (k.wrap (a - b)))
 | .mul=>K (.int k (k.wrap (a * b)))
 | .quo=>b ≠ 0∧K (.int k (k.wrap (a.tdiv b)))
 | .rem=>b ≠ 0∧K (.int k (a.tmod b))
 | .and=>K (.int k (k.wrap (BitVec.ofInt k.bits a &&& BitVec.ofInt k.bits b).toNat))
 | .or=>K (.int k (k.wrap (BitVec.ofInt k.bits a ||| BitVec.ofInt k.bits b).toNat))
 | .xor=>K (.int k (k.wrap (BitVec.ofInt k.bits a ^^^ BitVec.ofInt k.bits b).toNat))
 | .andNot=>K (.int k (k.wrap (BitVec.ofInt k.bits a &&& ~~~ BitVec.ofInt k.bits b).toNat))
 | .eql=>K (.bool (a == b))
 | .neq=>K (.bool (a != b))
 | .lss=>K (.bool (decide (a < b)))
 | .leq=>K (.bool (decide (a≤b)))
 | .gtr=>K (.bool (decide (a > b)))
 | .geq=>K (.bool (decide (a ≥ b)))
 | _=>False
def binS (op:BinOp) (x y:ByteArray) (K:AV->Prop):Prop :=
 match op with
 | .add=>x.size + y.size≤9223372036854775807∧K (.str (x ++ y))
 | .eql=>K (.bool (x.toList == y.toList))
 | .neq=>K (.bool (!(x.toList == y.toList)))
 | .lss=>K (.bool (Op.bytesLess x.toList y.toList))
 | .leq=>K (.bool (Op.bytesLess x.toList y.toList || x.toList == y.toList))
 | .gtr=>K (.bool (!(Op.bytesLess x.toList y.toList || x.toList == y.toList)))
 | .geq=>K (.bool (!(Op.bytesLess x.toList y.toList)))
 | _=>False
def mxS (a b:ByteArray):ByteArray:=if Op.bytesLess a.toList b.toList then b else a
def mnS (a b:ByteArray):ByteArray:=if Op.bytesLess a.toList b.toList || a.toList == b.toList then a else b
def z2u (agg:Bool) (z:Nat) (cs:List AV) (K:AV->Prop):Prop :=
 if agg then z≤cs.length∧K (.agg (cs.take z)) else match cs with
  | c :: _=>K c
  | []=>False
def z33 (σ:St) (x:Option IOpd) (d:Nat) (K:Nat->Prop):Prop :=
 match x with
 | none=>K d
 | some x=>match σ.get x with
  | .int _ n=>0≤n∧K n.toNat
  | _=>False
def loK:Option IOpd->Nat
 | none=>0
 | some (.c (.int _ n))=>if (n == 1) = true then 1 else 2
 | some _=>2
def z5c (σ:St) (l:List AV) (r off h:Nat) (K:AV->List Nat->Prop) (lo:Option IOpd):Prop :=
 match loK lo with
 | 0=>K (.rs r off h) []
 | 1=>1≤h∧K (.rs r (off + 1) (h - 1)) []
 | _=>z33 σ lo 0 fun m=>m≤h∧K (.sl ((l.drop (off + m)).take (h - m))) [r]
def zej:List AV->List (Nat × Nat × AV)->Option (List AV)
 | cs,[]=>some cs
 | cs,(off,z,v) :: l=>if v.cells.length = z∧off + z≤cs.length then zej (cs.take off ++ v.cells ++ cs.drop (off + z)) l else none
def z2t (k:Nat):AV->AV->Prop
 | .int a _,.int b _=>k = 0∧a = b
 | .str _,.str _=>k = 1
 | .bool _,.bool _=>k = 2
 | _,_=>False
def zat:AV->AV->Bool
 | .int _ a,.int _ b=>a == b
 | .str a,.str b=>a.toList == b.toList
 | .bool a,.bool b=>a == b
 | _,_=>false
def okF (xs ys:List AV):List (Nat × Nat)->Prop
 | []=>True
 | p :: l=>z2t p.2 (xs.getD p.1 .und) (ys.getD p.1 .und)∧okF xs ys l
def valF (xs ys:List AV):List (Nat × Nat)->Bool
 | []=>true
 | p :: l=>zat (xs.getD p.1 .und) (ys.getD p.1 .und) && valF xs ys l
def vt (r o:Nat):Nat:=1000 + 100 * r + o
def zb5 (σ:St) (t:Nat) (c:AV) (K:AV->Prop):Prop:=match c with
 | .cst u=>match σ.T t with
  | .vrs q off len u'=>u' = u∧K (.rs q off len)
  | _=>K (.cst u)
 | c=>K c
def nilV:Value->AV
 | .slice none 0 0=>.sl []
 | v=>.cst v
def z5l (σ:St) (hid:List Nat):Nat->List AV->(List AV->List Nat->Prop)->Prop
 | _,[],K=>K [] []
 | t,c :: l,K=>match c with
  | .cst u=>match σ.T t with
   | .vrs q off len u'=>u' = u∧hid.contains q = false∧match σ.H q with
    | some a=>z5l σ hid (t + 1) l fun cs fz=>K (.sl ((a.cells.drop off).take len) :: cs) (q :: fz)
    | none=>False
   | _=>z5l σ hid (t + 1) l fun cs fz=>K (nilV u :: cs) fz
  | c=>z5l σ hid (t + 1) l fun cs fz=>K (c :: cs) fz
def z05 (hid:List Nat) (σ:St) (K:AV->List Nat->Prop):IOp->Prop
 | .mv x=>K (σ.get x) []
 | .mvs x=>match σ.get x with
  | .str s=>K (.str s) []
  | _=>False
 | .pick c x y=>match σ.get c with
  | .bool true=>K (σ.get x) []
  | .bool false=>K (σ.get y) []
  | _=>False
 | .bin op x y=>match σ.get x,σ.get y with
  | .int k a,.int k' b=>k = k'∧binI op k a b (fun v=>K v [])
  | .str a,.str b=>binS op a b (fun v=>K v [])
  | _,_=>False
 | .beq neq x y=>match σ.get x,σ.get y with
  | .bool a,.bool b=>K (.bool (if neq then !(a == b) else a == b)) []
  | _,_=>False
 | .feq neq sh x y=>match σ.get x,σ.get y with
  | .agg xs,.agg ys=>okF xs ys sh∧K (.bool (if neq then !(valF xs ys sh) else valF xs ys sh)) []
  | _,_=>False
 | .un op x=>match op,σ.get x with
  | .not,.bool b=>K (.bool (!b)) []
  | .neg,.int k a=>K (.int k (k.wrap (0 - a))) []
  | _,_=>False
 | .ext i x=>match σ.get x with
  | .tup vs=>match vs[i]? with
   | some v=>K v []
   | none=>False
  | _=>False
 | .load z agg p=>match σ.get p with
  | .rp cs=>z2u agg z cs (fun v=>K v [])
  | .ptr r i f=>hid.contains r = false∧match σ.H r with
   | some arr=>match arr.cells[i]? with
    | some d=>z2u agg z (d.cells.drop f) (fun v=>K v [])
    | none=>False
   | none=>False
  | _=>False
 | .faddr off p=>match σ.get p with
  | .rp cs=>K (.rp (cs.drop off)) []
  | .ptr r i f=>hid.contains r = false∧match σ.H r with
   | some _=>K (.ptr r i (f + off)) []
   | none=>False
  | _=>False
 | .fld off z agg x=>match σ.get x with
  | .agg cs=>z2u agg z (cs.drop off) (fun v=>K v [])
  | _=>False
 | .iaddr z x i=>match σ.get i,σ.get x with
  | .int _ n,.sl l=>(0≤n∧n < l.length)∧(l.getD n.toNat .und).cells.length = z∧K (.rp (l.getD n.toNat .und).cells) []
  | .int _ n,.rs r off len=>hid.contains r = false∧(0≤n∧n < len)∧match σ.H r with
   | some arr=>arr.z = z∧K (.ptr r (off + n.toNat) 0) []
   | none=>False
  | _,_=>False
 | .idx x i=>match σ.get i,σ.get x with
  | .int _ n,.str s=>(0≤n∧n < s.size)∧K (.int .u8 (s.data.toList.getD n.toNat 0).toNat) []
  | _,_=>False
 | .idxA len z agg x i=>match σ.get i,σ.get x with
  | .int _ n,.agg cs=>(0≤n∧n < len)∧z2u agg z (cs.drop (n.toNat * z)) (fun v=>K v [])
  | _,_=>False
 | .slc str z x lo hi=>match str,σ.get x with
  | true,.str s=>z = 0∧z33 σ hi s.size fun h=>h≤s.size∧z33 σ lo 0 fun l=>l≤h∧K (.str (s.extract l h)) []
  | false,.sl l=>z33 σ hi l.length fun h=>h≤l.length∧z33 σ lo 0 fun m=>m≤h∧(∀ d ∈ l,d.cells.length = z)∧K (.sl ((l.take h).drop m)) []
  | false,.rs r off len=>hid.contains r = false∧match σ.H r with
   | some arr=>arr.z = z∧z33 σ hi len fun h=>h≤len∧z5c σ arr.cells r off h K lo
   | none=>False
  | true,.sl l=>0 < z∧z33 σ hi l.length fun h=>h≤l.length∧z33 σ lo 0 fun m=>m≤h∧(∀ d ∈ l,d.cells.length = z)∧K (.sl ((l.take h).drop m)) []
  | true,.rs r off len=>0 < z∧hid.contains r = false∧match σ.H r with
   | some arr=>arr.z = z∧z33 σ hi len fun h=>h≤len∧z33 σ lo 0 fun m=>m≤h∧K (.rs r (off + m) (h - m)) []
   | none=>False
  | _,_=>False
 | .len str x=>match str,σ.get x with
  | false,.sl l=>K (.int .i64 l.length) []
  | false,.rs r _ len=>hid.contains r = false∧match σ.H r with
   | some _=>K (.int .i64 len) []
   | none=>False
  | true,.str s=>K (.int .i64 s.size) []
  | _,_=>False
 | .mx isMax x y=>match σ.get x,σ.get y with
  | .int k a,.int _ b=>K (.int k (if isMax then (if b > a then b else a) else (if b < a then b else a))) []
  | .str a,.str b=>K (.str (if isMax then mxS a b else mnS a b)) []
  | _,_=>False
 | .conv k x=>match σ.get x with
  | .int _ n=>K (.int k (k.wrap n)) []
  | _=>False
 | .mkfn f first caps=>match σ.byvals hid (first.map σ.get),σ.byvals hid (caps.map σ.get) with
  | some (vf,f1),some (vc,f2)=>K (.clo f vf vc) (f1 ++ f2)
  | _,_=>False
 | .bld zero parts=>match σ.byvals hid (parts.map fun p=>σ.get p.x) with
  | some (vs,fz)=>match zej zero ((parts.zip vs).map fun q=>(q.1.off,q.1.z,q.2)) with
   | some cs=>K (.agg cs) fz
   | none=>False
  | none=>False
 | .loadp z agg p=>match σ.get p with
  | .rp cs=>z2u agg z cs (fun v=>K v [])
  | .ptr r i f=>hid.contains r = false∧match σ.H r with
   | some arr=>match arr.cells[i]? with
    | some d=>if agg then z≤(d.cells.drop f).length∧z5l σ hid (vt r (i * arr.z + f)) ((d.cells.drop f).take z) (fun cs fz=>K (.agg cs) fz) else match d.cells.drop f with
     | c :: _=>zb5 σ (vt r (i * arr.z + f)) c (fun v=>K v [])
     | []=>False
    | none=>False
   | none=>False
  | _=>False
 | _=>False
def pvTy (P:Program) (t:TypeId):Bool:=match P.underlying t with
 | some (.slice _) | some (.struct _)=>true
 | _=>false
def zi9:TypeDesc->Bool
 | .struct _ | .array _ _=>true
 | _=>false
def tyOf (P:Program) (t:TypeId):Option (Nat × Bool) :=
 match P.info? t,P.underlying t with
 | some i,some d=>some (i.size,zi9 d)
 | _,_=>none
def z1l (P:Program):Nat->TypeId->Option (List (Nat × Nat))
 | 0,_=>none
 | d + 1,t=>match P.underlying t with
  | some (.int _)=>some [(0,0)]
  | some .string=>some [(0,1)]
  | some .bool=>some [(0,2)]
  | some (.struct fs)=>if P.stoodInHeld t then none else fs.toList.foldr (fun f acc=>match acc,P.info? f.type with
    | some l,some i=>if f.name = "_" then none else match z1l P d f.type with
     | some s=>if s.all (fun p=>decide (p.1 < i.size)) then some (s.map (fun p=>(f.offset + p.1,p.2)) ++ l) else none
     | none=>none
    | _,_=>none) (some [])
  | _=>none
def z6y (P:Program) (t:TypeId):Option (List (Nat × Nat)):=match P.underlying t with
 | some (.array m e)=>match P.underlying e,P.info? e with
  | some (.int _),some i=>if i.size = 1 then some ((List.range m).map fun j=>(j,0)) else none
  | _,_=>none
 | _=>none
def z0k:List Operand->Option (List IOpd)
 | []=>some []
 | x :: l=>match z02 x,z0k l with
  | some y,some ys=>some (y :: ys)
  | _,_=>none
def z7o:Option Operand->Option (Option IOpd)
 | none=>some none
 | some x=>(z02 x).map some
def zba (pv:Bool) (P:Program) (op:Op):Option IOp :=
 match op with
 | .move x | .assign x=>(z02 x).map .mv
 | .pick c x y=>match z02 c,z02 x,z02 y with
  | some c,some x,some y=>some (.pick c x y)
  | _,_,_=>none
 | .binOp op t x y _=>match z02 x,z02 y with
  | some x,some y=>match op,P.underlying t with
   | .eql,some .bool=>some (.beq false x y)
   | .neq,some .bool=>some (.beq true x y)
   | .eql,some (.struct _)=>if P.eqGuardType P.depth t then none else (z1l P 8 t).map fun s=>.feq false s x y
   | .neq,some (.struct _)=>if P.eqGuardType P.depth t then none else (z1l P 8 t).map fun s=>.feq true s x y
   | .eql,some (.array _ _)=>if P.eqGuardType P.depth t then none else (z6y P t).map fun s=>.feq false s x y
   | .neq,some (.array _ _)=>if P.eqGuardType P.depth t then none else (z6y P t).map fun s=>.feq true s x y
   | op,_=>some (.bin op x y)
  | _,_=>none
 | .unOp op _ x=>(z02 x).map (.un op)
 | .extract x i=>(z02 x).map (.ext i)
 | .load t x=>match tyOf P t,z02 x with
  | some (z,agg),some x=>if agg || z == 1 then some (if pv && pvTy P t then .loadp z agg x else .load z agg x) else none
  | _,_=>none
 | .fieldAddr s x f=>match P.underlying s,z02 x with
  | some (.struct fs),some x=>match fs[f]? with
   | some fl=>match P.info? fl.type with
    | some i=>if i.size = 0 then none else some (.faddr fl.offset x)
    | none=>none
   | none=>none
  | _,_=>none
 | .field s x f=>match P.underlying s,z02 x with
  | some (.struct fs),some x=>match fs[f]? with
   | some fl=>match tyOf P fl.type with
    | some (z,agg)=>some (.fld fl.offset z agg x)
    | none=>none
   | none=>none
  | _,_=>none
 | .indexAddr t x i=>match P.underlying t,z02 x,z02 i with
  | some (.slice e),some x,some i=>match P.info? e with
   | some j=>if j.size = 0 then none else some (.iaddr j.size x i)
   | none=>none
  | some (.array len e),some x,some (.c (.int .i64 n))=>match P.info? e with
   | some j=>if 0≤n∧n < (len:Int)∧j.size ≠ 0 then some (.faddr (n.toNat * j.size) x) else none
   | none=>none
  | _,_,_=>none
 | .index t x i=>match P.underlying t,z02 x,z02 i with
  | some .string,some x,some i=>some (.idx x i)
  | some (.array len e),some x,some i=>match tyOf P e with
   | some (z,agg)=>some (.idxA len z agg x i)
   | none=>none
  | _,_,_=>none
 | .slice t x lo hi none=>match P.underlying t,z02 x,z7o lo,z7o hi with
  | some .string,some x,some lo,some hi=>some (.slc true 0 x lo hi)
  | some (.slice e),some x,some lo,some hi=>match P.info? e with
   | some j=>if j.size = 0 then none else some (.slc pv j.size x lo hi)
   | none=>none
  | _,_,_,_=>none
 | .convert src dst x=>match P.underlying src,P.underlying dst,z02 x with
  | some (.int _),some (.int k),some x=>some (.conv k x)
  | some .string,some .string,some x=>some (.mvs x)
  | _,_,_=>none
 | .makeFunc (.func f) first caps=>match z0k first.toList,z0k caps.toList with
  | some a,some b=>some (.mkfn f a b)
  | _,_=>none
 | .build t parts=>match P.info? t,P.underlying t with
  | some i,some (.struct fs)=>match i.zero with
   | some (.agg zs)=>match zs.toList.mapM (z16 pv),fs.toList.mapM (fun f=>(P.info? f.type).map fun j=>(f.offset,j.size)) with
    | some zero,some pl=>match parts.toList.mapM (fun p=>match pl[p.1]?,z02 p.2 with
      | some q,some x=>some (⟨q.1,q.2,x⟩:Part)
      | _,_=>none) with
     | some ps=>some (.bld zero ps)
     | none=>none
    | _,_=>none
   | _=>none
  | some i,some (.array len e)=>match i.zero,P.info? e with
   | some (.agg zs),some j=>match zs.toList.mapM (z16 pv) with
    | some zero=>match parts.toList.mapM (fun p=>match ((List.range len).map fun k=>(k * j.size,j.size))[p.1]?,z02 p.2 with
      | some q,some x=>some (⟨q.1,q.2,x⟩:Part)
      | _,_=>none) with
     | some ps=>some (.bld zero ps)
     | none=>none
    | none=>none
   | _,_=>none
  | _,_=>none
 | .call c=>match c.callee,c.args.toList,c.argTypes.toList with
  | .builtin .len,[x],[t]=>match P.underlying t with
   | some .string=>(z02 x).map (.len true)
   | some (.slice _)=>(z02 x).map (.len false)
   | _=>none
  | .builtin .max,[x,y],_=>match z02 x,z02 y with
   | some x,some y=>some (.mx true x y)
   | _,_=>none
  | .builtin .min,[x,y],_=>match z02 x,z02 y with
   | some x,some y=>some (.mx false x y)
   | _,_=>none
  | _,_,_=>none
 | _=>none
end Go.Proofs.YtlhblpbfhfhlpaaGreatDoor
end
section
namespace Go.Proofs.YtlhblpbfhfhlpaaGreatDoor
open Go.RowKit
section
variable {P:Program} {w0:Start} {Pr0:Nat->Nat->Prop} {n:Nat} {μ:Nat->Option Nat} {σ:St} {a:Act} {w:World} {Pr:Nat->Nat->Prop} {H:Nat->Option Arr}
theorem TR.int {k:IntKind} {m:Int} {v:Value} (h:TR Pr μ H w (.int k m) v):v = .int k m:=by cases (show VR Pr w (.int k m) v from h); rfl
theorem TR.bool {b:Bool} {v:Value} (h:TR Pr μ H w (.bool b) v):v = .bool b:=by cases (show VR Pr w (.bool b) v from h); rfl
theorem TR.str {b:ByteArray} {v:Value} (h:TR Pr μ H w (.str b) v):v = .string b:=by cases (show VR Pr w (.str b) v from h); rfl
def Yld (P:Program) (w0:Start) (Pr0:Nat->Nat->Prop) (μ:Nat->Option Nat) (σ:St) (a:Act) (w:World) (o:Oper) (K:AV->List Nat->Prop):Prop :=
 ∃ d fz v,K d fz∧(execOp a.eval o).run P w = .ok (.value v) w∧TR (PrOf w0 Pr0 μ (σ.fzs fz).H) μ (σ.fzs fz).H w d v
theorem Yld.mk0 {o:Oper} {K:AV->List Nat->Prop} {d:AV} {v:Value} (hK:K d []) (hr:(execOp a.eval o).run P w = .ok (.value v) w) (ht:TR (PrOf w0 Pr0 μ σ.H) μ σ.H w d v):Yld P w0 Pr0 μ σ a w o K :=
 ⟨d,[],v,hK,hr,ht⟩
theorem bin_sound {o : Oper} {op : BinOp} {t yt : TypeId} {x y : Operand} {ix iy : IOpd} (ho : o.op = .binOp op t x y yt) (hx : z02 x = some ix) (hy : z02 y = some iy)
    (h : SR w0 Pr0 n μ σ a w) {hid : List Nat} {K : AV → List Nat → Prop} (hE : z05 hid σ K (.bin op ix iy)) : Yld P w0 Pr0 μ σ a w o K := by
  have tx := h.get hx
  have ty := h.get hy
  simp only [z05] at hE
  split at hE
  · rename_i k m k' m' e1 e2
    rw [e1] at tx; rw [e2] at ty
    have vx := tx.int
    have vy := ty.int
    obtain ⟨rfl, hE⟩ := hE
    have hrun : (execOp a.eval o).run P w = ((binOp op t (.int k m) (.int k m')).run P w).andThen fun v w' => .ok (.value v) w' := by
      simp only [execOp, ho, vx, vy]
      cases op <;> simp [eqGuard]
    cases op <;> simp only [binI] at hE <;>
      first
        | exact hE.elim
        | (refine Yld.mk0 hE (by rw [hrun]; simp only [binOp, ne_eq, not_true_eq_false, if_false, Op.intArith, Op.intBits, Op.intCmp]; rfl) (TR.of_VR ?_); first | exact .int _ _ | exact .bool _)
        | (obtain ⟨hb, hE⟩ := hE; refine Yld.mk0 hE (by rw [hrun]; simp [binOp, Op.intDiv, hb]; rfl) (TR.of_VR ?_); exact .int _ _)
  · rename_i s s' e1 e2
    rw [e1] at tx; rw [e2] at ty
    have vx := tx.str
    have vy := ty.str
    have hrun : (execOp a.eval o).run P w = ((binOp op t (.string s) (.string s')).run P w).andThen fun v w' => .ok (.value v) w' := by
      simp only [execOp, ho, vx, vy]
      cases op <;> simp [eqGuard]
    cases op <;> simp only [binS] at hE <;>
      first
        | exact hE.elim
        | (refine Yld.mk0 hE (by rw [hrun]; simp only [binOp, Op.stringOp]; rfl) (TR.of_VR ?_); exact .bool _)
        | (obtain ⟨hb, hE⟩ := hE
           have hb' : ¬ (((s.size + s'.size : Nat) : Int) > IntKind.i64.max) := by show ¬ (_ > (9223372036854775807 : Int)); omega
           refine Yld.mk0 hE (by rw [hrun]; simp only [binOp, Op.stringOp, if_neg hb']; rfl) (TR.of_VR ?_); exact .str _)
  · exact hE.elim
theorem zq7 {o:Oper} {x:Operand} {ix:IOpd} (hr:(execOp a.eval o).run P w = .ok (.value (a.eval x)) w) (hx:z02 x = some ix)
  (h:SR w0 Pr0 n μ σ a w) {hid:List Nat} {K:AV->List Nat->Prop} (hE:z05 hid σ K (.mv ix)):Yld P w0 Pr0 μ σ a w o K :=
 Yld.mk0 hE hr (h.get hx)
theorem pick_sound {o:Oper} {c x y:Operand} {ic ix iy:IOpd} (ho:o.op = .pick c x y) (hc:z02 c = some ic) (hx:z02 x = some ix) (hy:z02 y = some iy)
  (h:SR w0 Pr0 n μ σ a w) {hid:List Nat} {K:AV->List Nat->Prop} (hE:z05 hid σ K (.pick ic ix iy)):Yld P w0 Pr0 μ σ a w o K:=by
 have tc:=h.get hc
 simp only [z05] at hE
 split at hE
 ·rename_i e
  rw [e] at tc
  exact Yld.mk0 hE (by simp [execOp,ho,tc.bool,asBool]) (h.get hx)
 ·rename_i e
  rw [e] at tc
  exact Yld.mk0 hE (by simp [execOp,ho,tc.bool,asBool]) (h.get hy)
 ·exact hE.elim
theorem run_equalIn_bool (d:Nat) {t:TypeId} (ht:P.underlying t = some .bool) (x y:Bool):(Op.equalIn (d + 1) t (.bool x) (.bool y)).run P w = .ok (x == y) w:=by
 simp only [Op.equalIn,Sem.run_bind,run_underlying ht,Result.andThen_ok]
 rfl
theorem zb4 {t:TypeId} (ht:P.underlying t = some .bool) (x y:Bool):(Op.equal t (.bool x) (.bool y)).run P w = .ok (x == y) w:=run_equalIn_bool 9999 ht x y
theorem ziy {o:Oper} {op:BinOp} {neq:Bool} {t yt:TypeId} {x y:Operand} {ix iy:IOpd} (ho:o.op = .binOp op t x y yt) (hop:op = if neq then .neq else .eql) (ht:P.underlying t = some .bool) (hx:z02 x = some ix) (hy:z02 y = some iy)
  (h:SR w0 Pr0 n μ σ a w) {hid:List Nat} {K:AV->List Nat->Prop} (hE:z05 hid σ K (.beq neq ix iy)):Yld P w0 Pr0 μ σ a w o K:=by
 have tx:=h.get hx
 have ty:=h.get hy
 simp only [z05] at hE
 split at hE
 ·rename_i b b' e1 e2
  rw [e1] at tx; rw [e2] at ty
  have vx:=tx.bool
  have vy:=ty.bool
  refine Yld.mk0 hE ?_ (TR.of_VR (.bool _))
  have he:=zb4 (P:=P) (w:=w) ht b b'
  subst hop
  cases neq
  ·simp only [execOp,ho,vx,vy,Bool.false_eq_true,if_false]
   simp [eqGuard,binOp,he]
  ·simp only [execOp,ho,vx,vy,if_true]
   simp [eqGuard,binOp,he]
 ·exact hE.elim
theorem un_sound {o:Oper} {op:UnOp} {t:TypeId} {x:Operand} {ix:IOpd} (ho:o.op = .unOp op t x) (hx:z02 x = some ix)
  (h:SR w0 Pr0 n μ σ a w) {hid:List Nat} {K:AV->List Nat->Prop} (hE:z05 hid σ K (.un op ix)):Yld P w0 Pr0 μ σ a w o K:=by
 have tx:=h.get hx
 simp only [z05] at hE
 split at hE
 ·rename_i b e
  rw [e] at tx
  exact Yld.mk0 hE (by simp [execOp,ho,tx.bool,Op.unary]) (TR.of_VR (.bool _))
 ·rename_i k m e
  rw [e] at tx
  exact Yld.mk0 hE (by simp [execOp,ho,tx.int,Op.unary,Op.intArith]) (TR.of_VR (.int _ _))
 ·exact hE.elim
theorem VR.get_tup {vs:List AV} {v:Value} (h:VR Pr w (.tup vs) v) {i:Nat} {c:AV} (hi:vs[i]? = some c):∃ (l:List Value) (u:Value),v = .tuple l.toArray∧l[i]? = some u∧VR Pr w c u:=by
 cases h with
 | tup _ l hl h =>
  have hlt:=(List.getElem?_eq_some_iff.1 hi).1
  exact ⟨l,l[i]'(by omega),rfl,List.getElem?_eq_getElem _,h i c _ hi (List.getElem?_eq_getElem _)⟩
theorem ext_sound {o:Oper} {x:Operand} {ix:IOpd} {i:Nat} (ho:o.op = .extract x i) (hx:z02 x = some ix)
  (h:SR w0 Pr0 n μ σ a w) {hid:List Nat} {K:AV->List Nat->Prop} (hE:z05 hid σ K (.ext i ix)):Yld P w0 Pr0 μ σ a w o K:=by
 have tx:=h.get hx
 simp only [z05] at hE
 split at hE
 ·rename_i vs e
  rw [e] at tx
  split at hE
  ·rename_i c hc
   obtain ⟨l,u,hv,hu,hr⟩:=VR.get_tup (show VR _ _ _ _ from tx) hc
   have hu':l.toArray[i]? = some u:=by rw [List.getElem?_toArray]; exact hu
   exact Yld.mk0 hE (by simp [execOp,ho,hv,Instr.extract,hu]) (TR.of_VR hr)
  ·exact hE.elim
 ·exact hE.elim
theorem z3o {agg:Bool} {z:Nat} {cs:List AV} {us:List Value} {K:AV->Prop} (hE:z2u agg z cs K) (hl:cs.length≤us.length) (h:∀ (j:Nat) (c:AV) (u:Value),cs[j]? = some c->us[j]? = some u->VR Pr w c u) :
  ∃ d,K d∧if agg then z≤us.length∧VR Pr w d (.agg (us.take z).toArray) else ∃ u,us[0]? = some u∧VR Pr w d u:=by
 unfold z2u at hE
 cases agg with
 | true =>
  simp only [if_true] at hE ⊢
  refine ⟨_,hE.2,by omega,.agg _ _ (by rw [List.length_take,List.length_take]; omega) fun j c v hc hv=>?_⟩
  rw [List.getElem?_take] at hc hv
  split at hc
  ·rename_i hj
   rw [if_pos hj] at hv
   exact h j c v hc hv
  ·cases hc
 | false =>
  simp only [Bool.false_eq_true,if_false] at hE ⊢
  match cs,hE with
  | c :: cs',hE =>
   have hlt:0 < us.length:=by simp at hl; omega
   exact ⟨c,hE,us[0],List.getElem?_eq_getElem hlt,h 0 c _ rfl (List.getElem?_eq_getElem hlt)⟩
theorem z7b {t:TypeId} {z:Nat} {agg:Bool} (ht:tyOf P t = some (z,agg)) (hz:(agg || z == 1) = true) {b o:Nat} {us:List Value} {d:AV} (hlt:∀ (j:Nat) (u:Value),us[j]? = some u->w.cell? ⟨b,o + j,none⟩ = some u)
  (hd:if agg then z≤us.length∧VR Pr w d (.agg (us.take z).toArray) else ∃ u,us[0]? = some u∧VR Pr w d u) :
  ∃ v,(Instr.loadAt t (.pointer (some ⟨b,o,none⟩))).run P w = .ok v w∧VR Pr w d v:=by
 unfold tyOf at ht
 split at ht
 ·rename_i i ds hi hu
  injection ht with ht
  injection ht with h1 h2
  subst h1
  have hagg:(isAgg t).run P w = .ok agg w:=by
   unfold isAgg
   rw [Sem.run_bind,run_underlying hu]
   rw [← h2]
   cases ds <;> rfl
  have hadd:∀ j,(⟨b,o,none⟩:Addr).add j = ⟨b,o + j,none⟩:=fun j=>by
   unfold Addr.add
   split
   ·rename_i e; rw [e]; rfl
   ·rfl
  cases agg with
  | true =>
   simp only [if_true] at hd
   have hl:=run_loadCells_list (P:=P) w ⟨b,o,none⟩ (us.take i.size) (fun j v hj=>by
    rw [hadd]
    rw [List.getElem?_take] at hj
    split at hj
    ·exact hlt j v hj
    ·cases hj)
   rw [List.length_take,Nat.min_eq_left hd.1] at hl
   refine ⟨_,?_,hd.2⟩
   simp [Instr.loadAt,Instr.sureAddr,loadVar,hagg,sizeOf,typeInfo,hi,hl]
  | false =>
   simp only [Bool.false_eq_true,if_false] at hd
   obtain ⟨u,hu0,hv⟩:=hd
   have:=hlt 0 u hu0
   refine ⟨u,?_,hv⟩
   simp [Instr.loadAt,Instr.sureAddr,loadVar,hagg,show w.cell? ⟨b,o,none⟩ = some u from this]
 ·cases ht
theorem zi3 {t:TypeId} {z:Nat} {agg:Bool} {x:Operand} {ix:IOpd} (ht:tyOf P t = some (z,agg)) (hz:(agg || z == 1) = true) (hx:z02 x = some ix)
  (h:SR w0 Pr0 n μ σ a w) {hid:List Nat} {K:AV->List Nat->Prop} (hE:z05 hid σ K (.load z agg ix)):∃ d v ad,K d []∧a.eval x = .pointer (some ad)∧(Instr.loadAt t (a.eval x)).run P w = .ok v w∧VR (PrOf w0 Pr0 μ σ.H) w d v:=by
 have tx:=h.get hx
 simp only [z05] at hE
 split at hE
 ·rename_i cs e
  rw [e] at tx
  have tx':VR (PrOf w0 Pr0 μ σ.H) w (.rp cs) (a.eval x):=tx
  generalize hv:a.eval x = v at tx'
  cases tx' with
  | rp _ b off u hb hc hr =>
   obtain ⟨d,hK,hd⟩:=z3o (w:=w) (Pr:=PrOf w0 Pr0 μ σ.H) (us:=(List.range cs.length).map u) hE (by simp) (fun j c u' hj hu'=>by
    have hlt:=(List.getElem?_eq_some_iff.1 hj).1
    simp [hlt] at hu'
    subst hu'
    exact hr j c hj)
   obtain ⟨v,h1,h2⟩:=z7b (P:=P) ht hz (b:=b) (o:=off) (us:=(List.range cs.length).map u) (fun j u' hu'=>by
    have hlt:j < cs.length:=by have:=(List.getElem?_eq_some_iff.1 hu').1; simpa using this
    simp [hlt] at hu'
    subst hu'
    exact (hc j hlt).2) hd
   exact ⟨d,v,_,hK,rfl,h1,h2⟩
 ·rename_i r i f e
  rw [e] at tx
  obtain ⟨hh,hE⟩:=hE
  split at hE
  ·rename_i arr ha
   split at hE
   ·rename_i d0 hi
    obtain ⟨g,hg,hv⟩:=tx arr ha
    obtain ⟨o1,o2,o3,o4⟩:=h.obj r arr ha
    rw [hg] at o4
    rcases o4 with ⟨q,_⟩ | ⟨cs,f1,f2,f3⟩
    ·rw [q] at hi; simp at hi
    have hil:i < arr.cells.length:=(List.getElem?_eq_some_iff.1 hi).1
    have hdl:=(o3 d0 (List.mem_of_getElem? hi)).1
    have hcs:∀ j,j < arr.z->∃ u,cs[i * arr.z + j]? = some u:=fun j hj=>⟨_,Array.getElem?_eq_getElem (by have:=z4t hil hj; omega)⟩
    obtain ⟨d,hK,hd⟩:=z3o (w:=w) (Pr:=PrOf w0 Pr0 μ σ.H) (us:=(List.range (arr.z - f)).map fun j=>cs.getD (i * arr.z + (f + j)) undef) hE (by simp [hdl]) (fun j c u' hj hu'=>by
     rw [List.getElem?_drop] at hj
     have hlt:f + j < arr.z:=by have:=(List.getElem?_eq_some_iff.1 hj).1; omega
     obtain ⟨u,q1,q2⟩:=f3 i d0 (f + j) c hi hj
     simp [show j < arr.z - f by omega] at hu'
     rw [q1] at hu'
     simp at hu'
     subst hu'
     exact q2)
    obtain ⟨v,h1,h2⟩:=z7b (P:=P) ht hz (b:=g) (o:=i * arr.z + f) (us:=(List.range (arr.z - f)).map fun j=>cs.getD (i * arr.z + (f + j)) undef) (fun j u' hu'=>by
     have hlt:j < arr.z - f:=by have:=(List.getElem?_eq_some_iff.1 hu').1; simpa using this
     obtain ⟨u,q1⟩:=hcs (f + j) (by omega)
     simp [hlt] at hu'
     rw [q1] at hu'
     simp at hu'
     subst hu'
     rw [z32 f1,Nat.add_assoc]
     exact q1) hd
    exact ⟨d,v,_,hK,hv,by rw [hv]; exact h1,h2⟩
   ·exact hE.elim
  ·exact hE.elim
 ·exact hE.elim
theorem zce {o:Oper} {t:TypeId} {z:Nat} {agg:Bool} {x:Operand} {ix:IOpd} (ho:o.op = .load t x) (ht:tyOf P t = some (z,agg)) (hz:(agg || z == 1) = true) (hx:z02 x = some ix)
  (h:SR w0 Pr0 n μ σ a w) {hid:List Nat} {K:AV->List Nat->Prop} (hE:z05 hid σ K (.load z agg ix)):Yld P w0 Pr0 μ σ a w o K:=by
 obtain ⟨d,v,ad,hK,hv,hr,h2⟩:=zi3 ht hz hx h hE
 exact Yld.mk0 hK (by simp only [execOp,ho,Sem.run_bind,hr]; rfl) (TR.of_VR h2)
theorem SR.keptFz (h:SR w0 Pr0 n μ σ a w) (g:List Nat):Kept (PrOf w0 Pr0 μ σ.H) (PrOf w0 Pr0 μ (σ.fzs g).H) w w:=by
 refine ⟨Nat.le_refl _,fun b o _ hp=>⟨hp.1,fun s hs=>?_⟩,fun _ _ _ _=>rfl,fun _ _ _ _ _ h=>h⟩
 obtain ⟨arr,q1,q2⟩:=hp.2 s hs
 obtain ⟨arr',p1,p2,_⟩:=z7j (l:=g) q1
 refine ⟨arr',p1,?_⟩
 rw [p2.z]
 rcases p2.prot with e | e <;> rw [e]
 ·exact q2
 ·exact Nat.lt_of_lt_of_le q2 (Nat.mul_le_mul_right _ (h.obj s arr q1).2.1)
theorem VR.cst_inv {u v:Value} (h:VR Pr w (.cst u) v):v = u:=by cases h; rfl
theorem nilV_VR {u:Value} (h:VR Pr w (.cst u) u):VR Pr w (nilV u) u:=by
 unfold nilV
 split
 ·exact VR.nilSlice
 ·exact h
theorem z5k (h:SR w0 Pr0 n μ σ a w) {hid:List Nat}:∀ {l:List AV} {us:List Value} {t:Nat} {K:List AV->List Nat->Prop},z5l σ hid t l K->l.length≤us.length->(∀ (j:Nat) (c:AV) (u:Value),l[j]? = some c->us[j]? = some u->VR (PrOf w0 Pr0 μ σ.H) w c u) ->
  ∃ cs fz,K cs fz∧cs.length = l.length∧∀ g:List Nat,(∀ s,s ∈ fz->s ∈ g)->∀ (j:Nat) (c:AV) (u:Value),cs[j]? = some c->us[j]? = some u->VR (PrOf w0 Pr0 μ (σ.fzs g).H) w c u
 | [],us,t,K,hE,hl,hv=>⟨[],[],hE,rfl,fun g hg j c u hj=>by simp at hj⟩
 | c :: l,[],t,K,hE,hl,hv=>by simp at hl
 | c :: l,u :: us,t,K,hE,hl,hv=>by
  have hv0:=hv 0 c u rfl rfl
  have hv':∀ (j:Nat) (c:AV) (u:Value),l[j]? = some c->us[j]? = some u->VR (PrOf w0 Pr0 μ σ.H) w c u:=fun j c' u' h1 h2=>hv (j + 1) c' u' (by simpa using h1) (by simpa using h2)
  have hl':l.length≤us.length:=by simpa using hl
  have plain:∀ {x:AV},VR (PrOf w0 Pr0 μ σ.H) w x u->z5l σ hid (t + 1) l (fun cs fz=>K (x :: cs) fz)->∃ cs fz,K cs fz∧cs.length = (c :: l).length∧∀ g:List Nat,(∀ s,s ∈ fz->s ∈ g)->∀ (j:Nat) (c:AV) (u':Value),cs[j]? = some c->(u :: us)[j]? = some u'->VR (PrOf w0 Pr0 μ (σ.fzs g).H) w c u':=by
   intro x hx hE'
   obtain ⟨cs,fz,k1,k2,k3⟩:=z5k h hE' hl' hv'
   refine ⟨x :: cs,fz,k1,by simp [k2],fun g hg j c' u' hj hu=>?_⟩
   cases j with
   | zero=>cases hj; cases hu; exact hx.kept (h.keptFz g)
   | succ j=>exact k3 g hg j c' u' (by simpa using hj) (by simpa using hu)
  unfold z5l at hE
  split at hE
  ·rename_i u0
   have e0:=hv0.cst_inv
   subst e0
   split at hE
   ·rename_i q off len u' eT
    obtain ⟨rfl,hq,hE⟩:=hE
    split at hE
    ·rename_i arr ha
     obtain ⟨cs,fz,k1,k2,k3⟩:=z5k h hE hl' hv'
     refine ⟨_,_,k1,by simp [k2],fun g hg j c' u' hj hu=>?_⟩
     cases j with
     | zero =>
      cases hj; cases hu
      have ht:=h.tmp t
      rw [eT] at ht
      have ht':TR (PrOf w0 Pr0 μ σ.H) μ σ.H w (.rs q off len) u':=ht
      exact h.byval (hid:=[]) (d:=.rs q off len) (f:=[q]) (by simp [St.byval,ha]) ht' (SR.fzs h) (fun s arr hs=>let ⟨a',q1,q2,q3⟩:=z7j (l:=g) hs; ⟨a',q1,q2,fun hm=>q3 (hg s (by simp at hm; simp [hm]))⟩)
     | succ j=>exact k3 g (fun s hs=>hg s (by simp [hs])) j c' u' (by simpa using hj) (by simpa using hu)
    ·exact hE.elim
   ·exact plain (nilV_VR hv0) hE
  ·exact plain hv0 hE
theorem ptr_cells (h:SR w0 Pr0 n μ σ a w) {r i f:Nat} {v:Value} (tx:TR (PrOf w0 Pr0 μ σ.H) μ σ.H w (.ptr r i f) v) {arr:Arr} (ha:σ.H r = some arr) {d0:AV} (hi:arr.cells[i]? = some d0) :
  ∃ g,∃ us:List Value,v = .pointer (some ⟨g,i * arr.z + f,none⟩)∧us.length = (d0.cells.drop f).length∧(∀ (j:Nat) (u:Value),us[j]? = some u->w.cell? ⟨g,i * arr.z + f + j,none⟩ = some u) ∧
   ∀ (j:Nat) (c:AV) (u:Value),(d0.cells.drop f)[j]? = some c->us[j]? = some u->VR (PrOf w0 Pr0 μ σ.H) w c u:=by
 obtain ⟨g,hg,hv⟩:=tx arr ha
 obtain ⟨o1,o2,o3,o4⟩:=h.obj r arr ha
 rw [hg] at o4
 rcases o4 with ⟨q,_⟩ | ⟨cs,f1,f2,f3⟩
 ·rw [q] at hi; simp at hi
 have hil:i < arr.cells.length:=(List.getElem?_eq_some_iff.1 hi).1
 have hdl:=(o3 d0 (List.mem_of_getElem? hi)).1
 have hcs:∀ j,j < arr.z->∃ u,cs[i * arr.z + j]? = some u:=fun j hj=>⟨_,Array.getElem?_eq_getElem (by have:=z4t hil hj; omega)⟩
 refine ⟨g,(List.range (arr.z - f)).map fun j=>cs.getD (i * arr.z + (f + j)) undef,hv,by simp [hdl],fun j u' hu'=>?_,fun j c u' hj hu'=>?_⟩
 ·have hlt:j < arr.z - f:=by have:=(List.getElem?_eq_some_iff.1 hu').1; simpa using this
  obtain ⟨u,q1⟩:=hcs (f + j) (by omega)
  simp [hlt] at hu'
  rw [q1] at hu'
  simp at hu'
  subst hu'
  rw [z32 f1,Nat.add_assoc]
  exact q1
 ·rw [List.getElem?_drop] at hj
  have hlt:f + j < arr.z:=by have:=(List.getElem?_eq_some_iff.1 hj).1; omega
  obtain ⟨u,q1,q2⟩:=f3 i d0 (f + j) c hi hj
  simp [show j < arr.z - f by omega] at hu'
  rw [q1] at hu'
  simp at hu'
  subst hu'
  exact q2
theorem zld {o:Oper} {t:TypeId} {z:Nat} {agg:Bool} {x:Operand} {ix:IOpd} (ho:o.op = .load t x) (ht:tyOf P t = some (z,agg)) (hz:(agg || z == 1) = true) (hx:z02 x = some ix)
  (h:SR w0 Pr0 n μ σ a w) {hid:List Nat} {K:AV->List Nat->Prop} (hE:z05 hid σ K (.loadp z agg ix)):Yld P w0 Pr0 μ σ a w o K:=by
 have tx:=h.get hx
 simp only [z05] at hE
 split at hE
 ·rename_i cs e
  refine zce ho ht hz hx h (hid:=hid) (K:=K) ?_
  simp only [z05]
  rw [e]
  exact hE
 ·rename_i r i f e
  rw [e] at tx
  obtain ⟨hh,hE⟩:=hE
  split at hE
  ·rename_i arr ha
   split at hE
   ·rename_i d0 hi
    obtain ⟨g,us,hv,hul,hcell,hread⟩:=ptr_cells h tx ha hi
    have fin:∀ (fz:List Nat) (d d':AV),K d fz->(if agg then z≤us.length∧VR (PrOf w0 Pr0 μ (σ.fzs fz).H) w d' (.agg (us.take z).toArray) else ∃ u,us[0]? = some u∧VR (PrOf w0 Pr0 μ (σ.fzs fz).H) w d' u) ->
      (∀ v,VR (PrOf w0 Pr0 μ (σ.fzs fz).H) w d' v->TR (PrOf w0 Pr0 μ (σ.fzs fz).H) μ (σ.fzs fz).H w d v)->Yld P w0 Pr0 μ σ a w o K:=by
     intro fz d d' hK hd hT
     obtain ⟨v,h1,h2⟩:=z7b (P:=P) ht hz (b:=g) (o:=i * arr.z + f) (us:=us) hcell hd
     refine ⟨d,fz,v,hK,?_,hT v h2⟩
     rw [← hv] at h1
     simp only [execOp,ho,Sem.run_bind,h1]; rfl
    cases agg with
    | true =>
     rw [if_pos rfl] at hE
     obtain ⟨hle,hE⟩:=hE
     obtain ⟨cs,fz,hK,hcl,hr⟩:=z5k h (us:=us) hE (by rw [List.length_take]; omega) (fun j c u hj hu=>by
      rw [List.getElem?_take] at hj
      split at hj
      ·exact hread j c u hj hu
      ·cases hj)
     refine fin fz (.agg cs) (.agg cs) hK ?_ (fun v hv=>TR.of_VR hv)
     rw [if_pos rfl]
     refine ⟨by omega,.agg cs _ (by rw [hcl,List.length_take,List.length_take]; omega) fun j c u hj hu=>?_⟩
     rw [List.getElem?_take] at hu
     split at hu
     ·exact hr fz (fun s hs=>hs) j c u hj hu
     ·cases hu
    | false =>
     rw [if_neg (by simp)] at hE
     split at hE
     ·rename_i c cs ec
      have hlt:0 < us.length:=by rw [hul,ec]; simp
      have h0:us[0]? = some us[0]:=List.getElem?_eq_getElem hlt
      have hr0:=hread 0 c _ (by rw [ec]; rfl) h0
      have self:K c []->Yld P w0 Pr0 μ σ a w o K:=fun hK=>fin [] c c hK (by rw [if_neg (by simp)]; exact ⟨_,h0,hr0⟩) (fun v hv=>TR.of_VR hv)
      unfold zb5 at hE
      split at hE
      ·rename_i u
       split at hE
       ·rename_i q off len u' eT
        obtain ⟨rfl,hK⟩:=hE
        refine fin [] _ (.cst u') hK (by rw [if_neg (by simp)]; exact ⟨_,h0,hr0⟩) (fun v hv=>?_)
        have ht:=h.tmp (vt r (i * arr.z + f))
        rw [eT] at ht
        rw [hv.cst_inv]
        exact ht
       ·exact self hE
      ·exact self hE
     ·exact hE.elim
   ·exact hE.elim
  ·exact hE.elim
 ·exact hE.elim
end
end Go.Proofs.YtlhblpbfhfhlpaaGreatDoor
end
section
namespace Go.Proofs.YtlhblpbfhfhlpaaGreatDoor
open Go.RowKit
theorem z3q (b o j:Nat):(⟨b,o,none⟩:Addr).add j = ⟨b,o + j,none⟩:=by
 unfold Addr.add
 split
 ·rename_i e; rw [e]; rfl
 ·rfl
section
variable {P:Program} {w0:Start} {Pr0:Nat->Nat->Prop} {n:Nat} {μ:Nat->Option Nat} {σ:St} {a:Act} {w:World} {Pr:Nat->Nat->Prop} {H:Nat->Option Arr}
theorem zlu {o:Oper} {s:TypeId} {f:Nat} {x:Operand} {ix:IOpd} {fs:Array Field} {fl:Field} {i:TypeInfo} (ho:o.op = .fieldAddr s x f) (hs:P.underlying s = some (.struct fs)) (hf:fs[f]? = some fl) (hi:P.info? fl.type = some i) (hz:¬ i.size = 0) (hx:z02 x = some ix)
  (h:SR w0 Pr0 n μ σ a w) {hid:List Nat} {K:AV->List Nat->Prop} (hE:z05 hid σ K (.faddr fl.offset ix)):Yld P w0 Pr0 μ σ a w o K:=by
 have tx:=h.get hx
 have hrun:∀ b p,a.eval x = .pointer (some ⟨b,p,none⟩)->(execOp a.eval o).run P w = .ok (.value (.pointer (some ⟨b,p + fl.offset,none⟩))) w:=by
  intro b p hv
  simp [execOp,ho,hv,Instr.fieldAt,run_underlying hs,hf,Instr.sureAddr,fieldPlace,sizeOf,typeInfo,hi,hz,z3q]
 simp only [z05] at hE
 split at hE
 ·rename_i cs e
  rw [e] at tx
  have tx':VR (PrOf w0 Pr0 μ σ.H) w (.rp cs) (a.eval x):=tx
  generalize hv:a.eval x = v at tx'
  cases tx' with
  | rp _ b off u hb hc hr =>
   refine Yld.mk0 hE (hrun b off hv) (TR.of_VR (.rp _ b (off + fl.offset) (fun j=>u (fl.offset + j)) hb (fun j hj=>?_) fun j c hj=>?_))
   ·rw [List.length_drop] at hj
    rw [Nat.add_assoc]
    exact hc (fl.offset + j) (by omega)
   ·rw [List.getElem?_drop] at hj
    exact hr _ c hj
 ·rename_i r k f' e
  rw [e] at tx
  obtain ⟨-,hE⟩:=hE
  split at hE
  ·rename_i arr hr
   obtain ⟨g,hg,hv⟩:=tx arr hr
   refine Yld.mk0 hE (hrun g _ hv) ?_
   intro arr' ha'
   rw [hr] at ha'; cases ha'
   exact ⟨g,hg,by rw [Nat.add_assoc]⟩
  ·exact hE.elim
 ·exact hE.elim
theorem zif {o:Oper} {t e:TypeId} {len:Nat} {jq:TypeInfo} {x i:Operand} {ix:IOpd} {n0:Int} (ho:o.op = .indexAddr t x i) (ht:P.underlying t = some (.array len e)) (hj:P.info? e = some jq) (hn1:0≤n0) (hn2:n0 < (len:Int)) (hx:z02 x = some ix) (hi:z02 i = some (.c (.int .i64 n0)))
  (h:SR w0 Pr0 n μ σ a w) {hid:List Nat} {K:AV->List Nat->Prop} (hE:z05 hid σ K (.faddr (n0.toNat * jq.size) ix)):Yld P w0 Pr0 μ σ a w o K:=by
 have tx:=h.get hx
 have hiv:a.eval i = .int .i64 n0:=by
  have ti:=h.get hi
  have ti':VR (PrOf w0 Pr0 μ σ.H) w (.int .i64 n0) (a.eval i):=ti
  generalize a.eval i = v at ti'
  cases ti'; rfl
 have hrun:∀ b p,a.eval x = .pointer (some ⟨b,p,none⟩)->(execOp a.eval o).run P w = .ok (.value (.pointer (some ⟨b,p + n0.toNat * jq.size,none⟩))) w:=by
  intro b p hv
  simp [execOp,ho,hv,hiv,Instr.indexAt,asIntOf,run_underlying ht,Instr.sureAddr,sizeOf,typeInfo,hj,z3q,hn1,hn2]
 simp only [z05] at hE
 split at hE
 ·rename_i cs e
  rw [e] at tx
  have tx':VR (PrOf w0 Pr0 μ σ.H) w (.rp cs) (a.eval x):=tx
  generalize hv:a.eval x = v at tx'
  cases tx' with
  | rp _ b off u hb hc hr =>
   refine Yld.mk0 hE (hrun b off hv) (TR.of_VR (.rp _ b (off + (n0.toNat * jq.size)) (fun j=>u ((n0.toNat * jq.size) + j)) hb (fun j hj=>?_) fun j c hj=>?_))
   ·rw [List.length_drop] at hj
    rw [Nat.add_assoc]
    exact hc ((n0.toNat * jq.size) + j) (by omega)
   ·rw [List.getElem?_drop] at hj
    exact hr _ c hj
 ·rename_i r k f' e
  rw [e] at tx
  obtain ⟨-,hE⟩:=hE
  split at hE
  ·rename_i arr hr
   obtain ⟨g,hg,hv⟩:=tx arr hr
   refine Yld.mk0 hE (hrun g _ hv) ?_
   intro arr' ha'
   rw [hr] at ha'; cases ha'
   exact ⟨g,hg,by rw [Nat.add_assoc]⟩
  ·exact hE.elim
 ·exact hE.elim
theorem z8a {t:TypeId} {z:Nat} {agg:Bool} (ht:tyOf P t = some (z,agg)) {us:List Value} {off:Nat} {d:AV}
  (hd:if agg then z≤(us.drop off).length∧VR Pr w d (.agg ((us.drop off).take z).toArray) else ∃ u,(us.drop off)[0]? = some u∧VR Pr w d u) :
  ∃ v,(part t us.toArray off).run P w = .ok v w∧VR Pr w d v:=by
 unfold tyOf at ht
 split at ht
 ·rename_i i ds hi hu
  injection ht with ht
  injection ht with h1 h2
  subst h1
  have hagg:(isAgg t).run P w = .ok agg w:=by
   unfold isAgg
   rw [Sem.run_bind,run_underlying hu]
   rw [← h2]
   cases ds <;> rfl
  cases agg with
  | true =>
   simp only [if_true] at hd
   refine ⟨_,?_,hd.2⟩
   simp only [part,Sem.run_bind,hagg,Result.andThen_ok,if_true,sizeOf,typeInfo,run_program,hi,Sem.run_pure]
   congr 2
   apply Array.ext'
   simp [List.extract_eq_take_drop]
  | false =>
   simp only [Bool.false_eq_true,if_false] at hd
   obtain ⟨u,hu0,hv⟩:=hd
   refine ⟨u,?_,hv⟩
   rw [List.getElem?_drop] at hu0
   simp only [Nat.add_zero] at hu0
   simp [part,hagg,hu0]
 ·cases ht
theorem VR.agg_inv {cs:List AV} {v:Value} (h:VR Pr w (.agg cs) v):∃ us:List Value,v = .agg us.toArray∧cs.length = us.length∧∀ (j:Nat) (c:AV) (u:Value),cs[j]? = some c->us[j]? = some u->VR Pr w c u:=by
 cases h with
 | agg _ us hl h=>exact ⟨us,rfl,hl,h⟩
theorem fld_sound {o:Oper} {s:TypeId} {f:Nat} {x:Operand} {ix:IOpd} {fs:Array Field} {fl:Field} {z:Nat} {agg:Bool} (ho:o.op = .field s x f) (hs:P.underlying s = some (.struct fs)) (hf:fs[f]? = some fl) (ht:tyOf P fl.type = some (z,agg)) (hx:z02 x = some ix)
  (h:SR w0 Pr0 n μ σ a w) {hid:List Nat} {K:AV->List Nat->Prop} (hE:z05 hid σ K (.fld fl.offset z agg ix)):Yld P w0 Pr0 μ σ a w o K:=by
 have tx:=h.get hx
 simp only [z05] at hE
 split at hE
 ·rename_i cs e
  rw [e] at tx
  obtain ⟨us,hv,hl,hr⟩:=VR.agg_inv (show VR (PrOf w0 Pr0 μ σ.H) w (.agg cs) (a.eval x) from tx)
  obtain ⟨d,hK,hd⟩:=z3o (w:=w) (Pr:=PrOf w0 Pr0 μ σ.H) (us:=us.drop fl.offset) hE (by simp [hl]) (fun j c u' hj hu'=>by
   rw [List.getElem?_drop] at hj hu'
   exact hr _ c u' hj hu')
  obtain ⟨v,h1,h2⟩:=z8a (P:=P) ht hd
  refine Yld.mk0 hK ?_ (TR.of_VR h2)
  simp [execOp,ho,hv,Instr.field,run_underlying hs,hf,asAgg,h1]
 ·exact hE.elim
theorem idx_sound {o:Oper} {t:TypeId} {x i:Operand} {ix ii:IOpd} (ho:o.op = .index t x i) (ht:P.underlying t = some .string) (hx:z02 x = some ix) (hi:z02 i = some ii)
  (h:SR w0 Pr0 n μ σ a w) {hid:List Nat} {K:AV->List Nat->Prop} (hE:z05 hid σ K (.idx ix ii)):Yld P w0 Pr0 μ σ a w o K:=by
 have tx:=h.get hx
 have ti:=h.get hi
 simp only [z05] at hE
 split at hE
 ·rename_i k m s e1 e2
  rw [e1] at ti; rw [e2] at tx
  obtain ⟨⟨h0,h1⟩,hE⟩:=hE
  have hlt:m.toNat < s.size:=by omega
  have hb:s[m.toNat]? = some (s.data.toList.getD m.toNat 0):=by
   have hlt':m.toNat < s.data.toList.length:=by simpa using hlt
   have e:s.data.toList.getD m.toNat 0 = s[m.toNat]:=by
    rw [List.getD_eq_getElem?_getD,List.getElem?_eq_getElem hlt']
    rfl
   rw [e]
   exact getElem?_pos s m.toNat hlt
  refine Yld.mk0 hE ?_ (TR.of_VR (.int _ _))
  simp only [execOp,ho,tx.str,ti.int,Instr.index,asIntOf]
  simp [run_underlying ht,h0,hb]
 ·exact hE.elim
theorem idxA_sound {o:Oper} {t e:TypeId} {len z:Nat} {agg:Bool} {x i:Operand} {ix ii:IOpd} (ho:o.op = .index t x i) (ht:P.underlying t = some (.array len e)) (he:tyOf P e = some (z,agg)) (hx:z02 x = some ix) (hi:z02 i = some ii)
  (h:SR w0 Pr0 n μ σ a w) {hid:List Nat} {K:AV->List Nat->Prop} (hE:z05 hid σ K (.idxA len z agg ix ii)):Yld P w0 Pr0 μ σ a w o K:=by
 have tx:=h.get hx
 have ti:=h.get hi
 simp only [z05] at hE
 split at hE
 ·rename_i k m cs e1 e2
  rw [e1] at ti; rw [e2] at tx
  obtain ⟨⟨h0,h1⟩,hE⟩:=hE
  obtain ⟨us,hv,hl,hr⟩:=VR.agg_inv (show VR (PrOf w0 Pr0 μ σ.H) w (.agg cs) (a.eval x) from tx)
  obtain ⟨d,hK,hd⟩:=z3o (w:=w) (Pr:=PrOf w0 Pr0 μ σ.H) (us:=us.drop (m.toNat * z)) hE (by simp [hl]) (fun j c u' hj hu'=>by
   rw [List.getElem?_drop] at hj hu'
   exact hr _ c u' hj hu')
  obtain ⟨v,h2,h3⟩:=z8a (P:=P) he hd
  refine Yld.mk0 hK ?_ (TR.of_VR h3)
  have hz:∃ j,P.info? e = some j∧j.size = z:=by
   unfold tyOf at he
   split at he
   ·rename_i j ds hj _
    injection he with he
    injection he with he1 _
    exact ⟨j,hj,he1⟩
   ·cases he
  obtain ⟨j,hj,rfl⟩:=hz
  have hs:(sizeOf e).run P w = .ok j.size w:=by simp [sizeOf,typeInfo,hj]
  simp only [execOp,ho,hv,ti.int,Instr.index,asIntOf]
  simp [run_underlying ht,h0,h1,hs,h2]
 ·exact hE.elim
theorem zlj {o:Oper} {t e:TypeId} {j:TypeInfo} {x i:Operand} {ix ii:IOpd} (ho:o.op = .indexAddr t x i) (ht:P.underlying t = some (.slice e)) (hj:P.info? e = some j) (hz:¬ j.size = 0) (hx:z02 x = some ix) (hi:z02 i = some ii)
  (h:SR w0 Pr0 n μ σ a w) {hid:List Nat} {K:AV->List Nat->Prop} (hE:z05 hid σ K (.iaddr j.size ix ii)):Yld P w0 Pr0 μ σ a w o K:=by
 have tx:=h.get hx
 have ti:=h.get hi
 have hrun:∀ (k:IntKind) (m:Int) (b off len cap:Nat),0≤m->m < len->a.eval i = .int k m->a.eval x = .slice (some ⟨b,off,none⟩) len cap ->
   (execOp a.eval o).run P w = .ok (.value (.pointer (some ⟨b,off + m.toNat * j.size,none⟩))) w:=by
  intro k m b off len cap h0 h1 e1 e2
  simp [execOp,ho,e1,e2,Instr.indexAt,asIntOf,run_underlying ht,h0,h1,sizeOf,typeInfo,hj,z3q]
 simp only [z05] at hE
 split at hE
 ·rename_i k m l e1 e2
  rw [e1] at ti; rw [e2] at tx
  obtain ⟨⟨h0,h1⟩,hz',hE⟩:=hE
  have tx':VR (PrOf w0 Pr0 μ σ.H) w (.sl l) (a.eval x):=tx
  generalize hv:a.eval x = v at tx'
  cases tx' with
  | sl _ A cap z u hcap hmax hA hr =>
   obtain ⟨b,off,rfl,hL⟩:=hA (by omega)
   have hlt:m.toNat < l.length:=by omega
   have hg:l[m.toNat]? = some (l.getD m.toNat .und):=by rw [List.getD_eq_getElem?_getD,List.getElem?_eq_getElem hlt]; rfl
   have hzz:z = j.size:=by rw [← hL.len _ (List.mem_of_getElem? hg)]; exact hz'
   subst hzz
   refine Yld.mk0 hE (hrun k m b off l.length cap h0 h1 ti.int hv) (TR.of_VR (.rp _ b _ (u m.toNat) hL.lt (fun q hq=>?_) fun q c hq=>hr _ _ q c hg hq))
   rw [hz'] at hq
   have:=hL.at_ m.toNat q hlt hq
   rw [Nat.add_assoc]; exact this
 ·rename_i k m r off len e1 e2
  rw [e1] at ti; rw [e2] at tx
  obtain ⟨-,⟨h0,h1⟩,hE⟩:=hE
  split at hE
  ·rename_i arr ha
   obtain ⟨hz',hE⟩:=hE
   rcases tx arr ha with ⟨_,_,_,rfl⟩ | ⟨g,cap,cs,g1,g2,g3,g4,g5,g6,g7⟩
   ·omega
   ·refine Yld.mk0 hE (hrun k m g _ len cap h0 h1 ti.int (g2.exact (by omega))) ?_
    intro arr' ha'
    rw [ha] at ha'; cases ha'
    refine ⟨g,g1,?_⟩
    rw [hz',Nat.add_mul,Nat.add_zero]
  ·exact hE.elim
 ·exact hE.elim
theorem conv_sound {o:Oper} {src dst:TypeId} {k k':IntKind} {x:Operand} {ix:IOpd} (ho:o.op = .convert src dst x) (hs:P.underlying src = some (.int k')) (hd:P.underlying dst = some (.int k)) (hx:z02 x = some ix)
  (h:SR w0 Pr0 n μ σ a w) {hid:List Nat} {K:AV->List Nat->Prop} (hE:z05 hid σ K (.conv k ix)):Yld P w0 Pr0 μ σ a w o K:=by
 have tx:=h.get hx
 simp only [z05] at hE
 split at hE
 ·rename_i k0 m e
  rw [e] at tx
  refine Yld.mk0 hE ?_ (TR.of_VR (.int _ _))
  simp [execOp,ho,tx.int,convert,run_underlying hs,run_underlying hd,Conv.intToInt]
 ·exact hE.elim
theorem zme {o:Oper} {src dst:TypeId} {x:Operand} {ix:IOpd} (ho:o.op = .convert src dst x) (hs:P.underlying src = some .string) (hd:P.underlying dst = some .string) (hx:z02 x = some ix)
  (h:SR w0 Pr0 n μ σ a w) {hid:List Nat} {K:AV->List Nat->Prop} (hE:z05 hid σ K (.mvs ix)):Yld P w0 Pr0 μ σ a w o K:=by
 have tx:=h.get hx
 simp only [z05] at hE
 split at hE
 ·rename_i s e
  rw [e] at tx
  refine Yld.mk0 hE ?_ (TR.of_VR (.str _))
  simp [execOp,ho,tx.str,convert,run_underlying hs,run_underlying hd]
 ·exact hE.elim
theorem z3e {o:Oper} {c:Call} {b:Builtin} (ho:o.op = .call c) (hc:c.callee = .builtin b) :
  (execOp a.eval o).run P w = (builtin b c.argTypes o.type (c.args.map fun | .const _=>true | _=>false) (c.args.map a.eval)).run P w:=by
 simp only [execOp,ho,resolve,hc]
 simp [invoke]
 rfl
theorem call1 {c:Call} {x:Operand} (ha:c.args.toList = [x]):c.args = #[x]:=by apply Array.ext'; exact ha
theorem call2 {c:Call} {x y:Operand} (ha:c.args.toList = [x,y]):c.args = #[x,y]:=by apply Array.ext'; exact ha
theorem callT {c:Call} {x:TypeId} (ha:c.argTypes.toList = [x]):c.argTypes = #[x]:=by apply Array.ext'; exact ha
theorem lenS_sound {o:Oper} {c:Call} {t:TypeId} {x:Operand} {ix:IOpd} (ho:o.op = .call c) (hc:c.callee = .builtin .len) (ha:c.args.toList = [x]) (hts:c.argTypes.toList = [t]) (ht:P.underlying t = some .string) (hx:z02 x = some ix)
  (h:SR w0 Pr0 n μ σ a w) {hid:List Nat} {K:AV->List Nat->Prop} (hE:z05 hid σ K (.len true ix)):Yld P w0 Pr0 μ σ a w o K:=by
 have tx:=h.get hx
 have hrun:=z3e (P:=P) (a:=a) (w:=w) ho hc
 rw [call1 ha,callT hts] at hrun
 simp only [z05] at hE
 split at hE
 ·rename_i e _; cases e
 ·rename_i e _; cases e
 ·rename_i s _ e
  rw [e] at tx
  refine Yld.mk0 hE ?_ (TR.of_VR (.int _ _))
  rw [hrun]
  simp [builtin,Builtin.len_,run_underlying ht,tx.str,goInt]
 ·exact hE.elim
theorem lenL_sound {o:Oper} {c:Call} {t e:TypeId} {x:Operand} {ix:IOpd} (ho:o.op = .call c) (hc:c.callee = .builtin .len) (ha:c.args.toList = [x]) (hts:c.argTypes.toList = [t]) (ht:P.underlying t = some (.slice e)) (hx:z02 x = some ix)
  (h:SR w0 Pr0 n μ σ a w) {hid:List Nat} {K:AV->List Nat->Prop} (hE:z05 hid σ K (.len false ix)):Yld P w0 Pr0 μ σ a w o K:=by
 have tx:=h.get hx
 have hrun:=z3e (P:=P) (a:=a) (w:=w) ho hc
 rw [call1 ha,callT hts] at hrun
 have hS:∀ A l cp,a.eval x = .slice A l cp->(execOp a.eval o).run P w = .ok (.value (.int .i64 l)) w:=by
  intro A l cp hv
  rw [hrun]
  simp [builtin,Builtin.len_,run_underlying ht,hv,goInt]
 simp only [z05] at hE
 split at hE
 ·rename_i l _ e
  rw [e] at tx
  have tx':VR (PrOf w0 Pr0 μ σ.H) w (.sl l) (a.eval x):=tx
  generalize hv:a.eval x = v at tx'
  cases tx' with
  | sl _ A cap z u hcap hmax hA hr=>exact Yld.mk0 hE (hS _ _ _ hv) (TR.of_VR (.int _ _))
 ·rename_i r off len _ e
  rw [e] at tx
  obtain ⟨-,hE⟩:=hE
  split at hE
  ·rename_i arr harr
   rcases tx arr harr with ⟨_,hv,_,rfl⟩ | ⟨g,cap,cs,g1,hv,_⟩
   ·exact Yld.mk0 hE (hS _ _ _ hv) (TR.of_VR (.int _ _))
   ·obtain ⟨o',hv⟩:=hv.val
    exact Yld.mk0 hE (hS _ _ _ hv) (TR.of_VR (.int _ _))
  ·exact hE.elim
 ·rename_i e _; cases e
 ·exact hE.elim
theorem zq4 {o:Oper} {c:Call} {b:Bool} {x y:Operand} {ix iy:IOpd} (ho:o.op = .call c) (hc:c.callee = .builtin (if b then .max else .min)) (ha:c.args.toList = [x,y]) (hx:z02 x = some ix) (hy:z02 y = some iy)
  (h:SR w0 Pr0 n μ σ a w) {hid:List Nat} {K:AV->List Nat->Prop} (hE:z05 hid σ K (.mx b ix iy)):Yld P w0 Pr0 μ σ a w o K:=by
 have tx:=h.get hx
 have ty:=h.get hy
 have hrun:=z3e (P:=P) (a:=a) (w:=w) ho hc
 rw [call2 ha] at hrun
 simp only [z05] at hE
 split at hE
 ·rename_i k m k' m' e1 e2
  rw [e1] at tx; rw [e2] at ty
  refine Yld.mk0 hE ?_ (TR.of_VR (.int _ _))
  rw [hrun]
  cases b
  ·simp [builtin,Builtin.min_,Builtin.min2,tx.int,ty.int]
  ·simp [builtin,Builtin.max_,Builtin.max2,tx.int,ty.int]
 ·rename_i s s' e1 e2
  rw [e1] at tx; rw [e2] at ty
  refine Yld.mk0 hE ?_ (TR.of_VR (.str _))
  rw [hrun]
  cases b
  ·cases h1:Op.bytesLess s.toList s'.toList <;> cases h2:s.toList == s'.toList <;> simp [builtin,Builtin.min_,Builtin.min2,Op.stringOp,asBool,tx.str,ty.str,mnS,h1,h2]
  ·cases h1:Op.bytesLess s.toList s'.toList <;> simp [builtin,Builtin.max_,Builtin.max2,Op.stringOp,asBool,tx.str,ty.str,mxS,h1]
 ·exact hE.elim
theorem zcu {x:Option Operand} (h:z7o x = some none):x = none:=by
 cases x with
 | none=>rfl
 | some x =>
  simp only [z7o,Option.map_eq_some_iff] at h
  obtain ⟨y,_,h⟩:=h
  cases h
theorem compO_some {x:Option Operand} {i:IOpd} (h:z7o x = some (some i)):∃ y,x = some y∧z02 y = some i:=by
 cases x with
 | none=>cases h
 | some x =>
  simp only [z7o,Option.map_eq_some_iff] at h
  obtain ⟨y,h1,h⟩:=h
  cases h
  exact ⟨x,rfl,h1⟩
theorem z1c {x:Option Operand} {ix:Option IOpd} (hx:z7o x = some ix) (h:SR w0 Pr0 n μ σ a w) {d:Nat} {K:Nat->Prop} (hE:z33 σ ix d K) :
  (x = none∧K d)∨∃ y k m,x = some y∧a.eval y = .int k m∧0≤m∧K m.toNat:=by
 cases ix with
 | none=>exact .inl ⟨zcu hx,hE⟩
 | some i =>
  obtain ⟨y,rfl,hy⟩:=compO_some hx
  have ty:=h.get hy
  simp only [z33] at hE
  split at hE
  ·rename_i k m e
   rw [e] at ty
   exact .inr ⟨y,k,m,rfl,ty.int,hE.1,hE.2⟩
  ·exact hE.elim
theorem z6j {k:IntKind} {m:Int} {y:Nat} {code:BoundsCode} (h0:0≤m) (h1:m.toNat≤y):(Instr.sliceBound (.int k m) y code).run P w = .ok m.toNat w :=
 run_sliceBound (P:=P) w k m y code h0 (by omega)
theorem z28 {isSlice:Bool} {len cap:Nat} {lo hi:Option Operand} {l hh:Nat} (hhi:(hi = none∧hh = len)∨∃ y k m,hi = some y∧a.eval y = .int k m∧0≤m∧hh = m.toNat) (hlo:(lo = none∧l = 0)∨∃ y k m,lo = some y∧a.eval y = .int k m∧0≤m∧l = m.toNat)
  (h1:l≤hh) (h2:hh≤cap):(Instr.sliceBounds isSlice len cap (lo.map a.eval) (hi.map a.eval) none).run P w = .ok (l,hh,cap) w:=by
 rcases hhi with ⟨rfl,rfl⟩ | ⟨y,k,m,rfl,e1,e2,rfl⟩ <;> rcases hlo with ⟨rfl,rfl⟩ | ⟨y',k',m',rfl,e1',e2',rfl⟩
 ·simp [Instr.sliceBounds]
 ·simp [Instr.sliceBounds,e1',z6j e2' h1]
 ·simp [Instr.sliceBounds,e1,z6j e2 h2]
 ·simp [Instr.sliceBounds,e1,e1',z6j e2 h2,z6j e2' h1]
theorem slcS_sound {o:Oper} {t:TypeId} {x:Operand} {ix:IOpd} {lo hi:Option Operand} {il ih:Option IOpd} (ho:o.op = .slice t x lo hi none) (ht:P.underlying t = some .string) (hx:z02 x = some ix) (hl:z7o lo = some il) (hh:z7o hi = some ih)
  (h:SR w0 Pr0 n μ σ a w) {hid:List Nat} {K:AV->List Nat->Prop} (hE:z05 hid σ K (.slc true 0 ix il ih)):Yld P w0 Pr0 μ σ a w o K:=by
 have tx:=h.get hx
 simp only [z05] at hE
 split at hE
 ·rename_i s _ e
  rw [e] at tx
  obtain ⟨_,hE⟩:=hE
  have b1:=z1c hh h hE
  have key:∃ H,((hi = none∧H = s.size)∨∃ y k m,hi = some y∧a.eval y = .int k m∧0≤m∧H = m.toNat)∧H≤s.size∧z33 σ il 0 fun l=>l≤H∧K (.str (s.extract l H)) []:=by
   rcases b1 with ⟨e1,e2,e3⟩ | ⟨y,k,m,e1,e2,e3,e4,e5⟩
   ·exact ⟨_,.inl ⟨e1,rfl⟩,e2,e3⟩
   ·exact ⟨_,.inr ⟨y,k,m,e1,e2,e3,rfl⟩,e4,e5⟩
  obtain ⟨H,k1,k2,k3⟩:=key
  have key2:∃ L,((lo = none∧L = 0)∨∃ y k m,lo = some y∧a.eval y = .int k m∧0≤m∧L = m.toNat)∧L≤H∧K (.str (s.extract L H)) []:=by
   rcases z1c hl h k3 with ⟨e1,e2,e3⟩ | ⟨y,k,m,e1,e2,e3,e4,e5⟩
   ·exact ⟨_,.inl ⟨e1,rfl⟩,e2,e3⟩
   ·exact ⟨_,.inr ⟨y,k,m,e1,e2,e3,rfl⟩,e4,e5⟩
  obtain ⟨L,j1,j2,j3⟩:=key2
  refine Yld.mk0 j3 ?_ (TR.of_VR (.str _))
  have hb:=z28 (P:=P) (w:=w) (a:=a) (isSlice:=false) (len:=s.size) (cap:=s.size) k1 j1 j2 k2
  simp only [execOp,ho,tx.str,Option.map_none]
  simp [Instr.sliceAt,run_underlying ht,Instr.slice,hb]
 ·rename_i e _; cases e
 ·rename_i e _; cases e
 ·exact absurd hE.1 (Nat.lt_irrefl _)
 ·exact absurd hE.1 (Nat.lt_irrefl _)
 ·exact hE.elim
end
end Go.Proofs.YtlhblpbfhfhlpaaGreatDoor
end
