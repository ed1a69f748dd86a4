/-
  Part 5 of a proof: AmF, AmG, AmH, AmH2.
-/
import Derived.Laws.StructEq
import Derived.ChangeKeysEq
import Derived.Laws.MakeOwn
import Derived.Laws.IdiomStrings
import Derived.Laws.BytesArg
import Derived.Laws.Shifts
import Derived.Test.YtlhblpbfhfhlpaaGreatDoorSB4
set_option linter.unusedVariables false
set_option linter.unusedSimpArgs false
section
namespace Go.Proofs.YtlhblpbfhfhlpaaGreatDoor
open Go.RowKit
section
variable {pv:Bool} {P:Program} {w0:Start} {Pr0:Nat->Nat->Prop} {n:Nat} {μ:Nat->Option Nat} {σ:St} {a:Act} {w:World} {Pr:Nat->Nat->Prop} {H:Nat->Option Arr}
theorem z1x {σ:St} {f:List Nat}:∀ s arr,σ.H s = some arr->∃ arr',(σ.fzs f).H s = some arr'∧Frozen arr arr'∧(s ∈ f->arr'.prot = arr.cells.length):=fun s arr h=>z7j h
theorem VR.sl_len {l:List AV} {A:Option Addr} {N cap:Nat} (h:VR Pr w (.sl l) (.slice A N cap)):l.length = N:=by
 generalize hv:Value.slice A N cap = v at h
 cases h with
 | sl=>cases hv; rfl
theorem VR.slice {l:List AV} {A:Option Addr} {N cap z L H:Nat} (h:VR Pr w (.sl l) (.slice A N cap)) (hz:∀ d ∈ l,d.cells.length = z) (h1:L≤H) (h2:H≤l.length) :
  VR Pr w (.sl ((l.take H).drop L)) (.slice (if cap = L then A else A.map (·.add (L * z))) (H - L) (cap - L)):=by
 cases h with
 | sl _ _ _ z' u hcap hmax hA hr =>
  have hlen:((l.take H).drop L).length = H - L:=by rw [List.length_drop,List.length_take]; omega
  have hget:∀ i,i < H - L->((l.take H).drop L)[i]? = l[L + i]?:=fun i hi=>by rw [List.getElem?_drop,List.getElem?_take,if_pos (by omega)]
  rw [← hlen]
  refine .sl _ _ _ z (fun i j=>u (L + i) j) (by rw [hlen]; omega) (by omega) (fun h0=>?_) (fun i d j c hi hj=>?_)
  ·rw [hlen] at h0
   obtain ⟨b,off,rfl,hL⟩:=hA (by omega)
   have hzz:z' = z:=by
    have h0':0 < l.length:=by omega
    rw [← hL.len l[0] (List.getElem_mem h0'),hz l[0] (List.getElem_mem h0')]
   subst hzz
   refine ⟨b,off + L * z',?_,hL.lt,fun d hd=>hz d (List.mem_of_mem_take (List.mem_of_mem_drop hd)),fun i j hi hj=>?_⟩
   ·rw [if_neg (by omega)]
    show some (Addr.add _ _) = _
    rw [z3q]
   ·rw [hlen] at hi
    have:=hL.at_ (L + i) j (by omega) hj
    rw [show off + L * z' + (i * z' + j) = off + ((L + i) * z' + j) by rw [Nat.add_mul]; omega]
    exact this
  ·have hil:i < H - L:=by have:=(List.getElem?_eq_some_iff.1 hi).1; rw [hlen] at this; exact this
   rw [hget i hil] at hi
   exact hr _ d j c hi hj
theorem zbh {o:Oper} {t e:TypeId} {q:TypeInfo} {x:Operand} {ix:IOpd} {lo hi:Option Operand} {il ih:Option IOpd} (ho:o.op = .slice t x lo hi none) (ht:P.underlying t = some (.slice e)) (hq:P.info? e = some q) (hz:¬ q.size = 0) (hx:z02 x = some ix) (hl:z7o lo = some il) (hh:z7o hi = some ih)
  (h:SR w0 Pr0 n μ σ a w) {hid:List Nat} {K:AV->List Nat->Prop} (hE:z05 hid σ K (.slc false q.size ix il ih)):Yld P w0 Pr0 μ σ a w o K:=by
 have tx:=h.get hx
 have hrun:∀ A N cap L H,a.eval x = .slice A N cap->(Instr.sliceBounds true N cap (lo.map a.eval) (hi.map a.eval) none).run P w = .ok (L,H,cap) w ->
   (execOp a.eval o).run P w = .ok (.value (.slice (if cap = L then A else A.map (·.add (L * q.size))) (H - L) (cap - L))) w:=by
  intro A N cap L H hv hb
  simp only [execOp,ho,hv,Option.map_none]
  simp [Instr.sliceAt,run_underlying ht,Instr.slice,hb,sizeOf,typeInfo,hq]
 simp only [z05] at hE
 split at hE
 ·rename_i e1 _; cases e1
 ·rename_i l _ e1
  rw [e1] at tx
  have tx':VR (PrOf w0 Pr0 μ σ.H) w (.sl l) (a.eval x):=tx
  obtain ⟨A,cap,hv,hcap⟩:∃ A cap,a.eval x = .slice A l.length cap∧l.length≤cap:=by
   generalize a.eval x = v at tx'
   cases tx' with
   | sl _ A cap z u hcap hmax hA hr=>exact ⟨A,cap,rfl,hcap⟩
  rw [hv] at tx'
  have key:∃ H,((hi = none∧H = l.length)∨∃ y k m,hi = some y∧a.eval y = .int k m∧0≤m∧H = m.toNat)∧H≤l.length∧z33 σ il 0 fun m=>m≤H∧(∀ d ∈ l,d.cells.length = q.size)∧K (.sl ((l.take H).drop m)) []:=by
   rcases z1c hh h hE with ⟨e1,e2,e3⟩ | ⟨y,k,m,e1,e2,e3,e4,e5⟩
   ·exact ⟨_,.inl ⟨e1,rfl⟩,e2,e3⟩
   ·exact ⟨_,.inr ⟨y,k,m,e1,e2,e3,rfl⟩,e4,e5⟩
  obtain ⟨H,k1,k2,k3⟩:=key
  have key2:∃ L,((lo = none∧L = 0)∨∃ y k m,lo = some y∧a.eval y = .int k m∧0≤m∧L = m.toNat)∧L≤H∧(∀ d ∈ l,d.cells.length = q.size)∧K (.sl ((l.take H).drop L)) []:=by
   rcases z1c hl h k3 with ⟨e1,e2,e3⟩ | ⟨y,k,m,e1,e2,e3,e4,e5⟩
   ·exact ⟨_,.inl ⟨e1,rfl⟩,e2,e3⟩
   ·exact ⟨_,.inr ⟨y,k,m,e1,e2,e3,rfl⟩,e4,e5⟩
  obtain ⟨L,j1,j2,j3,j4⟩:=key2
  exact Yld.mk0 j4 (hrun _ _ _ _ _ hv (z28 k1 j1 j2 (by omega))) (TR.of_VR (VR.slice tx' j3 j2 k2))
 ·rename_i r off len _ e1
  rw [e1] at tx
  obtain ⟨hh',hE⟩:=hE
  split at hE
  ·rename_i arr ha
   obtain ⟨hz',hE⟩:=hE
   have key:∃ H,((hi = none∧H = len)∨∃ y k m,hi = some y∧a.eval y = .int k m∧0≤m∧H = m.toNat)∧H≤len∧z5c σ arr.cells r off H K il:=by
    rcases z1c hh h hE with ⟨e1,e2,e3⟩ | ⟨y,k,m,e1,e2,e3,e4,e5⟩
    ·exact ⟨_,.inl ⟨e1,rfl⟩,e2,e3⟩
    ·exact ⟨_,.inr ⟨y,k,m,e1,e2,e3,rfl⟩,e4,e5⟩
   obtain ⟨H,k1,k2,k3⟩:=key
   cases il with
   | none =>
    have hlo:=zcu hl
    simp only [z5c,loK] at k3
    rcases tx arr ha with ⟨m1,m2,m3,m4⟩ | ⟨g,cap,cs,m1,m2,m3,m4,m5,m6,m7⟩
    ·have e0:H = 0:=by omega
     subst e0
     refine Yld.mk0 k3 (hrun _ _ _ 0 0 m2 (z28 (by rcases k1 with ⟨a1,a2⟩ | a1; exact .inl ⟨a1,a2.trans m4⟩; exact .inr a1) (.inl ⟨hlo,rfl⟩) (Nat.le_refl _) (Nat.le_refl _))) ?_
     intro arr' ha'
     exact .inl ⟨m1,by simp,m3,rfl⟩
    ·obtain ⟨o',hvv⟩:=m2.val
     refine Yld.mk0 k3 (hrun _ _ _ 0 H hvv (z28 k1 (.inl ⟨hlo,rfl⟩) (Nat.zero_le _) (by omega))) ?_
     intro arr' ha'
     rw [ha] at ha'; cases ha'
     refine .inr ⟨g,cap,cs,m1,?_,m3,m4,by omega,by omega,m7⟩
     rw [Nat.zero_mul,Nat.sub_zero,Nat.sub_zero]
     rcases m2 with m2 | ⟨h0,hpos,_⟩
     ·left
      rw [hvv] at m2
      have hoo:o' = off * arr.z:=by simpa using m2
      rw [← hoo]
      split
      ·rfl
      ·rfl
     ·refine .inr ⟨h0,hpos,o',?_⟩
      split
      ·rfl
      ·rfl
   | some lo' =>
    have hlk:loK (some lo') = 1∨loK (some lo') = 2:=by
     unfold loK
     split
     ·rename_i e; cases e
     ·split
      ·exact .inl rfl
      ·exact .inr rfl
     ·exact .inr rfl
    rcases hlk with hlk | hlk
    ·-- all but the first
     have hb1:z33 σ (some lo') 0 fun m=>m = 1:=by
      unfold loK at hlk
      split at hlk
      ·rename_i e; cases e
      ·rename_i k1 n1 e
       cases e
       split at hlk
       ·rename_i e1
        have:n1 = 1:=by simpa using e1
        subst this
        exact ⟨by decide,rfl⟩
       ·cases hlk
      ·cases hlk
     unfold z5c at k3
     rw [hlk] at k3
     simp only at k3
     obtain ⟨k4,k5⟩:=k3
     have key2:∃ L,((lo = none∧L = 0)∨∃ y k m,lo = some y∧a.eval y = .int k m∧0≤m∧L = m.toNat)∧L = 1:=by
      rcases z1c hl h hb1 with ⟨e1,e2⟩ | ⟨y,k,m,e1,e2,e3,e4⟩
      ·exact ⟨_,.inl ⟨e1,rfl⟩,e2⟩
      ·exact ⟨_,.inr ⟨y,k,m,e1,e2,e3,rfl⟩,e4⟩
     obtain ⟨L,j1,rfl⟩:=key2
     rcases tx arr ha with ⟨m1,m2,m3,m4⟩ | ⟨g,cap,cs,m1,m2,m3,m4,m5,m6,m7⟩
     ·omega
     ·have hvv:=m2.exact (by omega)
      refine Yld.mk0 k5 (hrun _ _ _ 1 H hvv (z28 k1 j1 k4 (by omega))) ?_
      intro arr' ha'
      rw [ha] at ha'; cases ha'
      refine .inr ⟨g,cap - 1,cs,m1,?_,m3,?_,by omega,by omega,by omega⟩
      ·split
       ·rename_i e
        exact .inr ⟨by omega,Nat.mul_pos (by omega) (h.obj r arr ha).1,_,rfl⟩
       ·left
        show Value.slice (some (Addr.add _ _)) _ _ = _
        rw [z3q,Nat.one_mul,Nat.add_mul,Nat.one_mul,hz']
      ·rw [← m4]; congr 1; omega
    unfold z5c at k3
    rw [hlk] at k3
    simp only at k3
    have key2:∃ L,((lo = none∧L = 0)∨∃ y k m,lo = some y∧a.eval y = .int k m∧0≤m∧L = m.toNat)∧L≤H∧K (.sl ((arr.cells.drop (off + L)).take (H - L))) [r]:=by
     rcases z1c hl h k3 with ⟨e1,e2,e3⟩ | ⟨y,k,m,e1,e2,e3,e4,e5⟩
     ·exact ⟨_,.inl ⟨e1,rfl⟩,e2,e3⟩
     ·exact ⟨_,.inr ⟨y,k,m,e1,e2,e3,rfl⟩,e4,e5⟩
    obtain ⟨L,j1,j2,j3⟩:=key2
    obtain ⟨A,cap,hv,hlc⟩:∃ A cap,a.eval x = .slice A len cap∧len≤cap:=by
     rcases tx arr ha with ⟨m1,m2,m3,m4⟩ | ⟨g,cap,cs,m1,m2,m3,m4,m5,m6,m7⟩
     ·exact ⟨none,0,by rw [m2,m4],by omega⟩
     ·obtain ⟨o',m2⟩:=m2.val
      exact ⟨_,cap,m2,m6⟩
    have hall:VR (PrOf w0 Pr0 μ (σ.fzs [r]).H) w (.sl ((arr.cells.drop off).take len)) (.slice A len cap):=by
     rw [← hv]
     refine h.byval (hid:=hid) (f:=[r]) ?_ tx (SR.fzs h) z1x
     simp only [St.byval,hh',ha]
     rfl
    have hlen:((arr.cells.drop off).take len).length = len:=hall.sl_len
    refine ⟨_,[r],_,j3,hrun _ _ _ L H hv (z28 k1 j1 j2 (by omega)),TR.of_VR ?_⟩
    have hs:=VR.slice (z:=q.size) hall (fun d hd=>by rw [((h.obj r arr ha).2.2.1 d (List.mem_of_mem_drop (List.mem_of_mem_take hd))).1]; exact hz') j2 (by rw [hlen]; exact k2)
    have e:(((arr.cells.drop off).take len).take H).drop L = (arr.cells.drop (off + L)).take (H - L):=by
     rw [List.take_take,Nat.min_eq_left k2,List.drop_take,List.drop_drop]
    rw [e] at hs
    exact hs
  ·exact hE.elim
 ·rename_i e1 _; cases e1
 ·rename_i e1 _; cases e1
 ·exact hE.elim
theorem slcK_sound {o:Oper} {t e:TypeId} {q:TypeInfo} {x:Operand} {ix:IOpd} {lo hi:Option Operand} {il ih:Option IOpd} (ho:o.op = .slice t x lo hi none) (ht:P.underlying t = some (.slice e)) (hq:P.info? e = some q) (hz:¬ q.size = 0) (hx:z02 x = some ix) (hl:z7o lo = some il) (hh:z7o hi = some ih)
  (h:SR w0 Pr0 n μ σ a w) {hid:List Nat} {K:AV->List Nat->Prop} (hE:z05 hid σ K (.slc true q.size ix il ih)):Yld P w0 Pr0 μ σ a w o K:=by
 have tx:=h.get hx
 have hrun:∀ A N cap L H,a.eval x = .slice A N cap->(Instr.sliceBounds true N cap (lo.map a.eval) (hi.map a.eval) none).run P w = .ok (L,H,cap) w ->
   (execOp a.eval o).run P w = .ok (.value (.slice (if cap = L then A else A.map (·.add (L * q.size))) (H - L) (cap - L))) w:=by
  intro A N cap L H hv hb
  simp only [execOp,ho,hv,Option.map_none]
  simp [Instr.sliceAt,run_underlying ht,Instr.slice,hb,sizeOf,typeInfo,hq]
 simp only [z05] at hE
 split at hE
 ·exact absurd hE.1 hz
 ·rename_i e1 _; cases e1
 ·rename_i e1 _; cases e1
 ·rename_i l _ e1
  refine zbh ho ht hq hz hx hl hh h (hid:=hid) ?_
  simp only [z05]
  rw [e1]
  exact hE.2
 ·rename_i r off len _ e1
  rw [e1] at tx
  obtain ⟨_,hh',hE⟩:=hE
  split at hE
  ·rename_i arr ha
   obtain ⟨hz',hE⟩:=hE
   have key:∃ H,((hi = none∧H = len)∨∃ y k m,hi = some y∧a.eval y = .int k m∧0≤m∧H = m.toNat)∧H≤len∧z33 σ il 0 fun m=>m≤H∧K (.rs r (off + m) (H - m)) []:=by
    rcases z1c hh h hE with ⟨e1,e2,e3⟩ | ⟨y,k,m,e1,e2,e3,e4,e5⟩
    ·exact ⟨_,.inl ⟨e1,rfl⟩,e2,e3⟩
    ·exact ⟨_,.inr ⟨y,k,m,e1,e2,e3,rfl⟩,e4,e5⟩
   obtain ⟨H,k1,k2,k3⟩:=key
   have key2:∃ L,((lo = none∧L = 0)∨∃ y k m,lo = some y∧a.eval y = .int k m∧0≤m∧L = m.toNat)∧L≤H∧K (.rs r (off + L) (H - L)) []:=by
    rcases z1c hl h k3 with ⟨e1,e2,e3⟩ | ⟨y,k,m,e1,e2,e3,e4,e5⟩
    ·exact ⟨_,.inl ⟨e1,rfl⟩,e2,e3⟩
    ·exact ⟨_,.inr ⟨y,k,m,e1,e2,e3,rfl⟩,e4,e5⟩
   obtain ⟨L,j1,j2,j3⟩:=key2
   rcases tx arr ha with ⟨m1,m2,m3,m4⟩ | ⟨g,cap,cs,m1,m2,m3,m4,m5,m6,m7⟩
   ·have e0:H = 0:=by omega
    subst e0
    have e0:L = 0:=by omega
    subst e0
    refine Yld.mk0 j3 (hrun _ _ _ 0 0 m2 (z28 (by rcases k1 with ⟨a1,a2⟩ | a1; exact .inl ⟨a1,a2.trans m4⟩; exact .inr a1) j1 (Nat.le_refl _) (Nat.le_refl _))) ?_
    intro arr' ha'
    exact .inl ⟨m1,by simp,by omega,by omega⟩
   ·obtain ⟨o',hvv⟩:=m2.val
    refine Yld.mk0 j3 (hrun _ _ _ L H hvv (z28 k1 j1 j2 (by omega))) ?_
    intro arr' ha'
    rw [ha] at ha'; cases ha'
    have hzp:=(h.obj r arr ha).1
    refine .inr ⟨g,cap - L,cs,m1,?_,m3,?_,by omega,by omega,by omega⟩
    ·by_cases hcl:cap = L
     ·rw [if_pos hcl]
      rcases Nat.eq_zero_or_pos L with hL | hL
      ·subst hL
       rcases m2 with m2 | ⟨c1,c2,_⟩
       ·left
        rw [hvv] at m2
        have hoo:o' = off * arr.z:=by simpa using m2
        rw [hoo,Nat.add_zero]
       ·exact .inr ⟨by omega,by rw [Nat.add_zero]; exact c2,o',rfl⟩
      ·exact .inr ⟨by omega,Nat.mul_pos (by omega) hzp,o',rfl⟩
     ·rw [if_neg hcl]
      left
      have hve:=m2.exact (by omega)
      rw [hvv] at hve
      have hoo:o' = off * arr.z:=by simpa using hve
      show Value.slice (some (Addr.add _ _)) _ _ = _
      rw [z3q,hoo,Nat.add_mul,hz']
    ·rw [← m4]; congr 1; omega
  ·exact hE.elim
 ·exact hE.elim
theorem SR.byvals (h:SR w0 Pr0 n μ σ a w) {hid:List Nat} {σ':St} (h':SR w0 Pr0 n μ σ' a w):∀ {ds ds':List AV} {vs:List Value} {f:List Nat},σ.byvals hid ds = some (ds',f)->ds.length = vs.length ->
  (∀ (j:Nat) (d:AV) (v:Value),ds[j]? = some d->vs[j]? = some v->TR (PrOf w0 Pr0 μ σ.H) μ σ.H w d v) ->
  (∀ s arr,σ.H s = some arr->∃ arr',σ'.H s = some arr'∧Frozen arr arr'∧(s ∈ f->arr'.prot = arr.cells.length)) ->
  ds'.length = vs.length∧∀ (j:Nat) (d:AV) (v:Value),ds'[j]? = some d->vs[j]? = some v->VR (PrOf w0 Pr0 μ σ'.H) w d v
 | [],ds',vs,f,hd,hl,_,_=>by
  simp only [St.byvals,Option.some.injEq,Prod.mk.injEq] at hd
  obtain ⟨rfl,_⟩:=hd
  exact ⟨hl,fun j d v h=>by simp at h⟩
 | d :: ds,ds',[],f,hd,hl,_,_=>by simp at hl
 | d :: ds,ds',v :: vs,f,hd,hl,hv,hf=>by
  simp only [St.byvals] at hd
  split at hd
  ·rename_i e1 f1 h1
   split at hd
   ·rename_i e2 f2 h2
    cases hd
    obtain ⟨k1,k2⟩:=SR.byvals h h' h2 (by simpa using hl) (fun j d' v' hj hj'=>hv (j + 1) d' v' hj hj') (fun s arr hs=>by
     obtain ⟨a',q1,q2,q3⟩:=hf s arr hs
     exact ⟨a',q1,q2,fun hm=>q3 (List.mem_append.2 (.inr hm))⟩)
    have k0:=h.byval h1 (hv 0 d v rfl rfl) h' (fun s arr hs=>by
     obtain ⟨a',q1,q2,q3⟩:=hf s arr hs
     exact ⟨a',q1,q2,fun hm=>q3 (List.mem_append.2 (.inl hm))⟩)
    refine ⟨by simp [k1],fun j d' v' hj hj'=>?_⟩
    cases j with
    | zero=>cases hj; cases hj'; exact k0
    | succ j=>exact k2 j d' v' hj hj'
   ·cases hd
  ·cases hd
theorem z7x:∀ {l:List Operand} {il:List IOpd},z0k l = some il->l.length = il.length∧∀ (j:Nat) (x:Operand) (i:IOpd),l[j]? = some x->il[j]? = some i->z02 x = some i
 | [],il,h=>by
  cases h
  exact ⟨rfl,fun j x i h=>by simp at h⟩
 | x :: l,il,h=>by
  simp only [z0k] at h
  split at h
  ·rename_i y ys h1 h2
   cases h
   obtain ⟨k1,k2⟩:=z7x h2
   refine ⟨by simp [k1],fun j x' i hj hj'=>?_⟩
   cases j with
   | zero=>cases hj; cases hj'; exact h1
   | succ j=>exact k2 j x' i hj hj'
  ·cases h
theorem SR.gets (h:SR w0 Pr0 n μ σ a w) {l:List Operand} {il:List IOpd} (hl:z0k l = some il) :
  (il.map σ.get).length = (l.map a.eval).length∧∀ (j:Nat) (d:AV) (v:Value),(il.map σ.get)[j]? = some d->(l.map a.eval)[j]? = some v->TR (PrOf w0 Pr0 μ σ.H) μ σ.H w d v:=by
 obtain ⟨k1,k2⟩:=z7x hl
 refine ⟨by simp [k1],fun j d v hj hj'=>?_⟩
 rw [List.getElem?_map,Option.map_eq_some_iff] at hj hj'
 obtain ⟨i,hi,rfl⟩:=hj
 obtain ⟨x,hx,rfl⟩:=hj'
 exact h.get (k2 j x i hx hi)
theorem mkfn_sound {o:Oper} {f:FuncId} {first caps:Array Operand} {i1 i2:List IOpd} (ho:o.op = .makeFunc (.func f) first caps) (h1:z0k first.toList = some i1) (h2:z0k caps.toList = some i2)
  (h:SR w0 Pr0 n μ σ a w) {hid:List Nat} {K:AV->List Nat->Prop} (hE:z05 hid σ K (.mkfn f i1 i2)):Yld P w0 Pr0 μ σ a w o K:=by
 simp only [z05] at hE
 split at hE
 ·rename_i vf f1 vc f2 e1 e2
  obtain ⟨l1,t1⟩:=h.gets h1
  obtain ⟨l2,t2⟩:=h.gets h2
  have hS:SR w0 Pr0 n μ (σ.fzs (f1 ++ f2)) a w:=SR.fzs h
  obtain ⟨m1,b1⟩:=h.byvals hS e1 l1 t1 (fun s arr hs=>by
   obtain ⟨a',q1,q2,q3⟩:=z1x (f:=f1 ++ f2) s arr hs
   exact ⟨a',q1,q2,fun hm=>q3 (List.mem_append.2 (.inl hm))⟩)
  obtain ⟨m2,b2⟩:=h.byvals hS e2 l2 t2 (fun s arr hs=>by
   obtain ⟨a',q1,q2,q3⟩:=z1x (f:=f1 ++ f2) s arr hs
   exact ⟨a',q1,q2,fun hm=>q3 (List.mem_append.2 (.inr hm))⟩)
  refine ⟨_,f1 ++ f2,_,hE,?_,TR.of_VR (.clo f vf vc _ _ m1 m2 b1 b2)⟩
  simp only [execOp,ho,Instr.makeFunc]
  simp
  exact ⟨by apply Array.ext'; simp,by apply Array.ext'; simp⟩
 ·exact hE.elim
theorem ze1 {t:TypeId} {i:TypeInfo} {d:TypeDesc} (hi:P.info? t = some i) (hu:P.underlying t = some d) (xs:Array Value) (off:Nat) :
  (part t xs off).run P w = if zi9 d then .ok (.agg (xs.extract off (off + i.size))) w else match xs[off]? with
   | some v=>.ok v w
   | none=>.halt (.stuck "part: no such cell") w:=by
 have hagg:(isAgg t).run P w = .ok (zi9 d) w:=by
  unfold isAgg
  rw [Sem.run_bind,run_underlying hu]
  cases d <;> rfl
 unfold part
 rw [Sem.run_bind,hagg]
 simp only [Result.andThen_ok]
 cases zi9 d with
 | true=>simp [sizeOf,typeInfo,hi]
 | false =>
  simp only [Bool.false_eq_true,if_false]
  cases xs[off]? <;> simp [stuck]
def Fits (xs ys:List AV) (us vs:Array Value) (sh:List (Nat × Nat)):Prop :=
 ∀ p,p ∈ sh->∃ a b,z2t p.2 (xs.getD p.1 .und) (ys.getD p.1 .und)∧us[p.1]? = some a∧vs[p.1]? = some b∧VR Pr w (xs.getD p.1 .und) a∧VR Pr w (ys.getD p.1 .und) b
theorem cell_equal {t:TypeId} {k:Nat} {dd:TypeDesc} (hu:P.underlying t = some dd) (hk:(∃ q,dd = .int q∧k = 0)∨(dd = .string∧k = 1)∨(dd = .bool∧k = 2)) {x y:AV} {a b:Value} (hf:z2t k x y) (ha:VR Pr w x a) (hb:VR Pr w y b) (D:Nat) :
  (Op.equalIn (D + 1) t a b).run P w = .ok (zat x y) w:=by
 unfold z2t at hf
 split at hf
 ·obtain ⟨rfl,rfl⟩:=hf
  cases ha; cases hb
  rcases hk with ⟨q,rfl,_⟩ | ⟨_,h⟩ | ⟨_,h⟩
  ·exact run_equalIn_int w D t _ q _ _ hu
  ·cases h
  ·cases h
 ·subst hf
  cases ha; cases hb
  rcases hk with ⟨q,_,h⟩ | ⟨rfl,_⟩ | ⟨_,h⟩
  ·cases h
  ·exact run_equalIn_string w D t _ _ hu
  ·cases h
 ·subst hf
  cases ha; cases hb
  rcases hk with ⟨q,_,h⟩ | ⟨_,h⟩ | ⟨rfl,_⟩
  ·cases h
  ·cases h
  ·exact Go.run_equalIn_bool w D t _ _ hu
 ·exact hf.elim
theorem z5f (xs ys:List AV):∀ (l m:List (Nat × Nat)),valF xs ys (l ++ m) = (valF xs ys l && valF xs ys m)
 | [],m=>by simp [valF]
 | p :: l,m=>by simp [valF,z5f xs ys l m,Bool.and_assoc]
theorem z5h:∀ (d:Nat) {t:TypeId} {i:TypeInfo} {dd:TypeDesc} {sh:List (Nat × Nat)},z1l P d t = some sh->P.info? t = some i->P.underlying t = some dd->(∀ p,p ∈ sh->p.1 < i.size) ->
  ∀ {xs ys:List AV} {us vs:Array Value} {off:Nat},Fits (Pr:=Pr) (w:=w) xs ys us vs (sh.map fun p=>(off + p.1,p.2))->∀ (D:Nat),d≤D ->
  ∃ a b,(part t us off).run P w = .ok a w∧(part t vs off).run P w = .ok b w∧(Op.equalIn D t a b).run P w = .ok (valF xs ys (sh.map fun p=>(off + p.1,p.2))) w
 | 0,t,i,dd,sh,hs,_,_,_,xs,ys,us,vs,off,_,D,_=>by simp [z1l] at hs
 | d + 1,t,i,dd,sh,hs,hi,hu,hlt,xs,ys,us,vs,off,hF,D,hD=>by
  obtain ⟨D',rfl⟩:∃ D',D = D' + 1:=⟨D - 1,by omega⟩
  simp only [z1l,hu] at hs
  have leaf:∀ k,sh = [(0,k)]->zi9 dd = false->((∃ q,dd = .int q∧k = 0)∨(dd = .string∧k = 1)∨(dd = .bool∧k = 2)) ->
    ∃ a b,(part t us off).run P w = .ok a w∧(part t vs off).run P w = .ok b w∧(Op.equalIn (D' + 1) t a b).run P w = .ok (valF xs ys (sh.map fun p=>(off + p.1,p.2))) w:=by
   intro k hsh hagg hk
   subst hsh
   obtain ⟨a,b,f1,f2,f3,f4,f5⟩:=hF (off + 0,k) (by simp)
   refine ⟨a,b,?_,?_,?_⟩
   ·rw [ze1 hi hu,hagg]; simp only [Bool.false_eq_true,if_false]; rw [show us[off]? = some a from f2]
   ·rw [ze1 hi hu,hagg]; simp only [Bool.false_eq_true,if_false]; rw [show vs[off]? = some b from f3]
   ·rw [cell_equal hu hk f1 f4 f5]
    simp [valF]
  cases dd with
  | int q=>cases hs; exact leaf 0 rfl rfl (.inl ⟨q,rfl,rfl⟩)
  | string=>cases hs; exact leaf 1 rfl rfl (.inr (.inl ⟨rfl,rfl⟩))
  | bool=>cases hs; exact leaf 2 rfl rfl (.inr (.inr ⟨rfl,rfl⟩))
  | struct fs =>
   simp only at hs
   split at hs
   ·cases hs
   ·rename_i hst
    have hst':P.stoodInHeld t = false:=by simpa using hst
    refine ⟨.agg (us.extract off (off + i.size)),.agg (vs.extract off (off + i.size)),by rw [ze1 hi hu]; rfl,by rw [ze1 hi hu]; rfl,?_⟩
    have hfo:P.fieldsOf t = fs:=by simp [Program.fieldsOf,hu]
    rw [run_equalIn_struct w D' t _ _ (by rw [hfo]; exact hu) hst',hfo]
    -- the fields,one by one
    generalize fs.toList = fl at hs
    clear hst leaf hfo hu
    induction fl generalizing sh with
    | nil =>
     simp only [List.foldr_nil,Option.some.injEq] at hs
     subst hs
     simp [Op.eqFields,valF]
    | cons f fl ih =>
     simp only [List.foldr_cons] at hs
     split at hs
     ·rename_i l j hacc hj
      split at hs
      ·cases hs
      ·rename_i hname
       split at hs
       ·rename_i s hsf
        split at hs
        ·rename_i hall
         cases hs
         have hall':∀ p,p ∈ s->p.1 < j.size:=fun p hp=>by
          have:=List.all_eq_true.1 hall p hp
          simpa using this
         obtain ⟨df,hdf⟩:∃ df,P.underlying f.type = some df:=by
          cases d with
          | zero=>simp [z1l] at hsf
          | succ d =>
           simp only [z1l] at hsf
           cases hu2:P.underlying f.type with
           | none=>rw [hu2] at hsf; cases hsf
           | some df=>exact ⟨df,rfl⟩
         -- the field's cells,in the struct's own cells
         have hsub:Fits (Pr:=Pr) (w:=w) ((xs.drop off).take i.size) ((ys.drop off).take i.size) (us.extract off (off + i.size)) (vs.extract off (off + i.size)) (s.map fun p=>(f.offset + p.1,p.2)):=by
          intro p hp
          obtain ⟨q,hq,rfl⟩:=List.mem_map.1 hp
          have hlq:=hlt (f.offset + q.1,q.2) (List.mem_append.2 (.inl (List.mem_map.2 ⟨q,hq,rfl⟩)))
          simp only at hlq
          obtain ⟨a,b,f1,f2,f3,f4,f5⟩:=hF (off + (f.offset + q.1),q.2) (List.mem_map.2 ⟨(f.offset + q.1,q.2),List.mem_append.2 (.inl (List.mem_map.2 ⟨q,hq,rfl⟩)),rfl⟩)
          simp only at f1 f2 f3 f4 f5
          have g:∀ zs:List AV,((zs.drop off).take i.size).getD (f.offset + q.1) .und = zs.getD (off + (f.offset + q.1)) .und:=fun zs=>by
           rw [List.getD_eq_getElem?_getD,List.getD_eq_getElem?_getD,List.getElem?_take,if_pos hlq,List.getElem?_drop]
          have ge:∀ zs:Array Value,(zs.extract off (off + i.size))[f.offset + q.1]? = zs[off + (f.offset + q.1)]?:=fun zs=>by
           rw [Array.getElem?_extract]
           split
           ·rfl
           ·rename_i hn
            rw [Array.getElem?_eq_none]
            simp at hn
            omega
          exact ⟨a,b,by rw [g,g]; exact f1,by rw [ge]; exact f2,by rw [ge]; exact f3,by rw [g]; exact f4,by rw [g]; exact f5⟩
         obtain ⟨a,b,p1,p2,p3⟩:=z5h d hsf hj hdf hall' hsub D' (by omega)
         have hl2:∀ p,p ∈ l->p.1 < i.size:=fun p hp=>hlt p (List.mem_append.2 (.inr hp))
         have hF2:Fits (Pr:=Pr) (w:=w) xs ys us vs (l.map fun p=>(off + p.1,p.2)):=fun p hp=>hF p (by rw [List.map_append]; exact List.mem_append.2 (.inr hp))
         have ih':=ih l hl2 hF2 hacc
         have hname':f.name ≠ "_":=hname
         unfold Op.eqFields
         rw [if_pos hname']
         simp only [Sem.run_bind,p1,p2,p3,Result.andThen_ok]
         have hv:valF ((xs.drop off).take i.size) ((ys.drop off).take i.size) (s.map fun p=>(f.offset + p.1,p.2)) = valF xs ys ((s.map fun p=>(f.offset + p.1,p.2)).map fun p=>(off + p.1,p.2)):=by
          have:∀ (m:List (Nat × Nat)),(∀ p,p ∈ m->p.1 < i.size)->valF ((xs.drop off).take i.size) ((ys.drop off).take i.size) m = valF xs ys (m.map fun p=>(off + p.1,p.2)):=by
           intro m
           induction m with
           | nil=>intro _; rfl
           | cons p m ihm =>
            intro hm
            have hp:=hm p (by simp)
            have g:∀ zs:List AV,((zs.drop off).take i.size).getD p.1 .und = zs.getD (off + p.1) .und:=fun zs=>by
             rw [List.getD_eq_getElem?_getD,List.getD_eq_getElem?_getD,List.getElem?_take,if_pos hp,List.getElem?_drop]
            simp only [valF,List.map_cons,g,ihm (fun p hp=>hm p (by simp [hp]))]
          exact this _ (fun p hp=>hlt p (List.mem_append.2 (.inl hp)))
         rw [hv,List.map_append,z5f]
         cases valF xs ys ((s.map fun p=>(f.offset + p.1,p.2)).map fun p=>(off + p.1,p.2)) with
         | false=>simp
         | true=>simp [ih']
        ·cases hs
       ·cases hs
     ·cases hs
  | _=>cases hs
theorem z5d (d : Nat) {t : TypeId} {fs : Array Field} (ht : P.underlying t = some (.struct fs)) : z1l P (d + 1) t = if P.stoodInHeld t then none else fs.toList.foldr (fun f acc => match acc, P.info? f.type with
        | some l, some i => if f.name = "_" then none else match z1l P d f.type with
          | some s => if s.all (fun p => decide (p.1 < i.size)) then some (s.map (fun p => (f.offset + p.1, p.2)) ++ l) else none
          | none => none
        | _, _ => none) (some []) := by
  simp only [z1l, ht]
  rfl
theorem zdr {d:Nat} {t:TypeId} {s:List (Nat × Nat)} (h:z1l P d t = some s):∃ df,P.underlying t = some df:=by
 cases d with
 | zero=>simp [z1l] at h
 | succ d =>
  simp only [z1l] at h
  cases hu2:P.underlying t with
  | none=>rw [hu2] at h; cases h
  | some df=>exact ⟨df,rfl⟩
theorem zl2 {xs ys:List AV}:∀ {sh:List (Nat × Nat)},okF xs ys sh->∀ p,p ∈ sh->z2t p.2 (xs.getD p.1 .und) (ys.getD p.1 .und)
 | q :: l,h,p,hp=>by
  rcases List.mem_cons.1 hp with e | e
  ·subst e; exact h.1
  ·exact zl2 h.2 p e
theorem zas {k:Nat} {y:AV}:¬ z2t k .und y:=by intro h; cases y <;> exact h
theorem z7z {k:Nat} {x:AV}:¬ z2t k x .und:=by intro h; cases x <;> exact h
theorem zil {o:Oper} {op:BinOp} {neq:Bool} {t yt:TypeId} {x y:Operand} {ix iy:IOpd} {fs:Array Field} {sh:List (Nat × Nat)} (ho:o.op = .binOp op t x y yt) (hop:op = if neq then .neq else .eql) (ht:P.underlying t = some (.struct fs)) (hg:P.eqGuardType P.depth t = false) (hsh:z1l P 8 t = some sh) (hx:z02 x = some ix) (hy:z02 y = some iy)
  (h:SR w0 Pr0 n μ σ a w) {hid:List Nat} {K:AV->List Nat->Prop} (hE:z05 hid σ K (.feq neq sh ix iy)):Yld P w0 Pr0 μ σ a w o K:=by
 have tx:=h.get hx
 have ty:=h.get hy
 simp only [z05] at hE
 split at hE
 ·rename_i xs ys e1 e2
  obtain ⟨hok,hE⟩:=hE
  rw [e1] at tx; rw [e2] at ty
  obtain ⟨us,hux,hlx,hrx⟩:=VR.agg_inv (show VR (PrOf w0 Pr0 μ σ.H) w (.agg xs) (a.eval x) from tx)
  obtain ⟨vs,hvy,hly,hry⟩:=VR.agg_inv (show VR (PrOf w0 Pr0 μ σ.H) w (.agg ys) (a.eval y) from ty)
  have hfit:∀ p,p ∈ sh->∃ a b,z2t p.2 (xs.getD p.1 .und) (ys.getD p.1 .und)∧us[p.1]? = some a∧vs[p.1]? = some b∧VR (PrOf w0 Pr0 μ σ.H) w (xs.getD p.1 .und) a∧VR (PrOf w0 Pr0 μ σ.H) w (ys.getD p.1 .und) b:=by
   intro p hp
   have hc:=zl2 hok p hp
   have hxl:p.1 < xs.length:=by
    rcases Nat.lt_or_ge p.1 xs.length with h | h
    ·exact h
    ·rw [List.getD_eq_getElem?_getD,List.getElem?_eq_none h] at hc; exact (zas hc).elim
   have hyl:p.1 < ys.length:=by
    rcases Nat.lt_or_ge p.1 ys.length with h | h
    ·exact h
    ·rw [List.getD_eq_getElem?_getD (l:=ys),List.getElem?_eq_none h] at hc; exact (z7z hc).elim
   have ux:us[p.1]? = some (us[p.1]'(by omega)):=List.getElem?_eq_getElem _
   have vy:vs[p.1]? = some (vs[p.1]'(by omega)):=List.getElem?_eq_getElem _
   refine ⟨_,_,hc,ux,vy,?_,?_⟩
   ·rw [List.getD_eq_getElem?_getD,List.getElem?_eq_getElem hxl]
    exact hrx p.1 _ _ (List.getElem?_eq_getElem hxl) ux
   ·rw [List.getD_eq_getElem?_getD,List.getElem?_eq_getElem hyl]
    exact hry p.1 _ _ (List.getElem?_eq_getElem hyl) vy
  -- the struct's own equality
  have heq:(Op.equalIn 10000 t (.agg us.toArray) (.agg vs.toArray)).run P w = .ok (valF xs ys sh) w:=by
   have hst:P.stoodInHeld t = false∧True:=by
    have hsh':=hsh
    rw [z5d 7 ht] at hsh'
    split at hsh'
    ·cases hsh'
    ·rename_i hn; exact ⟨by simpa using hn,trivial⟩
   have hfo:P.fieldsOf t = fs:=by simp [Program.fieldsOf,ht]
   rw [run_equalIn_struct w 9999 t _ _ (by rw [hfo]; exact ht) hst.1,hfo]
   have hsh':=hsh
   rw [z5d 7 ht,hst.1,if_neg (by simp)] at hsh'
   clear hok hE hsh
   generalize fs.toList = fl at hsh'
   induction fl generalizing sh with
   | nil =>
    simp only [List.foldr_nil,Option.some.injEq] at hsh'
    subst hsh'
    simp [Op.eqFields,valF]
   | cons f fl ih =>
    simp only [List.foldr_cons] at hsh'
    split at hsh'
    ·rename_i l j hacc hj
     split at hsh'
     ·cases hsh'
     ·rename_i hname
      split at hsh'
      ·rename_i s hsf
       split at hsh'
       ·rename_i hall
        cases hsh'
        have hall':∀ p,p ∈ s->p.1 < j.size:=fun p hp=>by
         have:=List.all_eq_true.1 hall p hp
         simpa using this
        obtain ⟨df,hdf⟩:=zdr hsf
        have hsub:Fits (Pr:=PrOf w0 Pr0 μ σ.H) (w:=w) xs ys us.toArray vs.toArray (s.map fun p=>(f.offset + p.1,p.2)):=by
         intro p hp
         obtain ⟨a,b,f1,f2,f3,f4,f5⟩:=hfit p (List.mem_append.2 (.inl hp))
         exact ⟨a,b,f1,by rw [List.getElem?_toArray]; exact f2,by rw [List.getElem?_toArray]; exact f3,f4,f5⟩
        obtain ⟨a,b,p1,p2,p3⟩:=z5h 7 hsf hj hdf hall' hsub 9999 (by omega)
        have ih':=ih (fun p hp=>hfit p (List.mem_append.2 (.inr hp))) hacc
        have hname':f.name ≠ "_":=hname
        unfold Op.eqFields
        rw [if_pos hname']
        simp only [Sem.run_bind,p1,p2,p3,Result.andThen_ok]
        rw [z5f]
        cases valF xs ys (s.map fun p=>(f.offset + p.1,p.2)) with
        | false=>simp
        | true=>simp [ih']
       ·cases hsh'
      ·cases hsh'
    ·cases hsh'
  refine Yld.mk0 hE ?_ (TR.of_VR (.bool _))
  subst hop
  cases neq
  ·simp only [execOp,ho,hux,hvy,Bool.false_eq_true,if_false]
   simp [run_eqGuard_agg w .eql t x y us.toArray vs.toArray hg,run_eql_struct,heq]
  ·simp only [execOp,ho,hux,hvy,if_true]
   simp [run_eqGuard_agg w .neq t x y us.toArray vs.toArray hg,run_neq_struct,heq]
 ·exact hE.elim
theorem arr_equal {w:World} {Pr:Nat->Nat->Prop} {t:TypeId} {sh:List (Nat × Nat)} (hsh:z6y P t = some sh) {xs ys:List AV} {us vs:Array Value} (hF:Fits (Pr:=Pr) (w:=w) xs ys us vs sh) :
  (Op.equalIn 10000 t (.agg us) (.agg vs)).run P w = .ok (valF xs ys sh) w:=by
 unfold z6y at hsh
 split at hsh
 ·rename_i m e ht
  split at hsh
  ·rename_i k i he hi
   split at hsh
   ·rename_i hsz
    cases hsh
    have hc:P.cellsOf e = 1:=by simp [Program.cellsOf,hi,hsz]
    rw [run_equalIn_array (d:=9999) (w:=w) us vs ht hi,hc]
    generalize List.range m = is at hF
    induction is with
    | nil=>simp [Op.eqItems,valF]
    | cons j is ih =>
     have hs1:z1l P 1 e = some [(0,0)]:=by simp [z1l,he]
     have hsub:Fits (Pr:=Pr) (w:=w) xs ys us vs ([((0:Nat),(0:Nat))].map fun p=>(j * 1 + p.1,p.2)):=by
      intro p hp
      exact hF p (by simp at hp ⊢; left; rw [hp])
     obtain ⟨a,b,p1,p2,p3⟩:=z5h 1 hs1 hi he (by intro p hp; simp at hp; rw [hp,hsz]; exact Nat.zero_lt_one) hsub 9999 (by omega)
     have ih':=ih fun p hp=>hF p (by simp at hp ⊢; right; exact hp)
     have p4:(Op.equalIn 9999 e a b).run P w = .ok (zat (xs.getD j .und) (ys.getD j .und)) w:=by simpa [valF] using p3
     simp only [Op.eqItems,Sem.run_bind,p1,p2,p4,Result.andThen_ok,List.map_cons,valF]
     cases zat (xs.getD j .und) (ys.getD j .und) with
     | false=>simp
     | true=>simp [ih']
   ·cases hsh
  ·cases hsh
 ·cases hsh
theorem zck {o:Oper} {op:BinOp} {neq:Bool} {t yt:TypeId} {x y:Operand} {ix iy:IOpd} {sh:List (Nat × Nat)} (ho:o.op = .binOp op t x y yt) (hop:op = if neq then .neq else .eql) (hg:P.eqGuardType P.depth t = false) (hsh:z6y P t = some sh) (hx:z02 x = some ix) (hy:z02 y = some iy)
  (h:SR w0 Pr0 n μ σ a w) {hid:List Nat} {K:AV->List Nat->Prop} (hE:z05 hid σ K (.feq neq sh ix iy)):Yld P w0 Pr0 μ σ a w o K:=by
 have tx:=h.get hx
 have ty:=h.get hy
 simp only [z05] at hE
 split at hE
 ·rename_i xs ys e1 e2
  obtain ⟨hok,hE⟩:=hE
  rw [e1] at tx; rw [e2] at ty
  obtain ⟨us,hux,hlx,hrx⟩:=VR.agg_inv (show VR (PrOf w0 Pr0 μ σ.H) w (.agg xs) (a.eval x) from tx)
  obtain ⟨vs,hvy,hly,hry⟩:=VR.agg_inv (show VR (PrOf w0 Pr0 μ σ.H) w (.agg ys) (a.eval y) from ty)
  have hfit:∀ p,p ∈ sh->∃ a b,z2t p.2 (xs.getD p.1 .und) (ys.getD p.1 .und)∧us[p.1]? = some a∧vs[p.1]? = some b∧VR (PrOf w0 Pr0 μ σ.H) w (xs.getD p.1 .und) a∧VR (PrOf w0 Pr0 μ σ.H) w (ys.getD p.1 .und) b:=by
   intro p hp
   have hc:=zl2 hok p hp
   have hxl:p.1 < xs.length:=by
    rcases Nat.lt_or_ge p.1 xs.length with h | h
    ·exact h
    ·rw [List.getD_eq_getElem?_getD,List.getElem?_eq_none h] at hc; exact (zas hc).elim
   have hyl:p.1 < ys.length:=by
    rcases Nat.lt_or_ge p.1 ys.length with h | h
    ·exact h
    ·rw [List.getD_eq_getElem?_getD (l:=ys),List.getElem?_eq_none h] at hc; exact (z7z hc).elim
   have ux:us[p.1]? = some (us[p.1]'(by omega)):=List.getElem?_eq_getElem _
   have vy:vs[p.1]? = some (vs[p.1]'(by omega)):=List.getElem?_eq_getElem _
   refine ⟨_,_,hc,ux,vy,?_,?_⟩
   ·rw [List.getD_eq_getElem?_getD,List.getElem?_eq_getElem hxl]
    exact hrx p.1 _ _ (List.getElem?_eq_getElem hxl) ux
   ·rw [List.getD_eq_getElem?_getD,List.getElem?_eq_getElem hyl]
    exact hry p.1 _ _ (List.getElem?_eq_getElem hyl) vy
  have heq:(Op.equalIn 10000 t (.agg us.toArray) (.agg vs.toArray)).run P w = .ok (valF xs ys sh) w:=by
   refine arr_equal (Pr:=PrOf w0 Pr0 μ σ.H) hsh fun p hp=>?_
   obtain ⟨a,b,f1,f2,f3,f4,f5⟩:=hfit p hp
   exact ⟨a,b,f1,by rw [List.getElem?_toArray]; exact f2,by rw [List.getElem?_toArray]; exact f3,f4,f5⟩
  refine Yld.mk0 hE ?_ (TR.of_VR (.bool _))
  subst hop
  cases neq
  ·simp only [execOp,ho,hux,hvy,Bool.false_eq_true,if_false]
   simp [run_eqGuard_agg w .eql t x y us.toArray vs.toArray hg,run_eql_struct,heq]
  ·simp only [execOp,ho,hux,hvy,if_true]
   simp [run_eqGuard_agg w .neq t x y us.toArray vs.toArray hg,run_neq_struct,heq]
 ·exact hE.elim
theorem za5 (off:Nat):∀ (l:List Value) (k:Nat) (cs:Array Value),off + k + l.length≤cs.size ->
  ((l.zipIdx k).foldl (fun cs (p:Value × Nat)=>cs.setIfInBounds (off + p.2) p.1) cs).toList = cs.toList.take (off + k) ++ l ++ cs.toList.drop (off + k + l.length)
 | [],k,cs,h=>by simp
 | v :: l,k,cs,h=>by
  simp only [List.zipIdx_cons,List.foldl_cons]
  rw [za5 off l (k + 1) _ (by simp at h ⊢; omega),Array.toList_setIfInBounds]
  have hlt:off + k < cs.toList.length:=by simp at h ⊢; omega
  have e1:(cs.toList.set (off + k) v).take (off + (k + 1)) = cs.toList.take (off + k) ++ [v]:=by
   rw [List.set_eq_take_append_cons_drop,if_pos hlt,List.take_append]
   have:(cs.toList.take (off + k)).length = off + k:=by rw [List.length_take]; omega
   rw [this,List.take_take,Nat.min_eq_right (by omega)]
   rw [show off + (k + 1) - (off + k) = 1 by omega]
   simp
  have e2:(cs.toList.set (off + k) v).drop (off + (k + 1) + l.length) = cs.toList.drop (off + k + (v :: l).length):=by
   rw [List.drop_set_of_lt (by omega)]
   congr 1
   simp; omega
  rw [e1,e2]
  simp
theorem VR.cells0 {d:AV} {v:Value} (h:VR Pr w d v):d.cells.length = v.cells.size∧∀ (j:Nat) (c:AV) (u:Value),d.cells[j]? = some c->v.cells[j]? = some u->VR Pr w c u:=by
 have one:∀ {d:AV} {v:Value},VR Pr w d v->d.cells = [d]->v.cells = #[v]->d.cells.length = v.cells.size∧∀ (j:Nat) (c:AV) (u:Value),d.cells[j]? = some c->v.cells[j]? = some u->VR Pr w c u:=by
  intro d v h e1 e2
  rw [e1,e2]
  refine ⟨rfl,fun j c u hj hu=>?_⟩
  cases j with
  | zero=>cases hj; simp at hu; subst hu; exact h
  | succ j=>simp at hj
 cases h with
 | agg cs vs hl hr =>
  refine ⟨by simpa [AV.cells,Value.cells] using hl,fun j c u hj hu=>hr j c u hj ?_⟩
  simpa [Value.cells] using hu
 | cst v h1 =>
  refine one (.cst v h1) rfl ?_
  cases v <;> first | rfl | cases h1
 | int k m=>exact one (.int k m) rfl rfl
 | bool b=>exact one (.bool b) rfl rfl
 | str s=>exact one (.str s) rfl rfl
 | nilp=>exact one .nilp rfl rfl
 | sl l A cap z u h1 h2 h3 h4=>exact one (.sl l A cap z u h1 h2 h3 h4) rfl rfl
 | tup cs vs h1 h2=>exact one (.tup cs vs h1 h2) rfl rfl
 | rp cs b off u h1 h2 h3=>exact one (.rp cs b off u h1 h2 h3) rfl rfl
 | clo f fi ca vf vc h1 h2 h3 h4=>exact one (.clo f fi ca vf vc h1 h2 h3 h4) rfl rfl
 | mv es g ms c h1 h2 h3 h4 h5 h6 h7=>exact one (.mv es g ms c h1 h2 h3 h4 h5 h6 h7) rfl rfl
theorem VR.ofCells {cs:List AV} {us:List Value} (hl:cs.length = us.length) (h:∀ (j:Nat) (c:AV) (u:Value),cs[j]? = some c->us[j]? = some u->VR Pr w c u):VR Pr w (.agg cs) (.agg us.toArray):=.agg cs us hl h
theorem z7k {place:Nat->Option (Nat × Nat)}:∀ (ps:List (Nat × Nat × Nat)) (ds:List AV) (vs:List Value) {cs:List AV} {us:Array Value} {cs':List AV},(∀ p,p ∈ ps->place p.1 = some (p.2.1,p.2.2))->ps.length = ds.length->ds.length = vs.length ->
  (∀ (j:Nat) (d:AV) (v:Value),ds[j]? = some d->vs[j]? = some v->VR Pr w d v)->cs.length = us.size->(∀ (j:Nat) (c:AV) (u:Value),cs[j]? = some c->us[j]? = some u->VR Pr w c u) ->
  zej cs ((ps.zip ds).map fun q=>(q.1.2.1,q.1.2.2,q.2)) = some cs' ->
  ∃ us',Instr.fill place us ((ps.zip vs).map fun q=>(q.1.1,q.2)) = some us'∧cs'.length = us'.size∧∀ (j:Nat) (c:AV) (u:Value),cs'[j]? = some c->us'[j]? = some u->VR Pr w c u
 | [],[],[],cs,us,cs',_,_,_,_,hl,hr,hf=>by
  simp only [List.zip_nil_left,List.map_nil,zej,Option.some.injEq] at hf
  subst hf
  exact ⟨us,rfl,hl,hr⟩
 | p :: ps,d :: ds,v :: vs,cs,us,cs',hp,hl1,hl2,hv,hl,hr,hf=>by
  simp only [List.zip_cons_cons,List.map_cons,zej] at hf
  split at hf
  ·rename_i hc
   obtain ⟨hc1,hc2⟩:=hc
   obtain ⟨k1,k2⟩:=(hv 0 d v rfl rfl).cells0
   have hvs:v.cells.size = p.2.2:=by rw [← k1]; exact hc1
   have hlay:=za5 p.2.1 v.cells.toList 0 us (by simp [hvs]; omega)
   simp only [List.zip_cons_cons,List.map_cons,Instr.fill,hp p (by simp)]
   rw [if_neg (by simp [hvs]; omega)]
   have hfold:(v.cells.zipIdx.foldl (fun cs (q:Value × Nat)=>cs.setIfInBounds (p.2.1 + q.2) q.1) us) = ((v.cells.toList.zipIdx 0).foldl (fun cs (q:Value × Nat)=>cs.setIfInBounds (p.2.1 + q.2) q.1) us):=by
    rw [← Array.foldl_toList,Array.toList_zipIdx]
   show ∃ us',Instr.fill place (v.cells.zipIdx.foldl (fun cs (q:Value × Nat)=>cs.setIfInBounds (p.2.1 + q.2) q.1) us) _ = some us'∧_
   rw [hfold]
   generalize ((v.cells.toList.zipIdx 0).foldl (fun cs (q:Value × Nat)=>cs.setIfInBounds (p.2.1 + q.2) q.1) us) = us2 at hlay ⊢
   simp only [Nat.add_zero,Array.length_toList,hvs] at hlay
   have hsz:us2.size = us.size:=by
    have:=congrArg List.length hlay
    simp [hvs] at this
    omega
   refine z7k ps ds vs (fun q hq=>hp q (by simp [hq])) (by simpa using hl1) (by simpa using hl2) (fun j d' v' hj hj'=>hv (j + 1) d' v' (by simpa using hj) (by simpa using hj')) ?_ ?_ hf
   ·rw [hsz]; simp [hc1]; omega
   ·intro j c u hj hu
    rw [← Array.getElem?_toList,hlay] at hu
    rcases Nat.lt_or_ge j p.2.1 with h1 | h1
    ·rw [List.append_assoc,List.getElem?_append_left (by rw [List.length_take]; omega),List.getElem?_take,if_pos h1] at hj
     rw [List.append_assoc,List.getElem?_append_left (by rw [List.length_take,Array.length_toList]; omega),List.getElem?_take,if_pos h1,Array.getElem?_toList] at hu
     exact hr j c u hj hu
    ·rcases Nat.lt_or_ge j (p.2.1 + p.2.2) with h2 | h2
     ·rw [List.append_assoc,List.getElem?_append_right (by rw [List.length_take]; omega),List.length_take,Nat.min_eq_left (by omega),List.getElem?_append_left (by omega)] at hj
      rw [List.append_assoc,List.getElem?_append_right (by rw [List.length_take,Array.length_toList]; omega),List.length_take,Array.length_toList,Nat.min_eq_left (by omega),List.getElem?_append_left (by rw [Array.length_toList]; omega),Array.getElem?_toList] at hu
      exact k2 _ c u hj hu
     ·rw [List.getElem?_append_right (by rw [List.length_append,List.length_take]; omega),List.length_append,List.length_take,Nat.min_eq_left (by omega),hc1,List.getElem?_drop,show p.2.1 + p.2.2 + (j - (p.2.1 + p.2.2)) = j by omega] at hj
      rw [List.getElem?_append_right (by rw [List.length_append,List.length_take,Array.length_toList,Array.length_toList]; omega),List.length_append,List.length_take,Array.length_toList,Array.length_toList,Nat.min_eq_left (by omega),hvs,List.getElem?_drop,show p.2.1 + p.2.2 + (j - (p.2.1 + p.2.2)) = j by omega,Array.getElem?_toList] at hu
      exact hr j c u hj hu
  ·cases hf
 | [],_ :: _,_,_,_,_,_,h,_,_,_,_,_=>by simp at h
 | _ :: _,[],_,_,_,_,_,h,_,_,_,_,_=>by simp at h
 | _,[],_ :: _,_,_,_,_,_,h,_,_,_,_=>by simp at h
 | _,_ :: _,[],_,_,_,_,_,h,_,_,_,_=>by simp at h
theorem z4p {α β:Type} {f:α->Option β}:∀ {l:List α} {r:List β},l.mapM f = some r->l.length = r.length∧∀ (j:Nat) (x:α) (y:β),l[j]? = some x->r[j]? = some y->f x = some y
 | [],r,h=>by
  simp at h; subst h
  exact ⟨rfl,fun j x y h=>by simp at h⟩
 | x :: l,r,h=>by
  simp only [List.mapM_cons,Option.bind_eq_bind,Option.pure_def] at h
  cases hx:f x with
  | none=>rw [hx] at h; cases h
  | some y =>
   cases hl:l.mapM f with
   | none=>rw [hx,hl] at h; cases h
   | some ys =>
    rw [hx,hl] at h
    cases h
    obtain ⟨k1,k2⟩:=z4p hl
    refine ⟨by simp [k1],fun j x' y' hj hj'=>?_⟩
    cases j with
    | zero=>cases hj; cases hj'; exact hx
    | succ j=>exact k2 j x' y' hj hj'
theorem zj2:∀ (pa:List (Nat × Operand)) (ps:List Part) (vs:List AV),pa.length = ps.length ->
  (((pa.zip ps).map fun q=>(q.1.1,q.2.off,q.2.z)).zip vs).map (fun q=>(q.1.2.1,q.1.2.2,q.2)) = (ps.zip vs).map fun q=>(q.1.off,q.1.z,q.2)
 | [],[],vs,_=>by simp
 | x :: pa,p :: ps,[],_=>by simp
 | x :: pa,p :: ps,v :: vs,h=>by simp [zj2 pa ps vs (by simpa using h)]
 | [],_ :: _,_,h=>by simp at h
 | _ :: _,[],_,h=>by simp at h
theorem zcx (a:Act):∀ (pa:List (Nat × Operand)) (ps:List Part),pa.length = ps.length ->
  pa.map (fun q=>(q.1,a.eval q.2)) = (((pa.zip ps).map fun q=>(q.1.1,q.2.off,q.2.z)).zip (pa.map fun p=>a.eval p.2)).map fun q=>(q.1.1,q.2)
 | [],[],_=>by simp
 | x :: pa,p :: ps,h=>by simp [zcx a pa ps (by simpa using h)]
 | [],_ :: _,h=>by simp at h
 | _ :: _,[],h=>by simp at h
theorem bld_sound {o : Oper} {t : TypeId} {parts : Array (Nat × Operand)} {it : TypeInfo} {fs : Array Field} {zs : Array Value} {zero : List AV} {pl : List (Nat × Nat)} {ps : List Part} (ho : o.op = .build t parts) (h1 : P.info? t = some it) (h2 : P.underlying t = some (.struct fs)) (h3 : it.zero = some (.agg zs))
    (h4 : zs.toList.mapM (z16 pv) = some zero) (h5 : fs.toList.mapM (fun f => (P.info? f.type).map fun j => (f.offset, j.size)) = some pl)
    (h6 : parts.toList.mapM (fun p => match pl[p.1]?, z02 p.2 with
            | some q, some x => some (⟨q.1, q.2, x⟩ : Part)
            | _, _ => none) = some ps)
    (h : SR w0 Pr0 n μ σ a w) {hid : List Nat} {K : AV → List Nat → Prop} (hE : z05 hid σ K (.bld zero ps)) : Yld P w0 Pr0 μ σ a w o K := by
  simp only [z05] at hE
  split at hE
  · rename_i vs fz e1
    split at hE
    · rename_i cs e2
      obtain ⟨m1, m2⟩ := z4p h4
      obtain ⟨p1, p2⟩ := z4p h6
      have hpart : ∀ (j : Nat) (x : Nat × Operand) (y : Part), parts.toList[j]? = some x → ps[j]? = some y → pl[x.1]? = some (y.off, y.z) ∧ z02 x.2 = some y.x := by
        intro j x y hj hj'
        have := p2 j x y hj hj'
        split at this
        · rename_i q i g1 g2
          cases this
          exact ⟨g1, g2⟩
        · cases this
      have hS : SR w0 Pr0 n μ (σ.fzs fz) a w := SR.fzs h
      have hlen : (ps.map fun p => σ.get p.x).length = (parts.toList.map fun p => a.eval p.2).length := by simp [p1]
      obtain ⟨q1, q2⟩ := h.byvals hS e1 hlen (fun j d v hj hj' => by
        rw [List.getElem?_map, Option.map_eq_some_iff] at hj hj'
        obtain ⟨y, hy, rfl⟩ := hj
        obtain ⟨x, hx, rfl⟩ := hj'
        exact h.get (hpart j x y hx hy).2) (fun s arr hs => z1x s arr hs)
      let tr : List (Nat × Nat × Nat) := (parts.toList.zip ps).map fun q => (q.1.1, q.2.off, q.2.z)
      have htr : tr.length = vs.length := by
        simp only [tr, List.length_map, List.length_zip, q1]
        omega
      have hmem : ∀ p, p ∈ tr → (fun x => pl[x]?) p.1 = some (p.2.1, p.2.2) := by
        intro p hp
        obtain ⟨q, hq, rfl⟩ := List.mem_map.1 hp
        obtain ⟨j, hj⟩ := List.getElem?_of_mem hq
        rw [List.getElem?_zip_eq_some] at hj
        exact (hpart j _ _ hj.1 hj.2).1
      have hz1 : zero.length = zs.size := by rw [← m1]; simp
      have hz2 : ∀ (j : Nat) (c : AV) (u : Value), zero[j]? = some c → zs[j]? = some u → VR (PrOf w0 Pr0 μ (σ.fzs fz).H) w c u := by
        intro j c u hj hu
        rw [← Array.getElem?_toList] at hu
        exact z2z (m2 j u c hu hj)
      have hfill : zej zero ((tr.zip vs).map fun q => (q.1.2.1, q.1.2.2, q.2)) = some cs := by
        rw [← e2]
        congr 1
        exact zj2 _ _ _ p1
      obtain ⟨us', f1, f2, f3⟩ := z7k tr vs _ hmem htr q1 q2 hz1 hz2 hfill
      refine ⟨_, fz, _, hE, ?_, TR.of_VR (VR.ofCells (cs := cs) (us := us'.toList) (by simpa using f2) (fun j c u hj hu => f3 j c u hj (by simpa using hu)))⟩
      simp only [execOp, ho]
      have hb : P.built t (parts.map fun (i, x) => (i, a.eval x)).toList = some us' := by
        simp only [Program.built, h1, h2, h3, h5]
        have e : (parts.map fun (i, x) => (i, a.eval x)).toList = (tr.zip (parts.toList.map fun p => a.eval p.2)).map fun q => (q.1.1, q.2) := by
          have : (parts.map fun (i, x) => (i, a.eval x)).toList = parts.toList.map fun q => (q.1, a.eval q.2) := by simp
          rw [this]
          exact zcx a _ _ p1
        rw [e]
        simpa [Value.cells] using f1
      rw [Sem.run_bind, run_build w t _ us' hb]
      simp
    · exact hE.elim
  · exact hE.elim
theorem bldA_sound {o : Oper} {t : TypeId} {parts : Array (Nat × Operand)} {it : TypeInfo} {len : Nat} {e : TypeId} {jt : TypeInfo} {zs : Array Value} {zero : List AV} {ps : List Part} (ho : o.op = .build t parts) (h1 : P.info? t = some it) (h2 : P.underlying t = some (.array len e)) (h3 : it.zero = some (.agg zs))
    (h4 : zs.toList.mapM (z16 pv) = some zero) (h5 : P.info? e = some jt)
    (h6 : parts.toList.mapM (fun p => match ((List.range len).map fun k => (k * jt.size, jt.size))[p.1]?, z02 p.2 with
            | some q, some x => some (⟨q.1, q.2, x⟩ : Part)
            | _, _ => none) = some ps)
    (h : SR w0 Pr0 n μ σ a w) {hid : List Nat} {K : AV → List Nat → Prop} (hE : z05 hid σ K (.bld zero ps)) : Yld P w0 Pr0 μ σ a w o K := by
  simp only [z05] at hE
  split at hE
  · rename_i vs fz e1
    split at hE
    · rename_i cs e2
      obtain ⟨m1, m2⟩ := z4p h4
      obtain ⟨p1, p2⟩ := z4p h6
      have hpart : ∀ (j : Nat) (x : Nat × Operand) (y : Part), parts.toList[j]? = some x → ps[j]? = some y → some (x.1 * jt.size, jt.size) = some (y.off, y.z) ∧ z02 x.2 = some y.x := by
        intro j x y hj hj'
        have := p2 j x y hj hj'
        split at this
        · rename_i q i g1 g2
          cases this
          rw [List.getElem?_map, Option.map_eq_some_iff] at g1
          obtain ⟨k, hk, rfl⟩ := g1
          have hk' := (List.getElem?_eq_some_iff.1 hk).2
          rw [List.getElem_range] at hk'
          rw [hk']
          exact ⟨rfl, g2⟩
        · cases this
      have hS : SR w0 Pr0 n μ (σ.fzs fz) a w := SR.fzs h
      have hlen : (ps.map fun p => σ.get p.x).length = (parts.toList.map fun p => a.eval p.2).length := by simp [p1]
      obtain ⟨q1, q2⟩ := h.byvals hS e1 hlen (fun j d v hj hj' => by
        rw [List.getElem?_map, Option.map_eq_some_iff] at hj hj'
        obtain ⟨y, hy, rfl⟩ := hj
        obtain ⟨x, hx, rfl⟩ := hj'
        exact h.get (hpart j x y hx hy).2) (fun s arr hs => z1x s arr hs)
      let tr : List (Nat × Nat × Nat) := (parts.toList.zip ps).map fun q => (q.1.1, q.2.off, q.2.z)
      have htr : tr.length = vs.length := by
        simp only [tr, List.length_map, List.length_zip, q1]
        omega
      have hmem : ∀ p, p ∈ tr → (fun i => some (i * jt.size, jt.size)) p.1 = some (p.2.1, p.2.2) := by
        intro p hp
        obtain ⟨q, hq, rfl⟩ := List.mem_map.1 hp
        obtain ⟨j, hj⟩ := List.getElem?_of_mem hq
        rw [List.getElem?_zip_eq_some] at hj
        exact (hpart j _ _ hj.1 hj.2).1
      have hz1 : zero.length = zs.size := by rw [← m1]; simp
      have hz2 : ∀ (j : Nat) (c : AV) (u : Value), zero[j]? = some c → zs[j]? = some u → VR (PrOf w0 Pr0 μ (σ.fzs fz).H) w c u := by
        intro j c u hj hu
        rw [← Array.getElem?_toList] at hu
        exact z2z (m2 j u c hu hj)
      have hfill : zej zero ((tr.zip vs).map fun q => (q.1.2.1, q.1.2.2, q.2)) = some cs := by
        rw [← e2]
        congr 1
        exact zj2 _ _ _ p1
      obtain ⟨us', f1, f2, f3⟩ := z7k (place := fun i => some (i * jt.size, jt.size)) tr vs _ hmem htr q1 q2 hz1 hz2 hfill
      refine ⟨_, fz, _, hE, ?_, TR.of_VR (VR.ofCells (cs := cs) (us := us'.toList) (by simpa using f2) (fun j c u hj hu => f3 j c u hj (by simpa using hu)))⟩
      simp only [execOp, ho]
      have hb : P.built t (parts.map fun (i, x) => (i, a.eval x)).toList = some us' := by
        simp only [Program.built, h1, h2, h3, h5]
        have e : (parts.map fun (i, x) => (i, a.eval x)).toList = (tr.zip (parts.toList.map fun p => a.eval p.2)).map fun q => (q.1.1, q.2) := by
          have : (parts.map fun (i, x) => (i, a.eval x)).toList = parts.toList.map fun q => (q.1, a.eval q.2) := by simp
          rw [this]
          exact zcx a _ _ p1
        rw [e]
        simpa [Value.cells] using f1
      rw [Sem.run_bind, run_build w t _ us' hb]
      simp
    · exact hE.elim
  · exact hE.elim
theorem zlw {o:Oper} {io:IOp} (hc:zba pv P o.op = some io) (h:SR w0 Pr0 n μ σ a w) {hid:List Nat} {K:AV->List Nat->Prop} (hE:z05 hid σ K io):Yld P w0 Pr0 μ σ a w o K:=by
 unfold zba at hc
 split at hc
 ·rename_i x ho
  rw [Option.map_eq_some_iff] at hc
  obtain ⟨ix,hx,rfl⟩:=hc
  exact zq7 (by simp [execOp,ho]) hx h hE
 ·rename_i x ho
  rw [Option.map_eq_some_iff] at hc
  obtain ⟨ix,hx,rfl⟩:=hc
  exact zq7 (by simp [execOp,ho]) hx h hE
 ·rename_i c x y ho
  split at hc
  ·rename_i h1 h2 h3; cases hc; exact pick_sound ho h1 h2 h3 h hE
  ·cases hc
 ·rename_i op t x y yt ho
  split at hc
  ·rename_i h1 h2
   split at hc
   ·rename_i ht; cases hc; exact ziy (neq:=false) ho rfl ht h1 h2 h hE
   ·rename_i ht; cases hc; exact ziy (neq:=true) ho rfl ht h1 h2 h hE
   ·rename_i fs ht
    split at hc
    ·cases hc
    ·rename_i hg
     rw [Option.map_eq_some_iff] at hc
     obtain ⟨sh,hs,rfl⟩:=hc
     exact zil (neq:=false) ho rfl ht (by simpa using hg) hs h1 h2 h hE
   ·rename_i fs ht
    split at hc
    ·cases hc
    ·rename_i hg
     rw [Option.map_eq_some_iff] at hc
     obtain ⟨sh,hs,rfl⟩:=hc
     exact zil (neq:=true) ho rfl ht (by simpa using hg) hs h1 h2 h hE
   ·rename_i m e ht
    split at hc
    ·cases hc
    ·rename_i hg
     rw [Option.map_eq_some_iff] at hc
     obtain ⟨sh,hs,rfl⟩:=hc
     exact zck (neq:=false) ho rfl (by simpa using hg) hs h1 h2 h hE
   ·rename_i m e ht
    split at hc
    ·cases hc
    ·rename_i hg
     rw [Option.map_eq_some_iff] at hc
     obtain ⟨sh,hs,rfl⟩:=hc
     exact zck (neq:=true) ho rfl (by simpa using hg) hs h1 h2 h hE
   ·cases hc; exact bin_sound ho h1 h2 h hE
  ·cases hc
 ·rename_i op t x ho
  rw [Option.map_eq_some_iff] at hc
  obtain ⟨ix,hx,rfl⟩:=hc
  exact un_sound ho hx h hE
 ·rename_i x i ho
  rw [Option.map_eq_some_iff] at hc
  obtain ⟨ix,hx,rfl⟩:=hc
  exact ext_sound ho hx h hE
 ·rename_i t x ho
  split at hc
  ·rename_i z agg ix h1 h2
   split at hc
   ·rename_i hz; cases hc
    split at hE
    ·exact zld ho h1 hz h2 h hE
    ·exact zce ho h1 hz h2 h hE
   ·cases hc
  ·cases hc
 ·rename_i s x f ho
  split at hc
  ·rename_i fs ix h1 h2
   split at hc
   ·rename_i fl h3
    split at hc
    ·rename_i i h4
     split at hc
     ·cases hc
     ·rename_i hz; cases hc; exact zlu ho h1 h3 h4 hz h2 h hE
    ·cases hc
   ·cases hc
  ·cases hc
 ·rename_i s x f ho
  split at hc
  ·rename_i fs ix h1 h2
   split at hc
   ·rename_i fl h3
    split at hc
    ·rename_i z agg h4; cases hc; exact fld_sound ho h1 h3 h4 h2 h hE
    ·cases hc
   ·cases hc
  ·cases hc
 ·rename_i t x i ho
  split at hc
  ·rename_i e ix ii h1 h2 h3
   split at hc
   ·rename_i j h4
    split at hc
    ·cases hc
    ·rename_i hz; cases hc; exact zlj ho h1 h4 hz h2 h3 h hE
   ·cases hc
  ·rename_i len e ix n0 h1 h2 h3
   split at hc
   ·rename_i j h4
    split at hc
    ·rename_i hn; cases hc; exact zif ho h1 h4 hn.1 hn.2.1 h2 h3 h hE
    ·cases hc
   ·cases hc
  ·cases hc
 ·rename_i t x i ho
  split at hc
  ·rename_i ix ii h1 h2 h3; cases hc; exact idx_sound ho h1 h2 h3 h hE
  ·rename_i len e ix ii h1 h2 h3
   split at hc
   ·rename_i z agg h4; cases hc; exact idxA_sound ho h1 h4 h2 h3 h hE
   ·cases hc
  ·cases hc
 ·rename_i t x lo hi ho
  split at hc
  ·rename_i ix il ih h1 h2 h3 h4; cases hc; exact slcS_sound ho h1 h2 h3 h4 h hE
  ·rename_i e ix il ih h1 h2 h3 h4
   split at hc
   ·rename_i j h5
    split at hc
    ·cases hc
    ·rename_i hz; cases hc
     cases pv with
     | false=>exact zbh ho h1 h5 hz h2 h3 h4 h hE
     | true=>exact slcK_sound ho h1 h5 hz h2 h3 h4 h hE
   ·cases hc
  ·cases hc
 ·rename_i src dst x ho
  split at hc
  ·rename_i k' k ix h1 h2 h3; cases hc; exact conv_sound ho h1 h2 h3 h hE
  ·rename_i ix h1 h2 h3; cases hc; exact zme ho h1 h2 h3 h hE
  ·cases hc
 ·rename_i f first caps ho
  split at hc
  ·rename_i i1 i2 h1 h2; cases hc; exact mkfn_sound ho h1 h2 h hE
  ·cases hc
 ·rename_i t parts ho
  split at hc
  ·rename_i it fs h1 h2
   split at hc
   ·rename_i zs h3
    split at hc
    ·rename_i zero pl h4 h5
     split at hc
     ·rename_i ps h6; cases hc; exact bld_sound ho h1 h2 h3 h4 h5 h6 h hE
     ·cases hc
    ·cases hc
   ·cases hc
  ·rename_i it len e h1 h2
   split at hc
   ·rename_i zs j h3 h5
    split at hc
    ·rename_i zero h4
     split at hc
     ·rename_i ps h6; cases hc; exact bldA_sound ho h1 h2 h3 h4 h5 h6 h hE
     ·cases hc
    ·cases hc
   ·cases hc
  ·cases hc
 ·rename_i c ho
  split at hc
  ·rename_i x t h1 h2 h3
   split at hc
   ·rename_i h4
    rw [Option.map_eq_some_iff] at hc
    obtain ⟨ix,hx,rfl⟩:=hc
    exact lenS_sound ho h1 h2 h3 h4 hx h hE
   ·rename_i e h4
    rw [Option.map_eq_some_iff] at hc
    obtain ⟨ix,hx,rfl⟩:=hc
    exact lenL_sound ho h1 h2 h3 h4 hx h hE
   ·cases hc
  ·rename_i x y h1 h2
   split at hc
   ·rename_i h3 h4; cases hc; exact zq4 (b:=true) ho h1 h2 h3 h4 h hE
   ·cases hc
  ·rename_i x y h1 h2
   split at hc
   ·rename_i h3 h4; cases hc; exact zq4 (b:=false) ho h1 h2 h3 h4 h hE
   ·cases hc
  ·cases hc
 ·cases hc
end
end Go.Proofs.YtlhblpbfhfhlpaaGreatDoor
end
section
namespace Go.Proofs.YtlhblpbfhfhlpaaGreatDoor
open Go.RowKit
def z1p (P:Program) (f:FuncId):Bool:=match P.funcs[f]? with
 | some fn=>fn.name != "runtime.NumGoroutine" && fn.body.isSome
 | none=>false
def OwnRes (Pr:Nat->Nat->Prop) (base:Nat) (w:World) (z:Nat) (ty:TypeId) (l:List AV) (v:Value):Prop :=
 0 < z∧(∀ d,d ∈ l->d.cells.length = z∧∀ c,c ∈ d.cells->c.one = true) ∧
 ((l = []∧v = .slice none 0 0)∨∃ g cap cs,v = .slice (some ⟨g,0,none⟩) l.length cap∧base≤g∧w.heap[g]? = some (.cells cs ty (0,0))∧cap * z = cs.size∧l.length≤cap∧cap≤maxLen ∧
  ∀ (i:Nat) (d:AV) (j:Nat) (c:AV),l[i]? = some d->d.cells[j]? = some c->∃ u,cs[i * z + j]? = some u∧VR (fun b o=>Pr b o∧b ≠ g) w c u)
def RR (Pr:Nat->Nat->Prop) (base:Nat) (w:World):AV->Value->Prop
 | .own z ty l,v=>OwnRes Pr base w z ty l v
 | d,v=>VR Pr w d v
structure AFn (P:Program) (f:FuncId) (args:List AV) (r:AV):Prop where
 ok:z1p P f = true
 calls:∀ (w:World) (Pr:Nat->Nat->Prop) (vs:List Value),Glob w->(∀ b o,Pr b o->b < w.heap.size)->args.length = vs.length ->
  (∀ (j:Nat) (d:AV) (v:Value),args[j]? = some d->vs[j]? = some v->VR Pr w d v) ->
  Calls P f vs.toArray w fun e w'=>∃ v,e = .returned v∧Below w.heap.size w w'∧RR (fun b o=>Pr b o∨w.heap.size≤b) w.heap.size w' r v
mutual
def AV.flatB:AV->Bool
 | .int .. | .bool _ | .str _ | .nilp | .cst _=>true
 | .agg cs=>AV.flatBs cs
 | .tup vs=>AV.flatBs vs
 | _=>false
def AV.flatBs:List AV->Bool
 | []=>true
 | v :: l=>v.flatB && AV.flatBs l
end
mutual
theorem AV.flat_of:∀ (d:AV),d.flatB = true->Flat d
 | .int k n,_=>.int k n
 | .bool b,_=>.bool b
 | .str s,_=>.str s
 | .nilp,_=>.nilp
 | .cst v,_=>.cst v
 | .agg cs,h=>.agg cs (AV.flats_of cs (by simpa [AV.flatB] using h))
 | .tup cs,h=>.tup cs (AV.flats_of cs (by simpa [AV.flatB] using h))
 | .und,h=>by simp [AV.flatB] at h
 | .sl _,h=>by simp [AV.flatB] at h
 | .rp _,h=>by simp [AV.flatB] at h
 | .clo ..,h=>by simp [AV.flatB] at h
 | .ptr ..,h=>by simp [AV.flatB] at h
 | .rs ..,h=>by simp [AV.flatB] at h
 | .own ..,h=>by simp [AV.flatB] at h
theorem AV.flats_of:∀ (l:List AV),AV.flatBs l = true->∀ c,c ∈ l->Flat c
 | [],_,c,hc=>by cases hc
 | v :: l,h,c,hc=>by
  simp only [AV.flatBs,Bool.and_eq_true] at h
  rcases List.mem_cons.1 hc with e | e
  ·rw [e]; exact AV.flat_of v h.1
  ·exact AV.flats_of l h.2 c e
end
def z1e (dst:Nat) (fz:List Nat) (K:AV->Option Arr->List Nat->Prop):AV->Prop
 | .own z ty l=>K (.rs dst 0 l.length) (some ⟨z,ty,l,0⟩) fz
 | r=>if r.flatB then K r none [] else K r none fz
def AV.byteB:AV->Bool
 | .int .u8 n=>decide (0≤n) && decide (n < 256)
 | _=>false
def AV.toB:AV->UInt8
 | .int _ n=>UInt8.ofNat n.toNat
 | _=>0
def z3u:Nat->List AV->Prop
 | 0,[.str s]=>s.size≤9223372036854775807
 | 1,[.sl l]=>l.all AV.byteB = true
 | 2,[.int _ bytes,.int _ z,.int _ _,zero,.int .i64 n]=>0≤n∧n≤9223372036854775807∧bytes * n≤281474976710656∧0≤bytes∧zero.cells.length = z.toNat∧0 < z.toNat∧zero.cells.all AV.one = true
 | 3,[.int _ _,.int _ b]=>0≤b
 | 4,[.int _ _,.int _ b]=>0≤b
 | _,_=>False
def z1n:Nat->List AV->AV
 | 0,[.str s]=>.sl (s.data.toList.map fun b=>.int .u8 (b.toNat:Int))
 | 1,[.sl l]=>.str ⟨(l.map AV.toB).toArray⟩
 | 2,[.int _ _,.int _ z,.int _ ty,zero,.int _ n]=>.own z.toNat ty.toNat (List.replicate n.toNat zero)
 | 3,[.int k a,.int _ b]=>.int k (k.wrap (a * 2 ^ min b.toNat k.bits))
 | 4,[.int k a,.int _ b]=>.int k (a.fdiv (2 ^ min b.toNat k.bits))
 | _,_=>.und
def z0x (C:FuncId->List AV->AV->Prop) (dst:Nat) (hid:List Nat) (σ:St) (K:AV->Option Arr->List Nat->Prop):IOp->Prop
 | .alloc z ty zero=>zero.cells.length = z∧0 < z∧zero.cells.all AV.one = true∧K (.ptr dst 0 0) (some ⟨z,ty,[zero],0⟩) []
 | .box z ty x=>match σ.byval hid (σ.get x) with
  | some (d,fz)=>d.cells.length = z∧0 < z∧d.cells.all AV.one = true∧K (.ptr dst 0 0) (some ⟨z,ty,[d],0⟩) fz
  | none=>False
 | .mknil z ty=>0 < z∧K (.rs dst 0 0) (some ⟨z,ty,[],0⟩) []
 | .bsl z ty xs=>match σ.byvals hid (xs.map σ.get) with
  | some (ds,fz)=>0 < z∧(∀ d,d ∈ ds->d.cells.length = z∧d.cells.all AV.one = true)∧K (.rs dst 0 ds.length) (some ⟨z,ty,ds,0⟩) fz
  | none=>False
 | .callv fx xs=>match σ.get fx with
  | .clo f first caps=>match σ.byvals hid (xs.map σ.get) with
   | some (ds,fz)=>∃ r,C f (first ++ ds ++ caps) r∧z1e dst fz K r
   | none=>False
  | _=>False
 | .call p xs=>match σ.byvals hid (xs.map σ.get) with
  | some (ds,fz)=>z3u p ds∧z1e dst fz K (z1n p ds)
  | none=>False
 | io=>z05 hid σ (fun v fz=>K v none fz) io
def St.made (σ:St) (dst:Nat) (v:AV) (s:Option Arr):St:=⟨upd σ.T dst v,match s with
 | some arr=>upd σ.H dst (some arr)
 | none=>σ.H⟩
section
variable {P:Program} {w0:Start} {Pr0:Nat->Nat->Prop} {n:Nat} {μ:Nat->Option Nat} {σ:St} {a:Act} {w:World} {Pr:Nat->Nat->Prop} {H:Nat->Option Arr}
theorem SR.adopt' (h:SR w0 Pr0 n μ σ a w) {w':World} (hb:Below w.heap.size w w') {g:Nat} (hg:w.heap.size≤g) {d:Nat} (hd1:d < 1000) (hd:σ.H d = none) (hT:∀ t,(σ.T t).name ≠ some d) {arr:Arr} (hp:arr.prot = 0) (hz:0 < arr.z)
  (hones:∀ x,x ∈ arr.cells->x.cells.length = arr.z∧∀ c,c ∈ x.cells->c.one = true) (hlt:g < w'.heap.size)
  (hO:(arr.cells = []∧∃ ms c,w'.heap[g]? = some (.map ms c))∨∃ cs:Array Value,w'.heap[g]? = some (.cells cs arr.ty (0,0))∧arr.cells.length * arr.z≤cs.size ∧
   ∀ (i:Nat) (x:AV) (j:Nat) (c:AV),arr.cells[i]? = some x->x.cells[j]? = some c->∃ u,cs[i * arr.z + j]? = some u∧VR (fun b o=>PrOf w0 Pr0 μ σ.H b o∧b ≠ g) w' c u) :
  SR w0 Pr0 n (upd μ d (some g)) ⟨σ.T,upd σ.H d (some arr)⟩ a w':=by
 have hμd:μ d = none:=by
  cases e:μ d with
  | none=>rfl
  | some b=>have:=h.live d b e; rw [hd] at this; cases this
 have h':=h.grow hb
 have hne:∀ r b,μ r = some b->b ≠ g:=fun r b hr e=>by have:=(h.range r b hr).2; omega
 have kpr:∀ b o,PrOf w0 Pr0 μ σ.H b o->b ≠ g->PrOf w0 Pr0 (upd μ d (some g)) (upd σ.H d (some arr)) b o:=by
  intro b o hp hbg
  refine ⟨hp.1,fun r hr=>?_⟩
  by_cases e:r = d
  ·subst e; rw [z03] at hr; cases hr; exact absurd rfl hbg
  ·rw [z04 _ _ e] at hr ⊢; exact hp.2 r hr
 have k:Kept (PrOf w0 Pr0 μ σ.H) (PrOf w0 Pr0 (upd μ d (some g)) (upd σ.H d (some arr))) w w' :=
  ⟨hb.size,fun b o hlt hp=>kpr b o hp (by omega),fun b o hlt _=>hb.cell (p:=⟨b,o,none⟩) hlt,fun b ms c hlt _ e=>by rw [hb.block b hlt]; exact e⟩
 have k2:Kept (fun b o=>PrOf w0 Pr0 μ σ.H b o∧b ≠ g) (PrOf w0 Pr0 (upd μ d (some g)) (upd σ.H d (some arr))) w' w' :=
  ⟨Nat.le_refl _,fun b o _ hp=>kpr b o hp.1 hp.2,fun _ _ _ _=>rfl,fun _ _ _ _ _ h=>h⟩
 have tr:∀ v u,v.name ≠ some d->TR (PrOf w0 Pr0 μ σ.H) μ σ.H w v u->TR (PrOf w0 Pr0 (upd μ d (some g)) (upd σ.H d (some arr))) (upd μ d (some g)) (upd σ.H d (some arr)) w' v u:=by
  intro v u hn ht
  cases v with
  | und=>trivial
  | own=>exact ht
  | clom f r =>
   have hr:r ≠ d:=fun e=>hn (by rw [e]; rfl)
   intro ar har
   have har:=(z04 σ.H _ hr).symm.trans har
   rw [z04 _ _ hr]
   exact ht ar har
  | mp r es =>
   have hr:r ≠ d:=fun e=>hn (by rw [e]; rfl)
   intro ar har
   have har:=(z04 σ.H _ hr).symm.trans har
   rw [z04 _ _ hr]
   obtain ⟨b,ms,c,q1,q2,q3,q4⟩:=ht ar har
   exact ⟨b,ms,c,q1,q2,by rw [hb.block b (h.range r b q1).2]; exact q3,q4.kept k⟩
  | ptr r i f =>
   have hr:r ≠ d:=fun e=>hn (by rw [e]; rfl)
   intro ar har
   have har:=(z04 σ.H _ hr).symm.trans har
   rw [z04 _ _ hr]
   exact ht ar har
  | rs r off len =>
   have hr:r ≠ d:=fun e=>hn (by rw [e]; rfl)
   intro ar har
   have har:=(z04 σ.H _ hr).symm.trans har
   rw [z04 _ _ hr]
   rcases ht ar har with q | ⟨b,cap,cs',q1,q2,q3,q4⟩
   ·exact .inl q
   ·exact .inr ⟨b,cap,cs',q1,q2,by rw [hb.block b (h.range r b q1).2]; exact q3,q4⟩
  | vrs r off len u0 =>
   have hr:r ≠ d:=fun e=>hn (by rw [e]; rfl)
   intro ar har
   have har:=(z04 σ.H _ hr).symm.trans har
   rw [z04 _ _ hr]
   rcases ht ar har with q | ⟨b,cap,cs',q1,q2,q3,q4⟩
   ·exact .inl q
   ·exact .inr ⟨b,cap,cs',q1,q2,by rw [hb.block b (h.range r b q1).2]; exact q3,q4⟩
  | _=>exact VR.kept k ht
 refine ⟨h'.below,fun r r' b hr hr'=>?_,fun r b hr=>?_,fun r b hr=>?_,h.size,fun t=>tr _ _ (hT t) (h.tmp t),fun r ar har=>?_,h.defers,h.glob,h.small,fun v u hf=>⟨(h.frame v u hf).1,tr v u (fun e=>by have:=(h.frame v u hf).1 d e; omega) (h.frame v u hf).2⟩⟩
 ·by_cases e:r = d
  ·subst e; rw [z03] at hr; cases hr
   by_cases e':r' = r
   ·exact e'.symm
   ·rw [z04 _ _ e'] at hr'; exact absurd rfl (hne r' _ hr')
  ·rw [z04 _ _ e] at hr
   by_cases e':r' = d
   ·subst e'; rw [z03] at hr'; cases hr'; exact absurd rfl (hne r _ hr)
   ·rw [z04 _ _ e'] at hr'; exact h.inj r r' b hr hr'
 ·by_cases e:r = d
  ·subst e; rw [z03] at hr; cases hr
   exact ⟨Nat.le_trans h.below.size hg,hlt⟩
  ·rw [z04 _ _ e] at hr; exact h'.range r b hr
 ·show (upd σ.H d (some arr) r).isSome
  by_cases e:r = d
  ·subst e; rw [z03]; rfl
  ·rw [z04 _ _ e] at hr ⊢; exact h.live r b hr
 ·have har':upd σ.H d (some arr) r = some ar:=har
  by_cases e:r = d
  ·subst e
   rw [z03] at har'
   cases har'
   refine ⟨hz,by rw [hp]; exact Nat.zero_le _,hones,?_⟩
   rw [z03]
   rcases hO with q | ⟨cs,hblk,hsz,hel⟩
   ·exact .inl q
   exact .inr ⟨cs,hblk,hsz,fun i x j c hi hj=>let ⟨u,q1,q2⟩:=hel i x j c hi hj; ⟨u,q1,q2.kept k2⟩⟩
  ·rw [z04 _ _ e] at har'
   obtain ⟨q1,q2,q3,q4⟩:=h.obj r ar har'
   refine ⟨q1,q2,q3,?_⟩
   rw [z04 _ _ e]
   cases hr:μ r with
   | none=>rw [hr] at q4; exact q4
   | some b =>
    rw [hr] at q4
    rcases q4 with ⟨p0,ms,c,p1⟩ | ⟨cs',p1,p2,p3⟩
    ·exact .inl ⟨p0,ms,c,by rw [hb.block b (h.range r b hr).2]; exact p1⟩
    exact .inr ⟨cs',by rw [hb.block b (h.range r b hr).2]; exact p1,p2,fun i x j c hi hj=>let ⟨u,m1,m2⟩:=p3 i x j c hi hj; ⟨u,m1,m2.kept k⟩⟩
theorem SR.adopt (h:SR w0 Pr0 n μ σ a w) {w':World} (hb:Below w.heap.size w w') {g:Nat} (hg:w.heap.size≤g) {d:Nat} (hd1:d < 1000) (hd:σ.H d = none) (hT:∀ t,(σ.T t).name ≠ some d) {arr:Arr} {cs:Array Value} (hp:arr.prot = 0) (hz:0 < arr.z)
  (hones:∀ x,x ∈ arr.cells->x.cells.length = arr.z∧∀ c,c ∈ x.cells->c.one = true) (hblk:w'.heap[g]? = some (.cells cs arr.ty (0,0))) (hsz:arr.cells.length * arr.z≤cs.size)
  (hel:∀ (i:Nat) (x:AV) (j:Nat) (c:AV),arr.cells[i]? = some x->x.cells[j]? = some c->∃ u,cs[i * arr.z + j]? = some u∧VR (fun b o=>PrOf w0 Pr0 μ σ.H b o∧b ≠ g) w' c u) :
  SR w0 Pr0 n (upd μ d (some g)) ⟨σ.T,upd σ.H d (some arr)⟩ a w' :=
 SR.adopt' h hb hg hd1 hd hT hp hz hones (z6x hblk) (.inr ⟨cs,hblk,hsz,hel⟩)
theorem SR.adoptNil (h:SR w0 Pr0 n μ σ a w) {d:Nat} (hd1:d < 1000) (hd:σ.H d = none) (hT:∀ t,(σ.T t).name ≠ some d) {z:Nat} {ty:TypeId} (hz:0 < z) :
  SR w0 Pr0 n μ ⟨σ.T,upd σ.H d (some ⟨z,ty,[],0⟩)⟩ a w∧μ d = none:=by
 have hμd:μ d = none:=by
  cases e:μ d with
  | none=>rfl
  | some b=>have:=h.live d b e; rw [hd] at this; cases this
 have k:Kept (PrOf w0 Pr0 μ σ.H) (PrOf w0 Pr0 μ (upd σ.H d (some ⟨z,ty,[],0⟩))) w w:=by
  refine ⟨Nat.le_refl _,fun b o _ hp=>⟨hp.1,fun r hr=>?_⟩,fun _ _ _ _=>rfl,fun _ _ _ _ _ h=>h⟩
  have e:r ≠ d:=fun e=>by rw [e,hμd] at hr; cases hr
  rw [z04 _ _ e]; exact hp.2 r hr
 have tr:∀ v u,v.name ≠ some d->TR (PrOf w0 Pr0 μ σ.H) μ σ.H w v u->TR (PrOf w0 Pr0 μ (upd σ.H d (some ⟨z,ty,[],0⟩))) μ (upd σ.H d (some ⟨z,ty,[],0⟩)) w v u:=by
  intro v u hn ht
  cases v with
  | und=>trivial
  | own=>exact ht
  | clom f r =>
   have hr:r ≠ d:=fun e=>hn (by rw [e]; rfl)
   intro ar har
   have har:=(z04 σ.H _ hr).symm.trans har
   exact ht ar har
  | mp r es =>
   have hr:r ≠ d:=fun e=>hn (by rw [e]; rfl)
   intro ar har
   have har:=(z04 σ.H _ hr).symm.trans har
   obtain ⟨b,ms,c,q1,q2,q3,q4⟩:=ht ar har
   exact ⟨b,ms,c,q1,q2,q3,q4.kept k⟩
  | ptr r i f =>
   have hr:r ≠ d:=fun e=>hn (by rw [e]; rfl)
   intro ar har
   have har:=(z04 σ.H _ hr).symm.trans har
   exact ht ar har
  | rs r off len =>
   have hr:r ≠ d:=fun e=>hn (by rw [e]; rfl)
   intro ar har
   have har:=(z04 σ.H _ hr).symm.trans har
   exact ht ar har
  | vrs r off len u0 =>
   have hr:r ≠ d:=fun e=>hn (by rw [e]; rfl)
   intro ar har
   have har:=(z04 σ.H _ hr).symm.trans har
   exact ht ar har
  | _=>exact VR.kept k ht
 refine ⟨⟨h.below,h.inj,h.range,fun r b hr=>?_,h.size,fun t=>tr _ _ (hT t) (h.tmp t),fun r ar har=>?_,h.defers,h.glob,h.small,fun v u hf=>⟨(h.frame v u hf).1,tr v u (fun e=>by have:=(h.frame v u hf).1 d e; omega) (h.frame v u hf).2⟩⟩,hμd⟩
 ·have e:r ≠ d:=fun e=>by rw [e,hμd] at hr; cases hr
  show (upd σ.H d _ r).isSome
  rw [z04 _ _ e]; exact h.live r b hr
 ·have har':upd σ.H d (some ⟨z,ty,[],0⟩) r = some ar:=har
  by_cases e:r = d
  ·subst e
   rw [z03] at har'
   cases har'
   refine ⟨hz,Nat.le_refl _,by simp,?_⟩
   rw [hμd]
  ·rw [z04 _ _ e] at har'
   obtain ⟨q1,q2,q3,q4⟩:=h.obj r ar har'
   refine ⟨q1,q2,q3,?_⟩
   cases hr:μ r with
   | none=>rw [hr] at q4; exact q4
   | some b =>
    rw [hr] at q4
    rcases q4 with q4 | ⟨cs',p1,p2,p3⟩
    ·exact .inl q4
    exact .inr ⟨cs',p1,p2,fun i x j c hi hj=>let ⟨u,m1,m2⟩:=p3 i x j c hi hj; ⟨u,m1,m2.kept k⟩⟩
end
end Go.Proofs.YtlhblpbfhfhlpaaGreatDoor
end
section
namespace Go.Proofs.YtlhblpbfhfhlpaaGreatDoor
open Go.RowKit
def z1h:Value->Option AV
 | .agg cs=>(cs.toList.mapM z23).map .agg
 | v=>z23 v
def z6v (pv:Bool):Value->Option AV
 | .agg cs=>(cs.toList.mapM (z16 pv)).map .agg
 | v=>z16 pv v
def zkx (len:Nat) (parts:List (Nat × Operand)):Bool:=parts.map (·.1) == List.range len
def zds:Operand->Operand->Bool
 | .tmp i,.tmp j=>i == j
 | .const (.int k n),.const (.int k' m)=>decide (k = k') && n == m
 | _,_=>false
theorem zgc {x y:Operand} (h:zds x y = true) (a:Act):a.eval y = a.eval x:=by
 unfold zds at h
 split at h
 ·rename_i i j; rw [beq_iff_eq] at h; rw [h]
 ·rename_i k n k' m
  simp only [Bool.and_eq_true,decide_eq_true_eq,beq_iff_eq] at h
  rw [h.1,h.2]
 ·cases h
def zit (pv:Bool) (P:Program) (o:Oper):Option IOp :=
 match o.op with
 | .alloc e=>match P.info? e with
  | some i=>match i.zero with
   | some zv=>(z6v pv zv).map (.alloc i.size e)
   | none=>none
  | none=>none
 | .box e x=>match P.info? e,z02 x with
  | some i,some x=>some (.box i.size e x)
  | _,_=>none
 | .assign (.const (.slice none 0 0))=>match P.underlying o.type with
  | some (.slice e)=>match P.info? e with
   | some i=>some (.mknil i.size e)
   | none=>none
  | _=>none
 | .buildSlice t len parts=>match P.underlying t,z0k (parts.toList.map (·.2)) with
  | some (.slice e),some xs=>match P.info? e with
   | some i=>match i.zero with
    | some zv=>if zkx len parts.toList && decide (len * i.size≤16777216) && zv.cells.size == i.size then some (.bsl i.size e xs) else none
    | none=>none
   | none=>none
  | _,_=>none
 | .convert src dst x=>match P.underlying src,P.underlying dst,z02 x with
  | some .string,some (.slice e),some x=>match P.underlying e with
   | some (.int .u8)=>some (.call 0 [x])
   | _=>none
  | some (.slice e),some .string,some x=>match P.underlying e with
   | some (.int .u8)=>some (.call 1 [x])
   | _=>none
  | _,_,_=>zba pv P o.op
 | .makeSlice t len cap=>match P.underlying t,z02 len with
  | some (.slice e),some x=>match P.info? e with
   | some i=>match i.zero with
    | some zv=>match z1h zv with
     | some d=>if zds len cap then some (.call 2 [.c (.int .i64 i.bytes),.c (.int .i64 i.size),.c (.int .i64 (e:Nat)),.c d,x]) else none
     | none=>none
    | none=>none
   | none=>none
  | _,_=>none
 | .binOp .shl _ x y _=>match z02 x,z02 y with
  | some x,some y=>some (.call 3 [x,y])
  | _,_=>none
 | .binOp .shr _ x y _=>match z02 x,z02 y with
  | some x,some y=>some (.call 4 [x,y])
  | _,_=>none
 | .call c=>match c.callee with
  | .value f=>match z02 f,z0k c.args.toList with
   | some f,some xs=>some (.callv f xs)
   | _,_=>none
  | _=>zba pv P o.op
 | _=>zba pv P o.op
section
variable {pv:Bool} {P:Program} {w0:Start} {Pr0:Nat->Nat->Prop} {n:Nat} {μ:Nat->Option Nat} {σ:St} {a:Act} {w:World} {Pr:Nat->Nat->Prop} {H:Nat->Option Arr}
theorem z5m {w:World}:∀ {vs:List Value} {cs:List AV},vs.mapM z23 = some cs->cs.length = vs.length∧∀ (j:Nat) (c:AV) (v:Value),cs[j]? = some c->vs[j]? = some v->VR Pr w c v
 | [],cs,h=>by
  simp at h; subst h
  exact ⟨rfl,fun j c v h=>by simp at h⟩
 | v :: vs,cs,h=>by
  rw [List.mapM_cons] at h
  simp only [Option.bind_eq_bind,Option.bind_eq_some_iff] at h
  obtain ⟨d,h1,ds,h2,h3⟩:=h
  cases h3
  obtain ⟨k1,k2⟩:=z5m (w:=w) h2
  refine ⟨by simp [k1],fun j c v' hj hj'=>?_⟩
  cases j with
  | zero=>cases hj; cases hj'; exact z2q h1
  | succ j=>exact k2 j c v' hj hj'
theorem z7u {w:World}:∀ {vs:List Value} {cs:List AV},vs.mapM (z16 pv) = some cs->cs.length = vs.length∧∀ (j:Nat) (c:AV) (v:Value),cs[j]? = some c->vs[j]? = some v->VR Pr w c v
 | [],cs,h=>by
  simp at h; subst h
  exact ⟨rfl,fun j c v h=>by simp at h⟩
 | v :: vs,cs,h=>by
  rw [List.mapM_cons] at h
  simp only [Option.bind_eq_bind,Option.bind_eq_some_iff] at h
  obtain ⟨d,h1,ds,h2,h3⟩:=h
  cases h3
  obtain ⟨k1,k2⟩:=z7u (w:=w) h2
  refine ⟨by simp [k1],fun j c v' hj hj'=>?_⟩
  cases j with
  | zero=>cases hj; cases hj'; exact z2z h1
  | succ j=>exact k2 j c v' hj hj'
theorem z4x {v:Value} {d:AV} (h:z23 v = some d):v.cells = #[v]∧d.cells = [d]:=by
 unfold z23 at h
 split at h <;> cases h <;> exact ⟨rfl,rfl⟩
theorem z5e {v:Value} {d:AV} (h:z1h v = some d):d.cells.length = v.cells.size∧∀ (j:Nat) (c:AV) (u:Value),d.cells[j]? = some c->v.cells[j]? = some u->VR Pr w c u:=by
 unfold z1h at h
 split at h
 ·rename_i cs
  rw [Option.map_eq_some_iff] at h
  obtain ⟨ds,h1,rfl⟩:=h
  obtain ⟨k1,k2⟩:=z5m (Pr:=Pr) (w:=w) h1
  refine ⟨by simpa [AV.cells,Value.cells] using k1,fun j c u hj hu=>k2 j c u hj ?_⟩
  simpa [Value.cells] using hu
 ·rename_i hne
  obtain ⟨e1,e2⟩:=z4x h
  rw [e1,e2]
  refine ⟨rfl,fun j c u hj hu=>?_⟩
  cases j with
  | zero=>cases hj; simp at hu; subst hu; exact z2q h
  | succ j=>simp at hj
theorem z85 {v:Value} {d:AV} (h:z16 pv v = some d):v.cells = #[v]∧d.cells = [d]:=by
 unfold z16 at h
 split at h
 ·cases h; cases pv <;> exact ⟨rfl,rfl⟩
 ·exact z4x h
theorem zap {v:Value} {d:AV} (h:z6v pv v = some d):d.cells.length = v.cells.size∧∀ (j:Nat) (c:AV) (u:Value),d.cells[j]? = some c->v.cells[j]? = some u->VR Pr w c u:=by
 unfold z6v at h
 split at h
 ·rename_i cs
  rw [Option.map_eq_some_iff] at h
  obtain ⟨ds,h1,rfl⟩:=h
  obtain ⟨k1,k2⟩:=z7u (Pr:=Pr) (w:=w) h1
  refine ⟨by simpa [AV.cells,Value.cells] using k1,fun j c u hj hu=>k2 j c u hj ?_⟩
  simpa [Value.cells] using hu
 ·rename_i hne
  obtain ⟨e1,e2⟩:=z85 h
  rw [e1,e2]
  refine ⟨rfl,fun j c u hj hu=>?_⟩
  cases j with
  | zero=>cases hj; simp at hu; subst hu; exact z2z h
  | succ j=>simp at hj
theorem VR.cells {d:AV} {v:Value} (h:VR Pr w d v):d.cells.length = v.cells.size∧∀ (j:Nat) (c:AV) (u:Value),d.cells[j]? = some c->v.cells[j]? = some u->VR Pr w c u:=by
 have one:∀ {d:AV} {v:Value},VR Pr w d v->d.cells = [d]->v.cells = #[v]->d.cells.length = v.cells.size∧∀ (j:Nat) (c:AV) (u:Value),d.cells[j]? = some c->v.cells[j]? = some u->VR Pr w c u:=by
  intro d v h e1 e2
  rw [e1,e2]
  refine ⟨rfl,fun j c u hj hu=>?_⟩
  cases j with
  | zero=>cases hj; simp at hu; subst hu; exact h
  | succ j=>simp at hj
 cases h with
 | agg cs vs hl hr =>
  refine ⟨by simpa [AV.cells,Value.cells] using hl,fun j c u hj hu=>hr j c u hj ?_⟩
  simpa [Value.cells] using hu
 | cst v h1 =>
  refine one (.cst v h1) rfl ?_
  cases v <;> first | rfl | cases h1
 | int k m=>exact one (.int k m) rfl rfl
 | bool b=>exact one (.bool b) rfl rfl
 | str s=>exact one (.str s) rfl rfl
 | nilp=>exact one .nilp rfl rfl
 | sl l A cap z u h1 h2 h3 h4=>exact one (.sl l A cap z u h1 h2 h3 h4) rfl rfl
 | tup cs vs h1 h2=>exact one (.tup cs vs h1 h2) rfl rfl
 | rp cs b off u h1 h2 h3=>exact one (.rp cs b off u h1 h2 h3) rfl rfl
 | clo f fi ca vf vc h1 h2 h3 h4=>exact one (.clo f fi ca vf vc h1 h2 h3 h4) rfl rfl
 | mv es g ms c h1 h2 h3 h4 h5 h6 h7=>exact one (.mv es g ms c h1 h2 h3 h4 h5 h6 h7) rfl rfl
def Made (w0:Start) (Pr0:Nat->Nat->Prop) (n:Nat) (σ:St) (dst:Nat) (K:AV->Option Arr->List Nat->Prop) (a':Act) (w':World):Prop :=
 ∃ μ' v s fz,K v s fz∧SR w0 Pr0 n μ' ((σ.fzs fz).made dst v s) a' w'
theorem z0l:∀ {l:List Nat} {σ:St} {d:Nat},σ.H d = none->(σ.fzs l).H d = none
 | [],σ,d,h=>h
 | r :: l,σ,d,h=>z0l (l:=l) (σ:=σ.fz r) (by
  show upd σ.H r _ d = none
  by_cases e:d = r
  ·subst e; rw [z03,h]; rfl
  ·rw [z04 _ _ e]; exact h)
theorem SR.made_none (h:SR w0 Pr0 n μ σ a w) {dst:Nat} (hd:dst < n) {d:AV} {v:Value} (hv:TR (PrOf w0 Pr0 μ σ.H) μ σ.H w d v):SR w0 Pr0 n μ (σ.made dst d none) (a.put (some dst) v) w:=h.put hd hv
theorem SR.made_box (h:SR w0 Pr0 n μ σ a w) {dst:Nat} (hd:dst < n) (h0:σ.H dst = none) (hT:∀ t,(σ.T t).name ≠ some dst) {z:Nat} {ty:TypeId} {d:AV} {v:Value} (hl:d.cells.length = z) (hz:0 < z) (hones:d.cells.all AV.one = true)
  (hc:v.cells.size = z) (hv:∀ (j:Nat) (c:AV) (u:Value),d.cells[j]? = some c->v.cells[j]? = some u->VR (PrOf w0 Pr0 μ σ.H) w c u) :
  SR w0 Pr0 n (upd μ dst (some w.heap.size)) (σ.made dst (.ptr dst 0 0) (some ⟨z,ty,[d],0⟩)) (a.put (some dst) (.pointer (some ⟨w.heap.size,0,none⟩))) (w.alloc (.cells v.cells ty)):=by
 have hb:Below w.heap.size w (w.alloc (.cells v.cells ty)):=(Below.refl _ _).alloc (Nat.le_refl _) _
 have hS:=SR.adopt h hb (g:=w.heap.size) (Nat.le_refl _) (Nat.lt_of_lt_of_le hd h.small) h0 hT (arr:=⟨z,ty,[d],0⟩) (cs:=v.cells) rfl hz (by
  intro x hx
  rw [List.mem_singleton] at hx
  subst hx
  exact ⟨hl,fun c hc=>List.all_eq_true.1 hones c hc⟩) (heap_alloc_new w _) (by simp [hc]) (by
  intro i x j c hi hj
  cases i with
  | zero =>
   simp at hi; subst hi
   have hjl:=(List.getElem?_eq_some_iff.1 hj).1
   have hu:v.cells[j]? = some (v.cells[j]'(by rw [hc,← hl]; exact hjl)):=Array.getElem?_eq_getElem _
   refine ⟨_,by rw [Nat.zero_mul,Nat.zero_add]; exact hu,(hv j c _ hj hu).kept ⟨hb.size,fun b o hlt hp=>⟨hp,by omega⟩,fun b o hlt _=>hb.cell (p:=⟨b,o,none⟩) hlt,fun b ms c hlt _ e=>by rw [hb.block b hlt]; exact e⟩⟩
  | succ i=>simp at hi)
 refine SR.put hS hd ?_
 intro arr' ha'
 have ha2:upd σ.H dst (some ⟨z,ty,[d],0⟩) dst = some arr':=ha'
 rw [z03] at ha2
 cases ha2
 exact ⟨w.heap.size,z03 _ _ _,by simp⟩
theorem zmj {C:FuncId->List AV->AV->Prop} {o:Oper} {e:TypeId} {i:TypeInfo} {zv:Value} {d:AV} {dst:Nat} (ho:o.op = .alloc e) (hi:P.info? e = some i) (hz:i.zero = some zv) (hd:z6v pv zv = some d) (hdst:o.dst = some dst) (hn:dst < n)
  (h:SR w0 Pr0 n μ σ a w) (h0:σ.H dst = none) (hT:∀ t,(σ.T t).name ≠ some dst) {hid:List Nat} {K:AV->Option Arr->List Nat->Prop} (hE:z0x C dst hid σ K (.alloc i.size e d)) {Q:Exit->Act->World->Prop} :
  o.wp P a w (Made w0 Pr0 n σ dst K) Q:=by
 simp only [z0x] at hE
 obtain ⟨h1,h2,h3,hK⟩:=hE
 obtain ⟨k1,k2⟩:=zap (Pr:=PrOf w0 Pr0 μ σ.H) (w:=w) hd
 have hrun:(execOp a.eval o).run P w = .ok (.value (.pointer (some ⟨w.heap.size,0,none⟩))) (w.alloc (.cells zv.cells e)):=by
  simp [execOp,ho,Instr.alloc,zeroValue,typeInfo,hi,hz,newVar,newRow]
 unfold Oper.wp
 rw [hrun,Oper.upon_value,hdst]
 exact ⟨_,_,_,[],hK,h.made_box hn h0 hT h1 h2 h3 (by rw [← k1]; exact h1) k2⟩
theorem box_sound {C:FuncId->List AV->AV->Prop} {o:Oper} {e:TypeId} {i:TypeInfo} {x:Operand} {ix:IOpd} {dst:Nat} (ho:o.op = .box e x) (hi:P.info? e = some i) (hx:z02 x = some ix) (hdst:o.dst = some dst) (hn:dst < n)
  (h:SR w0 Pr0 n μ σ a w) (h0:σ.H dst = none) (hT:∀ t,(σ.T t).name ≠ some dst) {hid:List Nat} {K:AV->Option Arr->List Nat->Prop} (hE:z0x C dst hid σ K (.box i.size e ix)) {Q:Exit->Act->World->Prop} :
  o.wp P a w (Made w0 Pr0 n σ dst K) Q:=by
 simp only [z0x] at hE
 split at hE
 ·rename_i d fz hbv
  obtain ⟨h1,h2,h3,hK⟩:=hE
  have hS:SR w0 Pr0 n μ (σ.fzs fz) a w:=SR.fzs h
  have hv:=h.byval hbv (h.get hx) hS z1x
  obtain ⟨k1,k2⟩:=hv.cells
  have hrun:(execOp a.eval o).run P w = .ok (.value (.pointer (some ⟨w.heap.size,0,none⟩))) (w.alloc (.cells (a.eval x).cells e)):=by
   simp [execOp,ho,Instr.box,newVar,newRow]
  unfold Oper.wp
  rw [hrun,Oper.upon_value,hdst]
  exact ⟨_,_,_,fz,hK,hS.made_box hn (z0l h0) (by rw [z4i]; exact hT) h1 h2 h3 (by rw [← k1]; exact h1) k2⟩
 ·exact hE.elim
theorem zl6 {C:FuncId->List AV->AV->Prop} {o:Oper} {z:Nat} {e:TypeId} {dst:Nat} (ho:o.op = .assign (.const (.slice none 0 0))) (hdst:o.dst = some dst) (hn:dst < n)
  (h:SR w0 Pr0 n μ σ a w) (h0:σ.H dst = none) (hT:∀ t,(σ.T t).name ≠ some dst) {hid:List Nat} {K:AV->Option Arr->List Nat->Prop} (hE:z0x C dst hid σ K (.mknil z e)) {Q:Exit->Act->World->Prop} :
  o.wp P a w (Made w0 Pr0 n σ dst K) Q:=by
 simp only [z0x] at hE
 obtain ⟨h1,hK⟩:=hE
 have hrun:(execOp a.eval o).run P w = .ok (.value (.slice none 0 0)) w:=by simp [execOp,ho,Act.eval]
 unfold Oper.wp
 rw [hrun,Oper.upon_value,hdst]
 obtain ⟨hS,hμ⟩:=h.adoptNil (Nat.lt_of_lt_of_le hn h.small) h0 hT (z:=z) (ty:=e) h1
 refine ⟨_,_,_,[],hK,SR.put hS hn ?_⟩
 intro arr ha
 exact .inl ⟨hμ,rfl,rfl,rfl⟩
theorem z2r {f:FuncId} {args:Array Value} (h:z1p P f = true):(callFunc f args).run P w = .ok (.enter f args) w:=by
 unfold z1p at h
 split at h
 ·rename_i fn hf
  simp only [Bool.and_eq_true,bne_iff_ne,ne_eq] at h
  obtain ⟨h1,h2⟩:=h
  have h3:fn.body ≠ none:=fun e=>by rw [e] at h2; cases h2
  simp [callFunc,hf,h1,h3]
 ·cases h
theorem getElem?_app3 {α:Type} {l1 l2 l3:List α} {j:Nat} {x:α} (h:(l1 ++ l2 ++ l3)[j]? = some x) :
  (j < l1.length∧l1[j]? = some x)∨(l1.length≤j∧j - l1.length < l2.length∧l2[j - l1.length]? = some x)∨(l1.length + l2.length≤j∧l3[j - (l1.length + l2.length)]? = some x):=by
 rcases Nat.lt_or_ge j (l1 ++ l2).length with h1 | h1
 ·rw [List.getElem?_append_left h1] at h
  rcases Nat.lt_or_ge j l1.length with h2 | h2
  ·rw [List.getElem?_append_left h2] at h; exact .inl ⟨h2,h⟩
  ·rw [List.getElem?_append_right h2] at h
   rw [List.length_append] at h1
   exact .inr (.inl ⟨h2,by omega,h⟩)
 ·rw [List.getElem?_append_right h1] at h
  rw [List.length_append] at h1 h
  exact .inr (.inr ⟨h1,h⟩)
theorem call_sound {o : Oper} {c : Call} {f : Operand} {fx : IOpd} {xs : List IOpd} {dst : Nat} (ho : o.op = .call c) (hc : c.callee = .value f) (hf : z02 f = some fx) (hxs : z0k c.args.toList = some xs) (hdst : o.dst = some dst) (hn : dst < n)
    (h : SR w0 Pr0 n μ σ a w) (h0 : σ.H dst = none) (hT : ∀ t, (σ.T t).name ≠ some dst) {hid : List Nat} {K : AV → Option Arr → List Nat → Prop} (hE : z0x (AFn P) dst hid σ K (.callv fx xs)) {Q : Exit → Act → World → Prop} :
    o.wp P a w (Made w0 Pr0 n σ dst K) Q := by
  simp only [z0x] at hE
  have tf := h.get hf
  split at hE
  · rename_i g first caps e1
    rw [e1] at tf
    split at hE
    · rename_i ds fz hbv
      obtain ⟨r, hA, hK⟩ := hE
      have tf' : VR (PrOf w0 Pr0 μ σ.H) w (.clo g first caps) (a.eval f) := tf
      generalize hvf : a.eval f = vf at tf'
      cases tf' with
      | clo _ _ _ lf lc hf1 hc1 r1 r2 =>
        obtain ⟨l1, t1⟩ := h.gets hxs
        have hS : SR w0 Pr0 n μ (σ.fzs fz) a w := SR.fzs h
        obtain ⟨l2, b2⟩ := h.byvals hS hbv l1 t1 z1x
        have kfz : Kept (PrOf w0 Pr0 μ σ.H) (PrOf w0 Pr0 μ (σ.fzs fz).H) w w := by
          refine ⟨Nat.le_refl _, fun b o _ hp => ⟨hp.1, fun s hs => ?_⟩, fun _ _ _ _ => rfl, fun _ _ _ _ _ h => h⟩
          obtain ⟨arr, q1, q2⟩ := hp.2 s hs
          obtain ⟨arr', p1, p2, _⟩ := z7j (l := fz) q1
          refine ⟨arr', p1, ?_⟩
          rw [p2.z]
          rcases p2.prot with e | e <;> rw [e]
          · exact q2
          · exact Nat.lt_of_lt_of_le q2 (Nat.mul_le_mul_right _ (h.obj s arr q1).2.1)
        have hrun : (execOp a.eval o).run P w = .ok (.enter g (lf ++ c.args.toList.map a.eval ++ lc).toArray) w := by
          simp only [execOp, ho, resolve, hc, hvf, Deferred.ofValue]
          simp only [Sem.run_bind, Sem.run_pure, Result.andThen_ok, invoke]
          have e : lf.toArray ++ Array.map a.eval c.args ++ lc.toArray = (lf ++ c.args.toList.map a.eval ++ lc).toArray := by
            apply Array.ext'; simp
          rw [e]
          exact z2r hA.ok
        unfold Oper.wp
        rw [hrun, Oper.upon_enter]
        -- the arguments' readings
        have hlen : (first ++ ds ++ caps).length = (lf ++ c.args.toList.map a.eval ++ lc).length := by
          simp only [List.length_append]; rw [hf1, l2, hc1]
        have hread : ∀ (j : Nat) (d : AV) (v : Value), (first ++ ds ++ caps)[j]? = some d → (lf ++ c.args.toList.map a.eval ++ lc)[j]? = some v → VR (PrOf w0 Pr0 μ (σ.fzs fz).H) w d v := by
          intro j d v hj hv
          rcases getElem?_app3 hj with ⟨q1, q2⟩ | ⟨q1, q2, q3⟩ | ⟨q1, q2⟩
          · rcases getElem?_app3 hv with ⟨p1, p2⟩ | ⟨p1, _⟩ | ⟨p1, _⟩
            · exact (r1 j d v q2 p2).kept kfz
            · omega
            · omega
          · rcases getElem?_app3 hv with ⟨p1, p2⟩ | ⟨p1, _, p3⟩ | ⟨p1, _⟩
            · omega
            · rw [hf1] at q3; exact b2 _ d v q3 p3
            · omega
          · rcases getElem?_app3 hv with ⟨p1, p2⟩ | ⟨p1, p2, p3⟩ | ⟨p1, p2⟩
            · omega
            · omega
            · rw [hf1, l2] at q2; exact (r2 _ d v q2 p2).kept kfz
        by_cases hflat : (∃ z ty l, r = .own z ty l) ∨ r.flatB = false
        · -- the arguments are frozen
          have hcalls := hA.calls w (fun b o => PrOf w0 Pr0 μ (σ.fzs fz).H b o ∧ b < w.heap.size) _ (h.glob.below h.below) (fun b o hp => hp.2) hlen
            (fun j d v hj hv => (hread j d v hj hv).kept ⟨Nat.le_refl _, fun b o hb hp => ⟨hp, hb⟩, fun _ _ _ _ => rfl, fun _ _ _ _ _ h => h⟩)
          refine hcalls.mono ?_
          rintro e w' ⟨v, rfl, hb, hr⟩
          show Made w0 Pr0 n σ dst K (a.put o.dst v) w'
          rw [hdst]
          have hS' := hS.grow hb
          have kr : ∀ {d : AV} {u : Value}, VR (fun b o => (PrOf w0 Pr0 μ (σ.fzs fz).H b o ∧ b < w.heap.size) ∨ w.heap.size ≤ b) w' d u → VR (PrOf w0 Pr0 μ (σ.fzs fz).H) w' d u := fun hv => hv.kept ⟨Nat.le_refl _, fun b o _ hp => by
            rcases hp with hp | hp
            · exact hp.1
            · exact ⟨fun hlt => absurd hlt (by have := h.below.size; omega), fun s hs => absurd (h.range s b hs).2 (by omega)⟩, fun _ _ _ _ => rfl, fun _ _ _ _ _ h => h⟩
          cases r with
          | own z ty l =>
            obtain ⟨q0, q1, q2⟩ := hr
            simp only [z1e] at hK
            rcases q2 with ⟨rfl, rfl⟩ | ⟨b, cap, cs, rfl, p1, p2, p3, p4, p5, p6⟩
            · obtain ⟨hS2, hμ⟩ := hS'.adoptNil (Nat.lt_of_lt_of_le hn h.small) (z0l h0) (by rw [z4i]; exact hT) (z := z) (ty := ty) q0
              refine ⟨_, _, _, fz, hK, SR.put hS2 hn ?_⟩
              intro arr ha
              exact .inl ⟨hμ, rfl, rfl, rfl⟩
            · have hS2 := SR.adopt hS hb p1 (Nat.lt_of_lt_of_le hn h.small) (z0l h0) (by rw [z4i]; exact hT) (arr := ⟨z, ty, l, 0⟩) (cs := cs) rfl q0 q1 p2 (by rw [← p3]; exact Nat.mul_le_mul_right _ p4) (by
                intro i x j c hi hj
                obtain ⟨u, m1, m2⟩ := p6 i x j c hi hj
                refine ⟨u, m1, m2.kept ⟨Nat.le_refl _, fun b' o' _ hp => ⟨?_, hp.2⟩, fun _ _ _ _ => rfl, fun _ _ _ _ _ h => h⟩⟩
                rcases hp.1 with hp | hp
                · exact hp.1
                · exact ⟨fun hlt => absurd hlt (by have := h.below.size; omega), fun s hs => absurd (h.range s b' hs).2 (by omega)⟩)
              refine ⟨_, _, _, fz, hK, SR.put hS2 hn ?_⟩
              intro arr ha
              have ha2 : upd (σ.fzs fz).H dst (some ⟨z, ty, l, 0⟩) dst = some arr := ha
              rw [z03] at ha2
              cases ha2
              exact .inr ⟨b, cap, cs, z03 _ _ _, .inl (by simp), p2, by rw [Nat.zero_add]; exact p3, by simp, p4, p5⟩
          | _ =>
            rcases hflat with ⟨_, _, _, hf'⟩ | hf'
            · cases hf'
            · simp only [z1e] at hK
              first
                | (rw [if_neg (by rw [hf']; simp)] at hK
                   exact ⟨_, _, none, fz, hK, hS'.made_none hn (TR.of_VR (kr hr))⟩)
                | (cases hf')
        · -- the result holds no address
          have hr2 : r.flatB = true := by
            cases hb : r.flatB with
            | true => rfl
            | false => exact absurd (.inr hb) hflat
          have hno : ∀ z ty l, r ≠ .own z ty l := fun z ty l e => hflat (.inl ⟨z, ty, l, e⟩)
          have hcalls := hA.calls w (fun b o => b < w.heap.size) _ (h.glob.below h.below) (fun b o hp => hp) hlen
            (fun j d v hj hv => (hread j d v hj hv).kept ⟨Nat.le_refl _, fun b o hb hp => hb, fun _ _ _ _ => rfl, fun _ _ _ _ _ h => h⟩)
          refine hcalls.mono ?_
          rintro e w' ⟨v, rfl, hb, hr⟩
          show Made w0 Pr0 n σ dst K (a.put o.dst v) w'
          rw [hdst]
          have hS' := h.grow hb
          have hV : VR (PrOf w0 Pr0 μ σ.H) w' r v := by
            have hr' : VR (fun b o => b < w.heap.size ∨ w.heap.size ≤ b) w' r v := by
              cases r with
              | own z ty l => exact absurd rfl (hno z ty l)
              | _ => exact hr
            exact hr'.flat (AV.flat_of r hr2)
          have hK' : K r none [] := by
            cases r with
            | own z ty l => exact absurd rfl (hno z ty l)
            | _ => simp only [z1e] at hK; rw [if_pos hr2] at hK; exact hK
          exact ⟨_, _, none, [], hK', hS'.made_none hn (TR.of_VR hV)⟩
    · exact hE.elim
  · exact hE.elim
end
end Go.Proofs.YtlhblpbfhfhlpaaGreatDoor
end
section
namespace Go.Proofs.YtlhblpbfhfhlpaaGreatDoor
open Go.RowKit
section
variable {P:Program} {w0:Start} {Pr0:Nat->Nat->Prop} {n:Nat} {μ:Nat->Option Nat} {σ:St} {a:Act} {w:World} {Pr:Nat->Nat->Prop} {H:Nat->Option Arr}
theorem VR.int_of {Q:Nat->Nat->Prop} {k:IntKind} {m:Int} {v:Value} (h:VR Q w (.int k m) v):v = .int k m:=by cases h; rfl
theorem VR.str_of {Q:Nat->Nat->Prop} {s:ByteArray} {v:Value} (h:VR Q w (.str s) v):v = .string s:=by cases h; rfl
theorem res_pr (h:SR w0 Pr0 n μ σ a w) {fz:List Nat} {w':World} {d:AV} {u:Value} (hv:VR (fun b o=>(PrOf w0 Pr0 μ (σ.fzs fz).H b o∧b < w.heap.size)∨w.heap.size≤b) w' d u):VR (PrOf w0 Pr0 μ (σ.fzs fz).H) w' d u :=
 hv.kept ⟨Nat.le_refl _,fun b o _ hp=>by
  rcases hp with hp | hp
  ·exact hp.1
  ·exact ⟨fun hlt=>absurd hlt (by have:=h.below.size; omega),fun s hs=>absurd (h.range s b hs).2 (by omega)⟩,fun _ _ _ _=>rfl,fun _ _ _ _ _ h=>h⟩
theorem res_own (h:SR w0 Pr0 n μ σ a w) {dst:Nat} (hn:dst < n) (h0:σ.H dst = none) (hT:∀ t,(σ.T t).name ≠ some dst) {fz:List Nat} {K:AV->Option Arr->List Nat->Prop} {z:Nat} {ty:TypeId} {l:List AV} {v:Value} {w':World}
  (hK:K (.rs dst 0 l.length) (some ⟨z,ty,l,0⟩) fz) (hb:Below w.heap.size w w') (hr:OwnRes (fun b o=>(PrOf w0 Pr0 μ (σ.fzs fz).H b o∧b < w.heap.size)∨w.heap.size≤b) w.heap.size w' z ty l v):Made w0 Pr0 n σ dst K (a.put (some dst) v) w':=by
 have hS:SR w0 Pr0 n μ (σ.fzs fz) a w:=SR.fzs h
 have hS':=hS.grow hb
 obtain ⟨q0,q1,q2⟩:=hr
 rcases q2 with ⟨rfl,rfl⟩ | ⟨b,cap,cs,rfl,p1,p2,p3,p4,p5,p6⟩
 ·obtain ⟨hS2,hμ⟩:=hS'.adoptNil (Nat.lt_of_lt_of_le hn h.small) (z0l h0) (by rw [z4i]; exact hT) (z:=z) (ty:=ty) q0
  refine ⟨_,_,_,fz,hK,SR.put hS2 hn ?_⟩
  intro arr ha
  exact .inl ⟨hμ,rfl,rfl,rfl⟩
 ·have hS2:=SR.adopt hS hb p1 (Nat.lt_of_lt_of_le hn h.small) (z0l h0) (by rw [z4i]; exact hT) (arr:=⟨z,ty,l,0⟩) (cs:=cs) rfl q0 q1 p2 (by rw [← p3]; exact Nat.mul_le_mul_right _ p4) (by
   intro i x j c hi hj
   obtain ⟨u,m1,m2⟩:=p6 i x j c hi hj
   refine ⟨u,m1,m2.kept ⟨Nat.le_refl _,fun b' o' _ hp=>⟨?_,hp.2⟩,fun _ _ _ _=>rfl,fun _ _ _ _ _ h=>h⟩⟩
   rcases hp.1 with hp | hp
   ·exact hp.1
   ·exact ⟨fun hlt=>absurd hlt (by have:=h.below.size; omega),fun s hs=>absurd (h.range s b' hs).2 (by omega)⟩)
  refine ⟨_,_,_,fz,hK,SR.put hS2 hn ?_⟩
  intro arr ha
  have ha2:upd (σ.fzs fz).H dst (some ⟨z,ty,l,0⟩) dst = some arr:=ha
  rw [z03] at ha2
  cases ha2
  exact .inr ⟨b,cap,cs,z03 _ _ _,.inl (by simp),p2,by rw [Nat.zero_add]; exact p3,by simp,p4,p5⟩
theorem res_val (h:SR w0 Pr0 n μ σ a w) {dst:Nat} (hn:dst < n) {fz:List Nat} {K:AV->Option Arr->List Nat->Prop} {r:AV} {v:Value} {w':World}
  (hK:K r none fz) (hb:Below w.heap.size w w') (hr:VR (PrOf w0 Pr0 μ (σ.fzs fz).H) w' r v):Made w0 Pr0 n σ dst K (a.put (some dst) v) w':=by
 have hS:SR w0 Pr0 n μ (σ.fzs fz) a w:=SR.fzs h
 exact ⟨_,_,none,fz,hK,(hS.grow hb).made_none hn (TR.of_VR hr)⟩
theorem zdy (h:SR w0 Pr0 n μ σ a w) {dst:Nat} (hn:dst < n) {K:AV->Option Arr->List Nat->Prop} {r:AV} {v:Value} {w':World} {Q:Nat->Nat->Prop}
  (hK:K r none []) (hb:Below w.heap.size w w') (hf:Flat r) (hr:VR Q w' r v):Made w0 Pr0 n σ dst K (a.put (some dst) v) w' :=
 ⟨_,_,none,[],hK,(h.grow hb).made_none hn (TR.of_VR (hr.flat hf))⟩
theorem zl0 {ds:List AV} {x:Operand} {ix:IOpd} {hid fz:List Nat} (h:SR w0 Pr0 n μ σ a w) (hx:z02 x = some ix) (hbv:σ.byvals hid ([ix].map σ.get) = some (ds,fz)):∃ d,ds = [d]∧VR (PrOf w0 Pr0 μ (σ.fzs fz).H) w d (a.eval x):=by
 obtain ⟨l1,t1⟩:=h.gets (l:=[x]) (il:=[ix]) (by simp [z0k,hx])
 have hS:SR w0 Pr0 n μ (σ.fzs fz) a w:=SR.fzs h
 obtain ⟨l2,b2⟩:=h.byvals hS hbv l1 t1 z1x
 match ds,l2 with
 | [d],_=>exact ⟨d,rfl,b2 0 d (a.eval x) rfl rfl⟩
theorem zcz {o:Oper} {src dst' e:TypeId} {x:Operand} {ix:IOpd} {dst:Nat} (ho:o.op = .convert src dst' x) (hs:P.underlying src = some .string) (hd:P.underlying dst' = some (.slice e)) (he:P.underlying e = some (.int .u8)) (hx:z02 x = some ix) (hdst:o.dst = some dst) (hn:dst < n)
  (h:SR w0 Pr0 n μ σ a w) {C:FuncId->List AV->AV->Prop} {hid:List Nat} {K:AV->Option Arr->List Nat->Prop} (hE:z0x C dst hid σ K (.call 0 [ix])) {Q:Exit->Act->World->Prop} :
  o.wp P a w (Made w0 Pr0 n σ dst K) Q:=by
 simp only [z0x] at hE
 split at hE
 ·rename_i ds fz hbv
  obtain ⟨hok,hK⟩:=hE
  obtain ⟨d,rfl,hv⟩:=zl0 h hx hbv
  cases d <;> simp only [z3u] at hok
  rename_i s
  have hvs:a.eval x = .string s:=hv.str_of
  have hrun:(execOp a.eval o).run P w = .ok (.value (.slice (some ⟨w.heap.size,0,none⟩) s.size (grownCap w s.size 0 e)))
   (w.drew.alloc (.cells (bytesRow s (grownCap w s.size 0 e)) e ((bytesRow s (grownCap w s.size 0 e)).size,(bytesRow s (grownCap w s.size 0 e)).size + 1))):=by
   have:=run_bytes_of_string (P:=P) w src dst' e s hs hd he
   simp [execOp,ho,hvs,this]
  unfold Oper.wp
  rw [hrun,Oper.upon_value,hdst]
  have hl:(s.data.toList.map fun b=>AV.int .u8 (b.toNat:Int)).length = s.size:=by rw [List.length_map,Array.length_toList]; rfl
  simp only [z1n,z1e,AV.flatB,if_false,Bool.false_eq_true] at hK
  have hb:Below w.heap.size w (w.drew.alloc (.cells (bytesRow s (grownCap w s.size 0 e)) e ((bytesRow s (grownCap w s.size 0 e)).size,(bytesRow s (grownCap w s.size 0 e)).size + 1))):=(Below.refl _ _).drew.alloc (Nat.le_refl _) _
  refine res_val h hn hK hb (res_pr h ?_)
  ·rw [← hl]
   refine .sl _ _ _ 1 (fun i j=>.int .u8 ((s.data.toList.getD i 0).toNat:Int)) (by rw [hl]; exact grownCap_ge _ _ _ _) (by rw [hl]; exact grownCap_le_maxLen _ _ _ _ hok) (fun h0=>⟨w.heap.size,0,rfl,?_,?_,?_⟩) (fun i d j c hi hj=>?_)
   ·show w.heap.size < (w.heap.push _).size
    simp
   ·intro d hd
    obtain ⟨b,_,rfl⟩:=List.mem_map.1 hd
    rfl
   ·intro i j hi hj
    refine ⟨.inr (Nat.le_refl _),?_⟩
    have:=World.cell?_alloc_mark w.drew (bytesRow s (grownCap w s.size 0 e)) e ((bytesRow s (grownCap w s.size 0 e)).size,(bytesRow s (grownCap w s.size 0 e)).size + 1) (0 + (i * 1 + j))
    rw [show w.drew.heap.size = w.heap.size from rfl] at this
    rw [hl] at *
    rw [this]
    have hj0:j = 0:=by omega
    subst hj0
    have hi':i < s.data.size:=hi
    unfold bytesRow
    rw [show 0 + (i * 1 + 0) = i by omega,Array.getElem?_append_left (by simpa using hi'),Array.getElem?_map,Array.getElem?_eq_getElem hi']
    simp [List.getD_eq_getElem?_getD,Array.getElem?_eq_getElem hi']
   ·rw [List.getElem?_map,Option.map_eq_some_iff] at hi
    obtain ⟨b,hb',rfl⟩:=hi
    cases j with
    | succ j=>simp [AV.cells] at hj
    | zero =>
     cases hj
     rw [List.getD_eq_getElem?_getD,hb']
     exact .int _ _
 ·exact hE.elim
theorem toB_val {d:AV} {v:Value} {Q:Nat->Nat->Prop} (hb:d.byteB = true) (hv:VR Q w d v):v = .int .u8 (d.toB.toNat:Int)∧d.cells = [d]:=by
 unfold AV.byteB at hb
 split at hb
 ·rename_i m
  simp only [Bool.and_eq_true,decide_eq_true_eq] at hb
  cases hv
  refine ⟨?_,rfl⟩
  simp only [AV.toB]
  have:((UInt8.ofNat m.toNat).toNat:Int) = m:=by
   rw [show (UInt8.ofNat m.toNat).toNat = m.toNat % 256 from UInt8.toNat_ofNat' ..]
   omega
  rw [this]
 ·cases hb
theorem zj5 {o:Oper} {src dst' e:TypeId} {x:Operand} {ix:IOpd} {dst:Nat} (ho:o.op = .convert src dst' x) (hs:P.underlying src = some (.slice e)) (hd:P.underlying dst' = some .string) (he:P.underlying e = some (.int .u8)) (hx:z02 x = some ix) (hdst:o.dst = some dst) (hn:dst < n)
  (h:SR w0 Pr0 n μ σ a w) {C:FuncId->List AV->AV->Prop} {hid:List Nat} {K:AV->Option Arr->List Nat->Prop} (hE:z0x C dst hid σ K (.call 1 [ix])) {Q:Exit->Act->World->Prop} :
  o.wp P a w (Made w0 Pr0 n σ dst K) Q:=by
 simp only [z0x] at hE
 split at hE
 ·rename_i ds fz hbv
  obtain ⟨hok,hK⟩:=hE
  obtain ⟨d,rfl,hv⟩:=zl0 h hx hbv
  cases d <;> simp only [z3u] at hok
  rename_i l
  have hok':∀ d,d ∈ l->d.byteB = true:=fun d hd=>List.all_eq_true.1 hok d hd
  simp only [z1n,z1e,AV.flatB,if_true] at hK
  have key:(convert src dst' (a.eval x)).run P w = .ok (.string ⟨(l.map AV.toB).toArray⟩) w:=by
   generalize a.eval x = v at hv
   generalize hq:AV.sl l = q at hv
   cases hv with
   | sl l' A cap z u hcap hmax hA hr =>
    injection hq with hq
    subst hq
    cases l with
    | nil =>
     cases A with
     | none=>exact run_convert_bytes_nil (P:=P) w src e hs he 0 cap dst' hd
     | some ad=>exact run_convert_bytes_back (P:=P) w src dst' e ad cap [] hs he hd (fun j hj=>by simp at hj)
    | cons d0 l0 =>
     obtain ⟨b,off,rfl,hL⟩:=hA (by simp)
     generalize hll:d0 :: l0 = l at *
     have h0:d0 ∈ l:=by rw [← hll]; exact List.mem_cons_self ..
     have hz:z = 1:=by
      have h1:=hL.len d0 h0
      have h2:=hok' d0 h0
      unfold AV.byteB at h2
      split at h2
      ·exact h1.symm
      ·cases h2
     subst hz
     have:=run_convert_bytes_back (P:=P) w src dst' e ⟨b,off,none⟩ cap (l.map AV.toB) hs he hd (fun j hj=>by
      rw [List.length_map] at hj
      have h1:=(hL.at_ j 0 hj (by omega)).2
      have hj':l[j]? = some l[j]:=List.getElem?_eq_getElem hj
      have hb:=hok' l[j] (List.getElem_mem hj)
      have hc:l[j].cells = [l[j]]:=by
       unfold AV.byteB at hb
       split at hb
       ·rename_i heq; rw [heq]; rfl
       ·cases hb
      have h2:=hr j l[j] 0 l[j] hj' (by rw [hc]; rfl)
      have hplain:(⟨b,off,none⟩:Addr).add j = ⟨b,off + j,none⟩:=by unfold Addr.add; split <;> simp_all
      rw [hplain,List.getElem_map]
      rw [show off + (j * 1 + 0) = off + j by omega] at h1
      rw [h1,(toB_val hb h2).1])
     rw [List.length_map] at this
     exact this
   | _=>cases hq
  have hrun:(execOp a.eval o).run P w = .ok (.value (.string ⟨(l.map AV.toB).toArray⟩)) w:=by
   simp [execOp,ho,key]
  unfold Oper.wp
  rw [hrun,Oper.upon_value,hdst]
  exact zdy h hn hK (Below.refl _ _) (.str _) (.str _:VR (fun _ _=>True) w _ _)
 ·exact hE.elim
theorem z9a {o : Oper} {op : BinOp} {t yt : TypeId} {x y : Operand} {ix iy : IOpd} {dst p : Nat} (hp : (op = .shl ∧ p = 3) ∨ (op = .shr ∧ p = 4)) (ho : o.op = .binOp op t x y yt) (hx : z02 x = some ix) (hy : z02 y = some iy) (hdst : o.dst = some dst) (hn : dst < n)
    (h : SR w0 Pr0 n μ σ a w) {C : FuncId → List AV → AV → Prop} {hid : List Nat} {K : AV → Option Arr → List Nat → Prop} (hE : z0x C dst hid σ K (.call p [ix, iy])) {Q : Exit → Act → World → Prop} :
    o.wp P a w (Made w0 Pr0 n σ dst K) Q := by
  simp only [z0x] at hE
  split at hE
  · rename_i ds fz hbv
    obtain ⟨hok, hK⟩ := hE
    obtain ⟨l1, t1⟩ := h.gets (l := [x, y]) (il := [ix, iy]) (by simp [z0k, hx, hy])
    have hS : SR w0 Pr0 n μ (σ.fzs fz) a w := SR.fzs h
    obtain ⟨l2, b2⟩ := h.byvals hS hbv l1 t1 z1x
    match ds, l2 with
    | [d1, d2], _ =>
      have v1 := b2 0 d1 (a.eval x) rfl rfl
      have v2 := b2 1 d2 (a.eval y) rfl rfl
      rcases hp with ⟨rfl, rfl⟩ | ⟨rfl, rfl⟩
      all_goals
        have hd : ∃ k m k' s, d1 = .int k m ∧ d2 = .int k' s ∧ 0 ≤ s := by
          cases d1 <;> cases d2 <;> simp only [z3u] at hok <;> exact ⟨_, _, _, _, rfl, rfl, hok⟩
        obtain ⟨k, m, k', s, rfl, rfl, h0⟩ := hd
        have e1 := v1.int_of
        have e2 := v2.int_of
        simp only [z1n, z1e, AV.flatB, if_true] at hK
        have hs : ¬ s < 0 := by omega
        unfold Oper.wp
        first
          | (have hrun : (execOp a.eval o).run P w = .ok (.value (.int k (k.wrap (m * 2 ^ min s.toNat k.bits)))) w := by simp [execOp, ho, e1, e2, eqGuard, binOp, Op.shift, hs]
             rw [hrun, Oper.upon_value, hdst]
             exact zdy h hn hK (Below.refl _ _) (.int _ _) (.int _ _ : VR (fun _ _ => True) w _ _))
          | (have hrun : (execOp a.eval o).run P w = .ok (.value (.int k (m.fdiv (2 ^ min s.toNat k.bits)))) w := by simp [execOp, ho, e1, e2, eqGuard, binOp, Op.shift, hs]
             rw [hrun, Oper.upon_value, hdst]
             exact zdy h hn hK (Below.refl _ _) (.int _ _) (.int _ _ : VR (fun _ _ => True) w _ _))
  · exact hE.elim
theorem zl8 {z:Array Value} {m i j:Nat} (hj:j < z.size) (hi:i * z.size + j < m):(madeCells z m)[i * z.size + j]? = some z[j]:=by
 unfold madeCells
 rw [Array.getElem?_map,Array.getElem?_range,if_pos hi]
 simp only [Option.map_some]
 rw [show (i * z.size + j) % z.size = j by rw [Nat.add_comm,Nat.add_mul_mod_self_right]; exact Nat.mod_eq_of_lt hj]
 rw [getElem!_pos z j hj]
theorem zb9 {zv:Value} {d:AV} {hid:List Nat} (h:z1h zv = some d):σ.byval hid d = some (d,[]):=by
 unfold z1h at h
 split at h
 ·rw [Option.map_eq_some_iff] at h
  obtain ⟨ds,_,rfl⟩:=h
  rfl
 ·unfold z23 at h
  split at h <;> cases h <;> rfl
theorem mksl_sound {o:Oper} {t e:TypeId} {i:TypeInfo} {zv:Value} {d0:AV} {x y:Operand} {ix:IOpd} {dst:Nat} (ho:o.op = .makeSlice t x y) (ht:P.underlying t = some (.slice e)) (hi:P.info? e = some i) (hz:i.zero = some zv) (hd0:z1h zv = some d0) (hx:z02 x = some ix) (hxy:zds x y = true) (hdst:o.dst = some dst) (hn:dst < n)
  (h:SR w0 Pr0 n μ σ a w) (h0:σ.H dst = none) (hT:∀ t,(σ.T t).name ≠ some dst) {C:FuncId->List AV->AV->Prop} {hid:List Nat} {K:AV->Option Arr->List Nat->Prop} (hE:z0x C dst hid σ K (.call 2 [.c (.int .i64 i.bytes),.c (.int .i64 i.size),.c (.int .i64 (e:Nat)),.c d0,ix])) {Q:Exit->Act->World->Prop} :
  o.wp P a w (Made w0 Pr0 n σ dst K) Q:=by
 simp only [z0x] at hE
 split at hE
 ·rename_i ds fz hbv
  obtain ⟨hok,hK⟩:=hE
  have hb0:=zb9 (σ:=σ) (hid:=hid) hd0
  have hsp:∃ ds',ds = .int .i64 i.bytes :: .int .i64 i.size :: .int .i64 (e:Nat) :: d0 :: ds'∧σ.byvals hid ([ix].map σ.get) = some (ds',fz):=by
   change σ.byvals hid [.int .i64 i.bytes,.int .i64 i.size,.int .i64 (e:Nat),d0,σ.get ix] = some (ds,fz) at hbv
   change ∃ ds',ds = .int .i64 i.bytes :: .int .i64 i.size :: .int .i64 (e:Nat) :: d0 :: ds'∧σ.byvals hid [σ.get ix] = some (ds',fz)
   have hI:∀ m:Int,σ.byval hid (.int .i64 m) = some (.int .i64 m,[]):=fun _=>rfl
   simp only [St.byvals,hb0,hI] at hbv ⊢
   cases hq:σ.byval hid (σ.get ix) with
   | none=>rw [hq] at hbv; cases hbv
   | some p =>
    rw [hq] at hbv
    cases hbv
    exact ⟨_,rfl,rfl⟩
  obtain ⟨ds',rfl,hbv'⟩:=hsp
  obtain ⟨d,rfl,hv⟩:=zl0 h hx hbv'
  have hd:∃ m,d = .int .i64 m∧0≤m∧m≤9223372036854775807∧(i.bytes:Int) * m≤281474976710656∧d0.cells.length = i.size∧0 < i.size∧d0.cells.all AV.one = true:=by
   cases d <;> simp only [z3u] at hok
   rename_i k m
   cases k <;> simp only [z3u] at hok
   exact ⟨m,rfl,hok.1,hok.2.1,hok.2.2.1,hok.2.2.2.2⟩
  obtain ⟨m,rfl,g1,g2,g3,g4,g5,g6⟩:=hd
  have e1:=hv.int_of
  have e2:a.eval y = .int .i64 m:=by rw [zgc hxy,e1]
  obtain ⟨q1,q2⟩:=z5e (Pr:=fun b o=>((PrOf w0 Pr0 μ (σ.fzs fz).H b o∧b < w.heap.size)∨w.heap.size≤b)∧b ≠ w.heap.size) (w:=w.alloc (.cells (madeCells zv.cells (m.toNat * i.size)) e)) hd0
  have hrun:(execOp a.eval o).run P w = .ok (.value (.slice (some ⟨w.heap.size,0,none⟩) m.toNat m.toNat)) (w.alloc (.cells (madeCells zv.cells (m.toNat * i.size)) e)):=by
   have:=run_make (P:=P) w t e i zv ht hi hz .i64 .i64 m m g1 (Int.le_refl _) g3 g2
   simp [execOp,ho,e1,e2,this]
  unfold Oper.wp
  rw [hrun,Oper.upon_value,hdst]
  simp only [z1n,z1e] at hK
  have hb:Below w.heap.size w (w.alloc (.cells (madeCells zv.cells (m.toNat * i.size)) e)):=(Below.refl _ _).alloc (Nat.le_refl _) _
  have hzs:zv.cells.size = i.size:=by rw [← q1]; exact g4
  refine res_own (z:=i.size) (ty:=e) (l:=List.replicate m.toNat d0) h hn h0 hT hK hb ⟨g5,fun d hd=>?_,.inr ⟨w.heap.size,m.toNat,_,by rw [List.length_replicate],Nat.le_refl _,heap_alloc_new w _,by rw [size_madeCells],by rw [List.length_replicate]; exact Nat.le_refl _,?_,fun j d k c hj hk=>?_⟩⟩
  ·rw [List.eq_of_mem_replicate hd]
   exact ⟨g4,fun c hc=>List.all_eq_true.1 g6 c hc⟩
  ·show m.toNat≤9223372036854775807
   omega
  ·rw [List.getElem?_replicate] at hj
   split at hj
   ·rename_i hjl
    cases hj
    have hkl:=(List.getElem?_eq_some_iff.1 hk).1
    have hkz:k < zv.cells.size:=by omega
    have hlt:j * zv.cells.size + k < m.toNat * i.size:=by
     rw [hzs] at *
     have:(j + 1) * i.size≤m.toNat * i.size:=Nat.mul_le_mul_right _ hjl
     rw [Nat.succ_mul] at this
     omega
    have h9:=zl8 (m:=m.toNat * i.size) hkz hlt
    rw [hzs] at h9
    exact ⟨_,h9,q2 k c _ hk (Array.getElem?_eq_getElem hkz)⟩
   ·cases hj
 ·exact hE.elim
end
end Go.Proofs.YtlhblpbfhfhlpaaGreatDoor
end
