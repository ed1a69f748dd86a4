/-
  Part 18 of a proof: RyX.
-/
import Derived.Test.YtolocaankfcjiaaRR17
set_option linter.unusedVariables false
set_option linter.unusedSimpArgs false
section
/-
 The library's deletion and insertion of one pair,as the plain machine calls them.
-/
namespace Go.Proofs.Ytolocaankfcjiaa
open Go.RowKit
section
variable {w0:Start} {Pr0:Nat->Nat->Prop} {n:Nat} {μ:Nat->Option Nat} {σ:St} {a:Act} {w:World}
theorem SR.keptAte (h:SR w0 Pr0 n μ σ a w) {r:Nat} {arr:Arr} (ha:σ.H r = some arr) (hp:arr.prot = 0) {w':World} (hA:Ate (μ r) w w') :
  Kept (PrOf w0 Pr0 μ σ.H) (PrOf w0 Pr0 (upd μ r none) (upd σ.H r none)) w w':=by
 have hne:∀ b o,PrOf w0 Pr0 μ σ.H b o->μ r ≠ some b:=fun b o hq e=>by
  obtain ⟨ar,q1,q2⟩:=hq.2 r e
  rw [ha] at q1; cases q1
  rw [hp,Nat.zero_mul] at q2
  omega
 refine ⟨hA.size,fun b o hlt hq=>⟨hq.1,fun s hs=>?_⟩,fun b o hlt hq=>World.cell?_of_block (w:=w) (hA.oth b hlt (hne b o hq)),fun b ms c hlt hq hm=>by rw [hA.oth b hlt (hne b 0 hq)]; exact hm⟩
 by_cases e:s = r
 ·rw [e,z04] at hs; cases hs
 ·rw [z05 _ _ e] at hs ⊢
  exact hq.2 s hs
/-- an own object is given up: its block may be written -/
theorem SR.eat (h:SR w0 Pr0 n μ σ a w) {r:Nat} {arr:Arr} (ha:σ.H r = some arr) (hp:arr.prot = 0) {w':World} (hA:Ate (μ r) w w') :
  SR w0 Pr0 n (upd μ r none) ⟨σ.T,upd σ.H r none⟩ a w':=by
 have k:=h.keptAte ha hp hA
 have hb:∀ s b,s ≠ r->μ s = some b->w'.heap[b]? = w.heap[b]?:=fun s b hs hm =>
  hA.oth b (h.range s b hm).2 fun e=>hs (h.inj s r b hm e)
 have tr:∀ v u,TR (PrOf w0 Pr0 μ σ.H) μ σ.H w v u->TR (PrOf w0 Pr0 (upd μ r none) (upd σ.H r none)) (upd μ r none) (upd σ.H r none) w' v u:=by
  intro v u ht
  cases v with
  | und=>trivial
  | own=>exact ht
  | clom f s =>
   intro ar har
   by_cases e:s = r
   ·rw [e,z04] at har; cases har
   ·rw [z05 _ _ e] at har ⊢
    exact ht ar har
  | mp s es =>
   intro ar har
   by_cases e:s = r
   ·rw [e,z04] at har; cases har
   ·rw [z05 _ _ e] at har ⊢
    obtain ⟨b,ms,c,q1,q2,q3,q4⟩:=ht ar har
    exact ⟨b,ms,c,q1,q2,by rw [hb s b e q1]; exact q3,q4.kept k⟩
  | ptr s i f =>
   intro ar har
   by_cases e:s = r
   ·rw [e,z04] at har; cases har
   ·rw [z05 _ _ e] at har ⊢
    exact ht ar har
  | rs s off len =>
   intro ar har
   by_cases e:s = r
   ·rw [e,z04] at har; cases har
   ·rw [z05 _ _ e] at har ⊢
    rcases ht ar har with q | ⟨b,cap,cs,q1,q2,q3,q4⟩
    ·exact .inl q
    ·exact .inr ⟨b,cap,cs,q1,q2,by rw [hb s b e q1]; exact q3,q4⟩
  | vrs s off len u0 =>
   intro ar har
   by_cases e:s = r
   ·rw [e,z04] at har; cases har
   ·rw [z05 _ _ e] at har ⊢
    rcases ht ar har with q | ⟨b,cap,cs,q1,q2,q3,q4⟩
    ·exact .inl q
    ·exact .inr ⟨b,cap,cs,q1,q2,by rw [hb s b e q1]; exact q3,q4⟩
  | _=>exact VR.kept k ht
 have hlow:∀ j,j < w0.w.heap.size->w'.heap[j]? = w.heap[j]?:=fun j hj =>
  hA.oth j (Nat.lt_of_lt_of_le hj h.below.size) fun e=>by have:=(h.range r j e).1; omega
 refine ⟨h.below.trans ⟨hA.os,hA.tape,hA.output,hA.size,hlow⟩,fun s s' b hs hs'=>?_,fun s b hs=>?_,fun s b hs=>?_,h.size,fun t=>tr _ _ (h.tmp t),fun s ar har=>?_,h.defers,h.glob,h.small,fun v u hf=>⟨(h.frame v u hf).1,tr v u (h.frame v u hf).2⟩⟩
 ·by_cases e:s = r
  ·rw [e,z04] at hs; cases hs
  ·by_cases e':s' = r
   ·rw [e',z04] at hs'; cases hs'
   ·rw [z05 _ _ e] at hs; rw [z05 _ _ e'] at hs'
    exact h.inj s s' b hs hs'
 ·by_cases e:s = r
  ·rw [e,z04] at hs; cases hs
  ·rw [z05 _ _ e] at hs
   have:=h.range s b hs
   exact ⟨this.1,Nat.lt_of_lt_of_le this.2 hA.size⟩
 ·by_cases e:s = r
  ·rw [e,z04] at hs; cases hs
  ·rw [z05 _ _ e] at hs
   show (upd σ.H r none s).isSome = true
   rw [z05 _ _ e]
   exact h.live s b hs
 ·have har':upd σ.H r none s = some ar:=har
  by_cases e:s = r
  ·rw [e,z04] at har'; cases har'
  ·rw [z05 _ _ e] at har'
   obtain ⟨q1,q2,q3,q4⟩:=h.obj s ar har'
   refine ⟨q1,q2,q3,?_⟩
   rw [z05 _ _ e]
   cases hs:μ s with
   | none=>rw [hs] at q4; exact q4
   | some b =>
    rw [hs] at q4
    rcases q4 with ⟨p0,ms,c,p1⟩ | ⟨cs,p1,p2,p3⟩
    ·exact .inl ⟨p0,ms,c,by rw [hb s b e hs]; exact p1⟩
    ·exact .inr ⟨cs,by rw [hb s b e hs]; exact p1,p2,fun i x j c hi hj=>let ⟨u,m1,m2⟩:=p3 i x j c hi hj; ⟨u,m1,m2.kept k⟩⟩
theorem VR_rows {Pr:Nat->Nat->Prop} {w':World} {b cap:Nat} {cs:Array Value} {l:List Par} {t:TypeId} (hc:l.length≤cap) (hm:cap≤maxLen) (hb:w'.heap[b]? = some (.cells cs t (0,0))) (hr:z21 cs l) (hP:∀ o,Pr b o) :
  VR Pr w' (.sl (l.map Par.a)) (.slice (some ⟨b,0,none⟩) l.length cap):=by
 have hlen:(l.map Par.a).length = l.length:=List.length_map _
 rw [← hlen]
 refine .sl _ _ cap 2 (fun i j=>((vals l)[i * 2 + j]?).getD undef) (by rw [hlen]; exact hc) hm (fun h0=>⟨b,0,rfl,z4n hb,fun d hd=>?_,fun i j hi hj=>⟨hP _,?_⟩⟩) (fun i d j c hi hj=>?_)
 ·obtain ⟨x,_,rfl⟩:=List.mem_map.1 hd; rfl
 ·rw [hlen] at hi
  have hlt:i * 2 + j < (vals l).length:=by rw [z0x]; omega
  rw [Nat.zero_add,z16 hb,List.getElem?_eq_getElem hlt]
  exact hr.get (List.getElem?_eq_getElem hlt)
 ·rw [List.getElem?_map] at hi
  obtain ⟨x,hx,rfl⟩:=Option.map_eq_some_iff.1 hi
  obtain ⟨b1,b2⟩:=zfm hx
  match j,hj with
  | 0,hj=>cases hj; simp only [Nat.add_zero,b1,Option.getD_some]; exact .str _
  | 1,hj=>cases hj; simp only [b2,Option.getD_some]; exact .str _
theorem SR.rows (h:SR w0 Pr0 n μ σ a w) {r:Nat} {l:List Par} (ha:σ.H r = ObjP l) {g:Nat} {cs:Array Value} (hg:μ r = some g) (hcs:w.heap[g]? = some (.cells cs 58 (0,0))):z21 cs l:=by
 obtain ⟨o1,o2,o3,o4⟩:=h.obj r _ ha
 rw [hg] at o4
 rcases o4 with ⟨q,ms,c,q'⟩ | ⟨cs0,f1,f2,f3⟩
 ·rw [hcs] at q'; cases q'
 ·rw [hcs] at f1; cases f1
  intro i x hx
  have hxa:(l.map Par.a)[i]? = some x.a:=by rw [List.getElem?_map,hx]; rfl
  obtain ⟨u,a1,a2⟩:=f3 i x.a 0 (.str x.key) hxa rfl
  obtain ⟨v,b1,b2⟩:=f3 i x.a 1 (.str x.val) hxa rfl
  rw [VR.str_of a2] at a1
  rw [VR.str_of b2] at b1
  exact ⟨a1,b1⟩
theorem SR.done (h:SR w0 Pr0 n μ σ a w) {r:Nat} {l l':List Par} (ha:σ.H r = ObjP l) {w':World} {v:Value} (hA:Ate (μ r) w w') (hR:z9p (μ r) w w' v l') :
  ∃ μ',SR w0 Pr0 n μ' ⟨σ.T,upd σ.H r none⟩ a w'∧VR (PrOf w0 Pr0 μ' (upd σ.H r none)) w' (.sl (l'.map Par.a)) v:=by
 refine ⟨_,h.eat ha rfl hA,?_⟩
 obtain ⟨b,cap,cs,rfl,h1,h2,h3,h4,h5⟩:=hR
 refine VR_rows h1 h2 h4 h5 (fun o=>⟨fun hlt=>?_,fun s hs=>?_⟩)
 ·rcases h3 with h3 | h3
  ·have:=(h.range r b h3).1; omega
  ·have:=h.below.size; omega
 ·by_cases e:s = r
  ·rw [e,z04] at hs; cases hs
  ·rw [z05 _ _ e] at hs
   rcases h3 with h3 | h3
   ·exact absurd (h.inj s r b hs h3) e
   ·have:=(h.range s b hs).2; omega
end
theorem delP_ok (H:Nat->Option Arr) (r i:Nat) (l:List Par) (hi:i < l.length) (hr:H r = ObjP l) :
  MFn Try.prog 83 [.rs r 0 l.length,.int .i64 (i:Int),.int .i64 ((i + 1:Nat):Int)] H (.sl ((l.take i ++ l.drop (i + 1)).map Par.a)) (upd H r none):=by
 refine ⟨by kernel_rfl,fun w0 Pr0 n μ T a w vs hS hlen hvs=>?_⟩
 match vs,hlen with
 | [v0,v1,v2],_ =>
  have t0:=hvs 0 _ v0 rfl rfl
  have t1:VR (PrOf w0 Pr0 μ H) w (.int .i64 (i:Int)) v1:=hvs 1 _ v1 rfl rfl
  have t2:VR (PrOf w0 Pr0 μ H) w (.int .i64 ((i + 1:Nat):Int)) v2:=hvs 2 _ v2 rfl rfl
  rw [VR.int_of t1,VR.int_of t2]
  rcases t0 _ hr with ⟨m1,m2,m3,m4⟩ | ⟨g,cap,cs,m1,m2,m3,m4,m5,m6,m7⟩
  ·omega
  ·have e0:=m2.exact0 (by rw [Nat.zero_mul])
   rw [e0]
   have hrow:=hS.rows hr m1 m3
   refine (delete_any g cap i cs l w m3 (by rw [← m4,Nat.zero_add]) m6 m7 hrow hi).mono ?_
   rintro e w' ⟨v,rfl,hA,hR⟩
   rw [← m1] at hA hR
   obtain ⟨μ',h1,h2⟩:=SR.done hS hr hA hR
   exact ⟨v,μ',rfl,h1,h2⟩
theorem insP_ok (H:Nat->Option Arr) (r q i:Nat) (l:List Par) (p:Par) (hi:i≤l.length) (hl:l.length≤1000000) (hr:H r = ObjP l) (hq:H q = ObjP [p]) (hne:r ≠ q) :
  MFn Try.prog 82 [.rs r 0 l.length,.int .i64 (i:Int),.rs q 0 1] H (.sl ((l.take i ++ p :: l.drop i).map Par.a)) (upd H r none):=by
 refine ⟨by kernel_rfl,fun w0 Pr0 n μ T a w vs hS hlen hvs=>?_⟩
 match vs,hlen with
 | [v0,v1,v2],_ =>
  have t0:=hvs 0 _ v0 rfl rfl
  have t1:VR (PrOf w0 Pr0 μ H) w (.int .i64 (i:Int)) v1:=hvs 1 _ v1 rfl rfl
  have t2:=hvs 2 _ v2 rfl rfl
  rw [VR.int_of t1]
  rcases t2 _ hq with ⟨m1,m2,m3,m4⟩ | ⟨gq,capq,cq,q1,q2,q3,q4,q5,q6,q7⟩
  ·cases m4
  have eq:=q2.exact0 (by rw [Nat.zero_mul])
  rw [eq]
  have hrq:=hS.rows hq q1 q3
  rcases t0 _ hr with ⟨m1,m2,m3,m4⟩ | ⟨g,cap,cs,m1,m2,m3,m4,m5,m6,m7⟩
  ·rw [m2]
   have hnil:l = []:=List.length_eq_zero_iff.1 m4
   subst hnil
   have hi0:i = 0:=Nat.le_zero.1 hi
   subst hi0
   refine (insEnd_nil gq capq cq p w q3 hrq).mono ?_
   rintro e w' ⟨v,rfl,hA,hR⟩
   rw [← m1] at hA hR
   obtain ⟨μ',h1,h2⟩:=SR.done hS hr hA hR
   exact ⟨v,μ',rfl,h1,h2⟩
  ·have e0:=m2.exact0 (by rw [Nat.zero_mul])
   rw [e0]
   have hrow:=hS.rows hr m1 m3
   have hcap:cap * 2 = cs.size:=by rw [← m4,Nat.zero_add]
   have hgq:gq ≠ g:=fun e=>hne (hS.inj r q g m1 (by rw [q1,e]))
   have done:Calls Try.prog 82 #[.slice (some ⟨g,0,none⟩) l.length cap,.int .i64 (i:Int),.slice (some ⟨gq,0,none⟩) 1 capq] w fun e w'=>∃ v,e = .returned v∧Ate (some g) w w'∧z9p (some g) w w' v (l.take i ++ p :: l.drop i):=by
    rcases Nat.lt_or_ge l.length cap with hroom | hroom
    ·rcases Nat.lt_or_ge i l.length with hlt | hge
     ·exact zqc g cap i gq capq cs cq l p w m3 hcap hroom m7 hrow hlt hl q3 hrq hgq
     ·have hil:i = l.length:=by omega
      subst hil
      rw [List.take_length,List.drop_length]
      exact zqe g cap gq capq cs cq l p w m3 hcap hroom m7 hrow q3 hrq
    ·have hcl:l.length = cap:=by omega
     rcases Nat.lt_or_ge i l.length with hlt | hge
     ·subst hcl
      exact zqd g i gq capq cs cq l p w m3 hrow hlt hl q3 hrq
     ·have hil:i = l.length:=by omega
      subst hil
      rw [List.take_length,List.drop_length]
      exact zqf g cap gq capq cs cq l p w m3 hcl hl hrow q3 hrq
   refine done.mono ?_
   rintro e w' ⟨v,rfl,hA,hR⟩
   rw [← m1] at hA hR
   obtain ⟨μ',h1,h2⟩:=SR.done hS hr hA hR
   exact ⟨v,μ',rfl,h1,h2⟩
end Go.Proofs.Ytolocaankfcjiaa
end
