/-
  Part 3 of a proof: HpJ, HpK, HpL, HpM, HpX, HpN, Glob.
-/
import Derived.Lib.Bytealg
import Derived.Shelf.Vars
import Derived.Lib.LaidTab
import Derived.Lib.ItoaNum
import Derived.Stop.LaidErr
import Derived.Test.YtlhblpbfhfhlpaaGreatDoorSB2
set_option linter.unusedVariables false
set_option linter.unusedSimpArgs false
section
namespace Go.Proofs.YtlhblpbfhfhlpaaGreatDoor
open Go.RowKit
namespace Hm
section
variable {P:Program} {ops:Array Oper} {Q:Exit->Act->World->Prop}
def z1a (n:Nat) (S:Nat->Bool):Nat:=(List.range n).countP fun i=>!S i
theorem z40 {n:Nat} {S:Nat->Bool} (h:z1a n S = 0):∀ i,i < n->S i = true:=by
 intro i hi
 unfold z1a at h
 rw [List.countP_eq_zero] at h
 have:=h i (by simpa using hi)
 simpa using this
theorem z41 {n:Nat} {S:Nat->Bool} {i:Nat} (hi:i < n) (hS:S i = false):z1a n (fun j=>decide (j = i) || S j) + 1 = z1a n S:=by
 unfold z1a
 induction n with
 | zero=>omega
 | succ n ih =>
  rw [List.range_succ,List.countP_append,List.countP_append,List.countP_singleton,List.countP_singleton]
  by_cases e:i = n
  ·subst e
   have:(List.range i).countP (fun j=>!(decide (j = i) || S j)) = (List.range i).countP (fun j=>!S j):=by
    apply List.countP_congr
    intro j hj
    have:j ≠ i:=by have:=List.mem_range.1 hj; omega
    simp [this]
   rw [this]
   simp [hS]
  ·have:=ih (by omega)
   have h2:(decide (n = i) || S n) = S n:=by simp [show n ≠ i from fun q=>e q.symm]
   simp only [h2]
   simp only at this
   omega
theorem z3v {o:Oper} {j:Nat}:j ∈ z0b o ↔ ∃ e ∈ o.after,Region.binds .any e = true∧e.on = j:=by
 unfold z0b
 rw [List.mem_filterMap]
 constructor
 ·rintro ⟨e,he,h⟩
  split at h
  ·rename_i hb; cases h; exact ⟨e,Array.mem_toList_iff.1 he,hb,rfl⟩
  ·cases h
 ·rintro ⟨e,he,hb,rfl⟩
  exact ⟨e,Array.mem_toList_iff.2 he,by rw [if_pos hb]⟩
theorem z2h {listed:Array Bool} {i:Nat}:i ∈ Region.ready .any ops listed ↔ i < ops.size∧listed.getD i true = false∧∀ o,ops[i]? = some o->∀ j,j ∈ z0b o->listed.getD j false = true:=by
 unfold Region.ready
 rw [List.mem_filter]
 simp only [List.mem_range,Bool.and_eq_true,Bool.not_eq_true']
 constructor
 ·rintro ⟨h1,h2,h3⟩
  refine ⟨h1,h2,fun o ho j hj=>?_⟩
  rw [ho] at h3
  simp only [Option.map_some,Option.getD_some,Array.all_eq_true_iff_forall_mem] at h3
  obtain ⟨e,he,hb,rfl⟩:=z3v.1 hj
  have:=h3 e he
  simpa [hb] using this
 ·rintro ⟨h1,h2,h3⟩
  refine ⟨h1,h2,?_⟩
  obtain ⟨o,ho⟩:∃ o,ops[i]? = some o:=⟨_,Array.getElem?_eq_getElem h1⟩
  rw [ho]
  simp only [Option.map_some,Option.getD_some,Array.all_eq_true_iff_forall_mem]
  intro e he
  by_cases hb:Region.binds .any e = true
  ·have:=h3 o ho e.on (z3v.2 ⟨e,he,hb,rfl⟩)
   simp [this]
  ·simp [hb]
theorem z8k {lo:Option Nat} (hedge:∀ i o,ops[i]? = some o->∀ j,j ∈ z0b o->j < i) (I:(Nat->Bool)->Act->World->Prop)
  (hstep:∀ S a w i o,I S a w->ops[i]? = some o->S i = false->(∀ j,j ∈ z0b o->S j = true)->wpOpIn (FF lo) 0 P ops Q i (I fun j=>decide (j = i) || S j) a w)
  (hend:∀ S a w,I S a w->(∀ i,i < ops.size->S i = true)->Q .normal a w) :
  ∀ (fuel:Nat) (listed:Array Bool) (a:Act) (w:World),listed.size = ops.size->z1a ops.size (fun i=>listed.getD i false) = fuel->I (fun i=>listed.getD i false) a w->wpAnyIn (FF lo) 0 P .any ops Q fuel listed a w:=by
 have hready:∀ (listed:Array Bool),listed.size = ops.size->Region.ready .any ops listed = []->∀ i,i < ops.size->listed.getD i false = true:=by
  intro listed hs hr i
  induction i using Nat.strongRecOn with
  | ind i ih =>
   intro hi
   cases hl:listed.getD i false with
   | true=>rfl
   | false =>
    have hm:i ∈ Region.ready .any ops listed:=by
     rw [z2h]
     refine ⟨hi,?_,fun o ho j hj=>ih j (hedge i o ho j hj) (by have:=hedge i o ho j hj; omega)⟩
     rw [Array.getD_eq_getD_getElem?,Array.getElem?_eq_getElem (by omega)] at hl ⊢
     exact hl
    rw [hr] at hm; cases hm
 intro fuel
 induction fuel with
 | zero =>
  intro listed a w hs hu hI
  have hall:=z40 hu
  refine ⟨?_,hend _ a w hI hall⟩
  cases hr:Region.ready .any ops listed with
  | nil=>rfl
  | cons x xs =>
   have:x ∈ Region.ready .any ops listed:=by rw [hr]; simp
   obtain ⟨h1,h2,_⟩:=z2h.1 this
   have h3:=hall x h1
   rw [Array.getD_eq_getD_getElem?,Array.getElem?_eq_getElem (by omega)] at h2 h3
   simp at h2 h3
   rw [h2] at h3; cases h3
 | succ fuel ih =>
  intro listed a w hs hu hI
  refine ⟨fun hr=>hend _ a w hI (hready listed hs hr),fun i hi=>?_⟩
  obtain ⟨h1,h2,h3⟩:=z2h.1 hi
  obtain ⟨o,ho⟩:∃ o,ops[i]? = some o:=⟨_,Array.getElem?_eq_getElem h1⟩
  have hSi:listed.getD i false = false:=by
   rw [Array.getD_eq_getD_getElem?,Array.getElem?_eq_getElem (by omega)] at h2 ⊢
   exact h2
  refine wpOpIn_mono ?_ (hstep _ a w i o hI ho hSi (fun j hj=>h3 o ho j hj))
  intro a' w' hI'
  have e:(fun j=>(listed.setIfInBounds i true).getD j false) = fun j=>decide (j = i) || listed.getD j false:=by
   funext j
   rw [Array.getD_eq_getD_getElem?,Array.getElem?_setIfInBounds]
   by_cases e:i = j
   ·subst e; simp [hs,h1]
   ·rw [if_neg e]
    simp [show ¬ j = i from fun q=>e q.symm]
  refine ih _ a' w' (by simpa using hs) ?_ (by rw [e]; exact hI')
  rw [e]
  have:=z41 (S:=fun j=>listed.getD j false) h1 hSi
  omega
theorem z35 {lo:Option Nat} {id:Nat} {a:Act} {w:World} (hm:P.follows .mixedOrders = true) (hedge:∀ i o,ops[i]? = some o->∀ j,j ∈ z0b o->j < i) (I:(Nat->Bool)->Act->World->Prop)
  (hstep:∀ S a w i o,I S a w->ops[i]? = some o->S i = false->(∀ j,j ∈ z0b o->S j = true)->wpOpIn (FF lo) 0 P ops Q i (I fun j=>decide (j = i) || S j) a w)
  (hend:∀ S a w,I S a w->(∀ i,i < ops.size->S i = true)->Q .normal a w) (h0:I (fun _=>false) a { w with drawn:=w.drawn + 1 }):(Code.region id ops true).wpIn (FF lo) 0 P Q a w:=by
 refine wpIn_region_any hm ?_
 have e:(fun j=>(Array.replicate ops.size false).getD j false) = fun _=>false:=by
  funext j
  rw [Array.getD_eq_getD_getElem?,Array.getElem?_replicate]
  split <;> rfl
 refine z8k hedge I hstep hend ops.size _ a _ (by simp) ?_ (by rw [e]; exact h0)
 rw [e]
 unfold z1a
 rw [show (List.range ops.size).countP (fun i=>!false) = (List.range ops.size).length from List.countP_eq_length.2 (fun _ _=>rfl),List.length_range]
end
theorem zj7 (m j:Nat):tb m j = m.testBit j:=by
 unfold tb Nat.testBit
 show Nat.beq (1 &&& (m >>> j)) 1 = (1 &&& (m >>> j) != 0)
 rw [Nat.one_and_eq_mod_two]
 rcases Nat.mod_two_eq_zero_or_one (m >>> j) with h | h <;> rw [h] <;> rfl
theorem zj6 (j:Nat):tb 0 j = false:=by rw [zj7,Nat.zero_testBit]
theorem tb_lor (a b j:Nat):tb (Nat.lor a b) j = (tb a j || tb b j):=by
 rw [zj7,zj7,zj7]; exact Nat.testBit_or a b j
theorem tb_bit (i j:Nat):tb (bit i) j = decide (i = j):=by
 rw [zj7]
 show (1 <<< i).testBit j = _
 rw [Nat.one_shiftLeft,Nat.testBit_two_pow]
theorem tb_sub {d m:Nat} (h:Nat.beq (Nat.land d m) d = true) {j:Nat} (hj:tb d j = true):tb m j = true:=by
 have e:d &&& m = d:=Nat.eq_of_beq_eq_true h
 rw [zj7] at hj ⊢
 rw [← e,Nat.testBit_and,Bool.and_eq_true] at hj
 exact hj.2
theorem tb_full {m n:Nat} (h:Nat.beq (m + 1) (bit n) = true) {j:Nat} (hj:j < n):tb m j = true:=by
 have e:m + 1 = 2 ^ n:=(Nat.eq_of_beq_eq_true h).trans (Nat.one_shiftLeft n)
 have e2:m = 2 ^ n - 1:=by omega
 rw [zj7,e2,Nat.testBit_two_pow_sub_one,decide_eq_true hj]
theorem orT_mem {tab:List Nat}:∀ {l:List Nat} {j:Nat},tb (orT tab l) j = true->∃ i,i ∈ l∧(i = j∨tb (tab.getD i 0) j = true)
 | [],j,h=>by simp only [orT,zj6] at h; cases h
 | i :: l,j,h=>by
  simp only [orT,tb_lor,tb_bit,Bool.or_eq_true,decide_eq_true_eq] at h
  rcases h with h | h
  ·exact ⟨i,by simp,h⟩
  ·obtain ⟨i',h1,h2⟩:=orT_mem h
   exact ⟨i',by simp [h1],h2⟩
theorem zr1:∀ (l:List Oper) (tab:List Nat),∃ r,depT l tab = tab ++ r
 | [],tab=>⟨[],by simp [depT]⟩
 | o :: l,tab=>by
  obtain ⟨r,hr⟩:=zr1 l (tab ++ [orT tab (z0b o)])
  exact ⟨orT tab (z0b o) :: r,by rw [depT,hr]; simp⟩
theorem depT_at:∀ (l:List Oper) (tab:List Nat) (i:Nat) (o:Oper),l[i]? = some o->∃ pre r,depT l tab = pre ++ r∧(depT l tab).getD (tab.length + i) 0 = orT pre (z0b o)
 | [],tab,i,o,h=>by simp at h
 | o' :: l,tab,i,o,h=>by
  cases i with
  | zero =>
   cases h
   obtain ⟨r,hr⟩:=zr1 l (tab ++ [orT tab (z0b o')])
   refine ⟨tab,orT tab (z0b o') :: r,by rw [depT,hr]; simp,?_⟩
   rw [depT,hr]
   simp [List.getD_eq_getElem?_getD]
  | succ i =>
   obtain ⟨pre,r,h1,h2⟩:=depT_at l (tab ++ [orT tab (z0b o')]) i o (by simpa using h)
   refine ⟨pre,r,by rw [depT]; exact h1,?_⟩
   rw [depT,← h2]
   congr 1
   simp; omega
theorem dep_mem {ops:Array Oper} {k:Nat} {o:Oper} (ho:ops[k]? = some o) {j:Nat} (h:tb ((depT ops.toList []).getD k 0) j = true):∃ i,i ∈ z0b o∧(i = j∨tb ((depT ops.toList []).getD i 0) j = true):=by
 obtain ⟨pre,r,h1,h2⟩:=depT_at ops.toList [] k o (by simpa using ho)
 simp only [List.length_nil,Nat.zero_add] at h2
 rw [h2] at h
 obtain ⟨i,hi,hj⟩:=orT_mem h
 refine ⟨i,hi,hj.imp id fun hj=>?_⟩
 rw [h1]
 rw [List.getD_eq_getElem?_getD] at hj ⊢
 rcases Nat.lt_or_ge i pre.length with q | q
 ·rw [List.getElem?_append_left q]; exact hj
 ·rw [List.getElem?_eq_none q] at hj; simp only [Option.getD_none,zj6] at hj; cases hj
theorem zig:∀ {l:List Oper} {k:Nat},zqh l k = true->∀ i o,l[i]? = some o->∀ j,j ∈ z0b o->j < k + i
 | [],k,h,i,o,ho,j,hj=>by simp at ho
 | o' :: l,k,h,i,o,ho,j,hj=>by
  simp only [zqh,Bool.and_eq_true,List.all_eq_true] at h
  cases i with
  | zero=>cases ho; exact z2e (h.1 j hj)
  | succ i=>have:=zig h.2 i o (by simpa using ho) j hj; omega
theorem zmr {W:Tr Nat}:∀ {l:List Oper} {k:Nat},soleB W l k = true->∀ i o t,l[i]? = some o->o.dst = some t->W.get t = some (k + i)∧t < 1000
 | [],k,h,i,o,t,ho,ht=>by simp at ho
 | o' :: l,k,h,i,o,t,ho,ht=>by
  simp only [soleB,Bool.and_eq_true] at h
  cases i with
  | zero =>
   cases ho
   have h1:=h.1
   rw [ht] at h1
   dsimp only at h1
   split at h1
   ·rename_i j hj
    rw [Bool.and_eq_true] at h1
    have:=Nat.eq_of_beq_eq_true h1.1
    exact ⟨by rw [hj,this]; rfl,z2e h1.2⟩
   ·cases h1
  | succ i =>
   have:=zmr h.2 i o t (by simpa using ho) ht
   exact ⟨by rw [this.1]; congr 1; omega,this.2⟩
theorem wrX_own:∀ {l:List Oper} {k:Nat} {W:Tr Nat},(∀ (i:Nat) (o:Oper) (t:Nat),l[i]? = some o->o.dst = some t->t < 1000)->∀ t j,(wrX l k W).get t = some j->W.get t = some j∨∃ i o,l[i]? = some o∧j = k + i∧o.dst = some t
 | [],k,W,h,t,j,e=>.inl e
 | o :: l,k,W,h,t,j,e=>by
  simp only [wrX] at e
  rcases wrX_own (fun i o t ho ht=>h (i + 1) o t (by simpa using ho) ht) t j e with q | ⟨i,o',q1,q2,q3⟩
  ·cases hd:o.dst with
   | none=>rw [hd] at q; exact .inl q
   | some d =>
    rw [hd] at q
    have:=h 0 o d rfl hd
    rw [Tr.get_set 10 W d t (by omega)] at q
    split at q
    ·rename_i e2; cases q; exact .inr ⟨0,o,rfl,rfl,by rw [e2]; exact hd⟩
    ·exact .inl q
  ·exact .inr ⟨i + 1,o',by simpa using q1,by omega,q3⟩
structure Stp (P:Program) (C:z1v) (N:Nat) (ops:Array Oper) (tab:List Nat) (W:Tr Nat) (nx0 k:Nat) (c c':Dx) (o:Oper) (v:V):Prop where
 op:ops[k]? = some o
 new:tb c.done k = false
 done:c'.done = Nat.lor c.done (bit k)
 put:putX N o v c.T = some c'.T
 way:(loud o = true∧c.done = tab.getD k 0∧∃ h',effX P C (ze4 W tab c.T k) ops o c.D ⟨c.h.H,c.h.nx,[]⟩ = some (v,c'.D,h')∧c'.h = ⟨h'.H,h'.nx,h'.lg ++ c.h.lg⟩∧c'.lds = ⟨k,h'.lg,c.h.nx,h'.nx⟩ :: c.lds) ∨
  (loud o = false∧(∀ j,tb (tab.getD k 0) j = true->tb c.done j = true)∧c'.D = c.D∧c'.h.nx = c.h.nx∧c'.h.lg = c.h.lg∧c'.lds = c.lds∧∃ ob,quietX P (ze4 W tab c.T k) (maskG c.h.H c.lds (tab.getD k 0) nx0 ops.size) ops o (nx0 + k) = some (v,ob) ∧
   c'.h.H.get = match ob with
    | none=>c.h.H.get
    | some ob=>upd c.h.H.get (nx0 + k) (some ob))
theorem zga {P:Program} {C:z1v} {N:Nat} {ops:Array Oper} {tab:List Nat} {W:Tr Nat} {nx0 k:Nat} {c c':Dx} (h:stepD P C N ops tab W nx0 k c = some c'):∃ o v,Stp P C N ops tab W nx0 k c c' o v:=by
 unfold stepD at h
 split at h
 ·cases h
 rename_i o ho
 split at h
 ·cases h
 rename_i hnew
 split at h
 ·rename_i hl
  split at h
  ·rename_i hd
   split at h
   ·rename_i v D h' he
    split at h
    ·rename_i T hT
     cases h
     exact ⟨o,v,ho,hnew,rfl,hT,.inl ⟨hl,Nat.eq_of_beq_eq_true hd,h',he,rfl,rfl⟩⟩
    ·cases h
   ·cases h
  ·cases h
 ·rename_i hl
  split at h
  ·rename_i hd
   split at h
   ·rename_i v ob hq
    split at h
    ·rename_i T hT
     split at h
     ·cases h
      exact ⟨o,v,ho,hnew,rfl,hT,.inr ⟨hl,fun j hj=>tb_sub hd hj,rfl,rfl,rfl,rfl,none,hq,rfl⟩⟩
     ·rename_i ob
      split at h
      ·rename_i hb
       cases h
       refine ⟨o,v,ho,hnew,rfl,hT,.inr ⟨hl,fun j hj=>tb_sub hd hj,rfl,rfl,rfl,rfl,some ob,hq,?_⟩⟩
       funext m
       exact Tr.get_set20 (z2e hb)
      ·cases h
    ·cases h
   ·cases h
  ·cases h
theorem zbm {P:Program} {C:z1v} {N:Nat} {ops:Array Oper} {tab:List Nat} {W:Tr Nat} {nx0:Nat}:∀ {L:List Nat} {c c':Dx},runD P C N ops tab W nx0 L c = some c'->∃ t:Nat->Dx,t 0 = c∧t L.length = c'∧∀ p k,L[p]? = some k->∃ o v,Stp P C N ops tab W nx0 k (t p) (t (p + 1)) o v
 | [],c,c',h=>by cases h; exact ⟨fun _=>c,rfl,rfl,fun p k h=>by simp at h⟩
 | k :: L,c,c',h=>by
  simp only [runD] at h
  split at h
  ·rename_i c1 h1
   obtain ⟨t,e0,e1,e2⟩:=zbm h
   refine ⟨fun p=>match p with
    | 0=>c
    | p + 1=>t p,rfl,e1,fun p k' hk=>?_⟩
   cases p with
   | zero=>cases hk; show ∃ o v,Stp P C N ops tab W nx0 k c (t 0) o v; rw [e0]; exact zga h1
   | succ p=>exact e2 p k' (by simpa using hk)
  ·cases h
structure Trc (P:Program) (C:z1v) (N:Nat) (ops:Array Oper) (W:Tr Nat) (nx0:Nat) (L:List Nat) (t:Nat->Dx):Prop where
 hC:z2v P C
 hN:N≤1000
 nx:(t 0).h.nx = nx0 + ops.size
 done:(t 0).done = 0
 dead:∀ r,nx0≤r->(t 0).h.H.get r = none
 full:∀ k,k < ops.size->tb (t L.length).done k = true
 hedge:∀ i o,ops[i]? = some o->∀ j,j ∈ z0b o->j < i
 sole:∀ i o s,ops[i]? = some o->o.dst = some s->W.get s = some i
 own:∀ s j,W.get s = some j->∃ o,ops[j]? = some o∧o.dst = some s
 stp:∀ p k,L[p]? = some k->∃ o v,Stp P C N ops (depT ops.toList []) W nx0 k (t p) (t (p + 1)) o v
section
variable {P:Program} {C:z1v} {N:Nat} {ops:Array Oper} {W:Tr Nat} {nx0:Nat} {L:List Nat} {t:Nat->Dx}
def dep (ops:Array Oper) (k:Nat):Nat:=(depT ops.toList []).getD k 0
def z29 (ops:Array Oper) (k:Nat):Prop:=∃ o,ops[k]? = some o∧loud o = true
theorem Trc.has (h:Trc P C N ops W nx0 L t):∀ (p:Nat),p≤L.length->∀ k,tb (t p).done k = true ↔ ∃ p',p' < p∧L[p']? = some k
 | 0,_,k=>by rw [h.done,zj6]; constructor <;> intro e; cases e; obtain ⟨p',e,_⟩:=e; omega
 | p + 1,hp,k=>by
  obtain ⟨o,v,s⟩:=h.stp p (L[p]'(by omega)) (List.getElem?_eq_getElem _)
  rw [s.done,tb_lor,Bool.or_eq_true,h.has p (by omega) k,tb_bit,decide_eq_true_eq]
  constructor
  ·rintro (⟨p',h1,h2⟩ | h1)
   ·exact ⟨p',by omega,h2⟩
   ·exact ⟨p,by omega,by rw [← h1]; exact List.getElem?_eq_getElem _⟩
  ·rintro ⟨p',h1,h2⟩
   rcases Nat.lt_or_ge p' p with q | q
   ·exact .inl ⟨p',q,h2⟩
   ·have:p' = p:=by omega
    subst this
    rw [List.getElem?_eq_getElem (by omega)] at h2
    exact .inr (Option.some.inj h2)
theorem Trc.lt (h:Trc P C N ops W nx0 L t) {p k:Nat} (hk:L[p]? = some k):p < L.length∧k < ops.size:=by
 obtain ⟨o,v,s⟩:=h.stp p k hk
 exact ⟨(List.getElem?_eq_some_iff.1 hk).1,(Array.getElem?_eq_some_iff.1 s.op).1⟩
theorem Trc.uniq (h:Trc P C N ops W nx0 L t) {p p' k:Nat} (hk:L[p]? = some k) (hk':L[p']? = some k):p = p':=by
 have key:∀ (p p':Nat),L[p]? = some k->L[p']? = some k->¬ p < p':=fun p p' hk hk' hlt=>by
  obtain ⟨o,v,s⟩:=h.stp p' k hk'
  have:=(h.has p' (Nat.le_of_lt (h.lt hk').1) k).2 ⟨p,hlt,hk⟩
  rw [s.new] at this
  cases this
 have h1:=key p p' hk hk'
 have h2:=key p' p hk' hk
 omega
theorem Trc.pos (h:Trc P C N ops W nx0 L t) {k:Nat} (hk:k < ops.size):∃ p:Nat,L[p]? = some k:=by
 obtain ⟨p,_,h2⟩:=(h.has L.length (Nat.le_refl _) k).1 (h.full k hk)
 exact ⟨p,h2⟩
theorem Trc.ahead (h:Trc P C N ops W nx0 L t) {p k p1 j:Nat} (hk:L[p]? = some k) (hj:L[p1]? = some j) (hd:tb (dep ops j) k = true):p < p1:=by
 obtain ⟨o,v,s⟩:=h.stp p1 j hj
 have:tb (t p1).done k = true:=by
  rcases s.way with ⟨_,g,_⟩ | ⟨_,g,_⟩
  ·rw [g]; exact hd
  ·exact g k hd
 obtain ⟨p',h1,h2⟩:=(h.has p1 (Nat.le_of_lt (h.lt hj).1) k).1 this
 rw [h.uniq hk h2]; exact h1
theorem Trc.none_step (h:Trc P C N ops W nx0 L t) {p k r:Nat} (hk:L[p]? = some k) (hr:r < (t p).h.nx) (hn:r ≠ nx0 + k) (e:(t p).h.H.get r = none):(t (p + 1)).h.H.get r = none:=by
 obtain ⟨o,v,s⟩:=h.stp p k hk
 rcases s.way with ⟨_,_,h',he,hh,_⟩ | ⟨_,_,_,_,_,_,ob,_,hH⟩
 ·rw [hh]; exact (zcq h.hC he).dead r hr e
 ·rw [hH]
  cases ob with
  | none=>exact e
  | some ob=>dsimp only; rw [z04 _ _ hn]; exact e
theorem Trc.nx_le (h:Trc P C N ops W nx0 L t) {p k:Nat} (hk:L[p]? = some k):(t p).h.nx≤(t (p + 1)).h.nx:=by
 obtain ⟨o,v,s⟩:=h.stp p k hk
 rcases s.way with ⟨_,_,h',he,hh,_⟩ | ⟨_,_,_,hx,_⟩
 ·rw [hh]; exact (zcq h.hC he).nx
 ·rw [hx]; exact Nat.le_refl _
theorem Trc.nx_ge (h:Trc P C N ops W nx0 L t):∀ (p:Nat),p≤L.length->nx0 + ops.size≤(t p).h.nx
 | 0,_=>Nat.le_of_eq h.nx.symm
 | p + 1,hp=>Nat.le_trans (h.nx_ge p (by omega)) (h.nx_le (List.getElem?_eq_getElem (by omega:p < L.length)))
theorem Trc.unborn (h:Trc P C N ops W nx0 L t) {p0 j:Nat} (hj:L[p0]? = some j):∀ (p:Nat),p≤p0->(t p).h.H.get (nx0 + j) = none
 | 0,_=>h.dead _ (by omega)
 | p + 1,hp=>by
  have hlt:=h.lt hj
  have hk:L[p]? = some (L[p]'(by omega)):=List.getElem?_eq_getElem _
  refine h.none_step hk (Nat.lt_of_lt_of_le (by omega) (h.nx_ge p (by omega))) (fun e=>?_) (h.unborn hj p (by omega))
  have e2:L[p]'(by omega) = j:=by omega
  rw [e2] at hk
  have:=h.uniq hk hj
  omega
theorem Trc.old (h:Trc P C N ops W nx0 L t) {r:Nat} (hr:r < nx0) (e:(t 0).h.H.get r = none):∀ (p:Nat),p≤L.length->(t p).h.H.get r = none
 | 0,_=>e
 | p + 1,hp=>h.none_step (List.getElem?_eq_getElem (by omega:p < L.length)) (Nat.lt_of_lt_of_le (by omega) (h.nx_ge p (by omega))) (by omega) (h.old hr e p (by omega))
theorem Trc.same (h:Trc P C N ops W nx0 L t) {r:Nat} {p:Nat}:∀ (p':Nat),p≤p'->p'≤L.length->(∀ p1 k,p≤p1->p1 < p'->L[p1]? = some k->(z29 ops k->(t (p1 + 1)).h.H.get r = (t p1).h.H.get r)∧(¬ z29 ops k->r ≠ nx0 + k))->(t p').h.H.get r = (t p).h.H.get r
 | 0,hp,_,_=>by rw [show p = 0 by omega]
 | p' + 1,hp,hl,hs=>by
  rcases Nat.eq_or_lt_of_le hp with q | q
  ·rw [q]
  have hk:L[p']? = some (L[p']'(by omega)):=List.getElem?_eq_getElem _
  have ih:=h.same p' (by omega) (by omega) fun p1 k h1 h2 h3=>hs p1 k h1 (by omega) h3
  rw [← ih]
  obtain ⟨s1,s2⟩:=hs p' _ (by omega) (by omega) hk
  by_cases hld:z29 ops (L[p']'(by omega))
  ·exact s1 hld
  ·obtain ⟨o,v,s⟩:=h.stp p' _ hk
   rcases s.way with ⟨g1,_⟩ | ⟨_,_,_,_,_,_,ob,_,hH⟩
   ·exact absurd ⟨o,s.op,g1⟩ hld
   ·rw [hH]
    cases ob with
    | none=>rfl
    | some ob=>exact z04 _ _ (s2 hld)
theorem Trc.quiet (h:Trc P C N ops W nx0 L t) {p k:Nat} (hk:L[p]? = some k) (hq:¬ z29 ops k):(t (p + 1)).D = (t p).D∧(t (p + 1)).h.nx = (t p).h.nx:=by
 obtain ⟨o,v,s⟩:=h.stp p k hk
 rcases s.way with ⟨g1,_⟩ | ⟨_,_,h1,h2,_⟩
 ·exact absurd ⟨o,s.op,g1⟩ hq
 ·exact ⟨h1,h2⟩
theorem Trc.quiets (h:Trc P C N ops W nx0 L t) {p:Nat}:∀ (p':Nat),p≤p'->p'≤L.length->(∀ p1 k,p≤p1->p1 < p'->L[p1]? = some k->¬ z29 ops k)->(t p').D = (t p).D∧(t p').h.nx = (t p).h.nx
 | 0,hp,_,_=>by rw [show p = 0 by omega]; exact ⟨rfl,rfl⟩
 | p' + 1,hp,hl,hs=>by
  rcases Nat.eq_or_lt_of_le hp with q | q
  ·rw [q]; exact ⟨rfl,rfl⟩
  have hk:L[p']? = some (L[p']'(by omega)):=List.getElem?_eq_getElem _
  obtain ⟨i1,i2⟩:=h.quiets p' (by omega) (by omega) fun p1 k h1 h2 h3=>hs p1 k h1 (by omega) h3
  obtain ⟨g1,g2⟩:=h.quiet hk (hs p' _ (by omega) (by omega) hk)
  exact ⟨g1.trans i1,g2.trans i2⟩
theorem Trc.recd (h:Trc P C N ops W nx0 L t) {p0 k0:Nat} (hk0:L[p0]? = some k0) (hl:z29 ops k0):∀ (p:Nat),p0 < p->p≤L.length->∃ x,x ∈ (t p).lds∧x.k = k0∧∀ r,x.hits r = false->(t (p0 + 1)).h.H.get r = (t p0).h.H.get r
 | 0,hp,_=>by omega
 | p + 1,hp,hle=>by
  have hk:L[p]? = some (L[p]'(by omega)):=List.getElem?_eq_getElem _
  obtain ⟨o,v,s⟩:=h.stp p _ hk
  rcases Nat.lt_or_ge p0 p with q | q
  ·obtain ⟨x,h1,h2⟩:=h.recd hk0 hl p q (by omega)
   refine ⟨x,?_,h2⟩
   rcases s.way with ⟨_,_,h',_,_,hx⟩ | ⟨_,_,_,_,_,hx,_⟩
   ·rw [hx]; simp [h1]
   ·rw [hx]; exact h1
  ·have:p0 = p:=by omega
   subst this
   have e:L[p0]'(by omega) = k0:=by rw [hk] at hk0; exact Option.some.inj hk0
   rw [e] at s
   rcases s.way with ⟨_,_,h',he,hh,hx⟩ | ⟨g1,_⟩
   ·refine ⟨⟨k0,h'.lg,(t p0).h.nx,h'.nx⟩,by rw [hx]; simp,rfl,fun r hr=>?_⟩
    have hs:=zcq h.hC he
    simp only [Ld.hits,Bool.or_eq_false_iff,Bool.and_eq_false_iff,List.any_eq_false] at hr
    obtain ⟨hr1,hr2⟩:=hr
    have hlg:r ∉ h'.lg:=fun z=>hr2 r z (Nat.beq_refl r)
    rw [hh]
    show h'.H.get r = (t p0).h.H.get r
    rcases hr1 with hr1 | hr1
    ·have:r < (t p0).h.nx:=by
      rcases Nat.lt_or_ge r (t p0).h.nx with q | q
      ·exact q
      ·rw [Nat.ble_eq_true_of_le q] at hr1; cases hr1
     exact hs.log r this hlg
    ·have:h'.nx≤r:=by
      rcases Nat.lt_or_ge r h'.nx with q | q
      ·have:Nat.blt r h'.nx = true:=Nat.ble_eq_true_of_le q
       rw [this] at hr1; cases hr1
      ·exact q
     exact hs.top r this
   ·obtain ⟨o',ho',hlo⟩:=hl
    rw [s.op] at ho'
    cases ho'
    rw [g1] at hlo; cases hlo
theorem Trc.slot (h:Trc P C N ops W nx0 L t) {p k s:Nat} (hk:L[p]? = some k) (hs:W.get s ≠ some k):(t (p + 1)).T.f s = (t p).T.f s:=by
 obtain ⟨o,v,st⟩:=h.stp p k hk
 obtain ⟨hd,hT⟩:=z9m h.hN st.put
 rw [hT]
 cases ho:o.dst with
 | none=>rfl
 | some d=>exact z04 _ v fun e=>hs (by rw [e]; exact h.sole k o d st.op ho)
theorem Trc.slots (h:Trc P C N ops W nx0 L t) {s p:Nat}:∀ (p':Nat),p≤p'->p'≤L.length->(∀ p1 k,p≤p1->p1 < p'->L[p1]? = some k->W.get s ≠ some k)->(t p').T.f s = (t p).T.f s
 | 0,hp,_,_=>by rw [show p = 0 by omega]
 | p' + 1,hp,hl,hs=>by
  rcases Nat.eq_or_lt_of_le hp with q | q
  ·rw [q]
  have hk:L[p']? = some (L[p']'(by omega)):=List.getElem?_eq_getElem _
  rw [h.slot hk (hs p' _ (by omega) (by omega) hk)]
  exact h.slots p' (by omega) (by omega) fun p1 k h1 h2 h3=>hs p1 k h1 (by omega) h3
end
end Hm
end Go.Proofs.YtlhblpbfhfhlpaaGreatDoor
end
section
namespace Go.Proofs.YtlhblpbfhfhlpaaGreatDoor
open Go.RowKit
namespace Hm
section
variable {P:Program} {C:z1v} {N:Nat} {ops:Array Oper} {W:Tr Nat} {nx0:Nat} {L:List Nat} {t:Nat->Dx} {E0:Mx} {w0:World}
structure Inv (ops:Array Oper) (W:Tr Nat) (nx0:Nat) (L:List Nat) (t:Nat->Dx) (E0:Mx) (w0:World) (N q:Nat) (S:Nat->Bool) (E:Mx) (a:Act) (w:World):Prop where
 rel:Rel E w
 size:a.tmps.size = N
 step:Step E0 w0 E w
 cl:∀ i,S i = true->∀ j,tb (dep ops i) j = true->S j = true
 qle:q≤L.length
 q1:∀ p k,p < q->L[p]? = some k->z29 ops k->S k = true
 q2:∀ p k,q≤p->L[p]? = some k->z29 ops k->S k = false
 q3:q = L.length∨∃ k,L[q]? = some k∧z29 ops k
 heap:∀ p r ob,q≤p->p≤L.length->(∀ p1 k,q≤p1->p1 < p->L[p1]? = some k->z29 ops k->(t (p1 + 1)).h.H.get r = (t p1).h.H.get r) ->
  (∀ j,j < ops.size->r = nx0 + j->S j = true)->(t p).h.H.get r = some ob->E.H r = some ob
 names:∀ r,E.U r->(r < nx0∧E0.U r)∨(∃ j,j < ops.size∧S j = true∧r = nx0 + j)∨(nx0 + ops.size≤r∧r < (t q).h.nx)
 tmp:∀ s,match W.get s with
  | none=>Vr E w ((t 0).T.f s) (a.tmps.getD s undef)
  | some j=>(S j = true->Vr E w ((t L.length).T.f s) (a.tmps.getD s undef))∧(S j = false->Vr E w ((t 0).T.f s) (a.tmps.getD s undef))
 dfr:DRs E w (t q).D a.defers
 fr:∀ r,E0.U r->(t 0).h.H.get r = none->E.H r = E0.H r
theorem Inv.mask (h:Trc P C N ops W nx0 L t) {q:Nat} {S:Nat->Bool} {E:Mx} {a:Act} {w:World} (I:Inv ops W nx0 L t E0 w0 N q S E a w) {p k:Nat} (hk:L[p]? = some k) (hS:S k = false) (hd:∀ j,tb (dep ops k) j = true->S j = true) (hd2:∀ j,tb (dep ops k) j = true->tb (t p).done j = true) :
  ∀ s,Vr E w (ze4 W (depT ops.toList []) (t p).T k s) (a.tmps.getD s undef):=by
 intro s
 have hlt:=h.lt hk
 have:=I.tmp s
 unfold ze4
 cases hW:W.get s with
 | none =>
  rw [hW] at this
  dsimp only at this ⊢
  rw [h.slots p (Nat.zero_le _) (by omega) fun p1 k' _ _ _=>by rw [hW]; simp]
  exact this
 | some j =>
  rw [hW] at this
  dsimp only at this ⊢
  split
  ·rename_i hj
   obtain ⟨p',h1,h2⟩:=(h.has p (by omega) j).1 (hd2 j hj)
   rw [← h.slots (s:=s) (p:=p) L.length (by omega) (Nat.le_refl _) fun p1 k' g1 g2 g3 e=>by
    rw [hW] at e
    cases e
    have:=h.uniq h2 g3
    omega]
   exact this.1 (hd j hj)
  ·split
   ·rename_i hj
    have hSj:S j = false:=by
     cases e:S j with
     | false=>rfl
     | true=>have:=I.cl j e k hj; rw [hS] at this; cases this
    rw [h.slots p (Nat.zero_le _) (by omega) fun p1 k' _ g2 g3 e=>by
     rw [hW] at e
     cases e
     have:=h.ahead hk g3 hj
     omega]
    exact this.2 hSj
   ·exact .any _
theorem z9u (ops:Array Oper) (L:List Nat):∀ (m q:Nat),q + m = L.length->∃ q',q≤q'∧q'≤L.length∧(∀ p k,q≤p->p < q'->L[p]? = some k->¬ z29 ops k)∧(q' = L.length∨∃ k,L[q']? = some k∧z29 ops k)
 | 0,q,h=>⟨q,Nat.le_refl _,by omega,fun p k h1 h2=>by omega,.inl (by omega)⟩
 | m + 1,q,h=>by
  have hk:L[q]? = some (L[q]'(by omega)):=List.getElem?_eq_getElem _
  by_cases hl:z29 ops (L[q]'(by omega))
  ·exact ⟨q,Nat.le_refl _,by omega,fun p k h1 h2=>by omega,.inr ⟨_,hk,hl⟩⟩
  ·obtain ⟨q',h1,h2,h3,h4⟩:=z9u ops L m (q + 1) (by omega)
   refine ⟨q',by omega,h2,fun p k g1 g2 g3=>?_,h4⟩
   rcases Nat.eq_or_lt_of_le g1 with e | e
   ·subst e; rw [hk] at g3; cases g3; exact hl
   ·exact h3 p k e g2 g3
theorem ziq {S:Nat->Bool} (cl:∀ i,S i = true->∀ j,tb (dep ops i) j = true->S j = true) {k:Nat} {o:Oper} (ho:ops[k]? = some o) (hd:∀ j,j ∈ z0b o->S j = true):∀ j,tb (dep ops k) j = true->S j = true:=by
 intro j hj
 obtain ⟨i,h1,h2⟩:=dep_mem ho hj
 rcases h2 with rfl | h2
 ·exact hd _ h1
 ·exact cl i (hd i h1) j h2
theorem Inv.slot (h:Trc P C N ops W nx0 L t) {S:Nat->Bool} {E E':Mx} {a:Act} {w w':World} {ds:List Deferred} {p k:Nat} {o:Oper} {v:V} {u:Value} (hk:L[p]? = some k) (st:Stp P C N ops (depT ops.toList []) W nx0 k (t p) (t (p + 1)) o v)
  (hsz:a.tmps.size = N) (hs:Step E w E' w') (hv:Vr E' w' v u)
  (ht:∀ s,match W.get s with
   | none=>Vr E w ((t 0).T.f s) (a.tmps.getD s undef)
   | some j=>(S j = true->Vr E w ((t L.length).T.f s) (a.tmps.getD s undef))∧(S j = false->Vr E w ((t 0).T.f s) (a.tmps.getD s undef))) :
  (({ a with defers:=ds }:Act).put o.dst u).tmps.size = N∧∀ s,match W.get s with
   | none=>Vr E' w' ((t 0).T.f s) ((({ a with defers:=ds }:Act).put o.dst u).tmps.getD s undef)
   | some j=>((decide (j = k) || S j) = true->Vr E' w' ((t L.length).T.f s) ((({ a with defers:=ds }:Act).put o.dst u).tmps.getD s undef))∧((decide (j = k) || S j) = false->Vr E' w' ((t 0).T.f s) ((({ a with defers:=ds }:Act).put o.dst u).tmps.getD s undef)):=by
 have hlt:=h.lt hk
 obtain ⟨hd,hT⟩:=z9m h.hN st.put
 cases ho:o.dst with
 | none =>
  refine ⟨hsz,fun s=>?_⟩
  have:=ht s
  cases hW:W.get s with
  | none=>rw [hW] at this; exact this.step hs
  | some j =>
   rw [hW] at this
   dsimp only at this ⊢
   refine ⟨fun hj=>?_,fun hj=>by
    rw [Bool.or_eq_false_iff] at hj
    exact (this.2 hj.2).step hs⟩
   by_cases e:j = k
   ·subst e
    -- no slot is the operation's own
    obtain ⟨o',ho'⟩:∃ o',ops[j]? = some o':=⟨_,st.op⟩
    rcases Classical.em (S j = true) with q | q
    ·exact (this.1 q).step hs
    ·exact absurd (h.own s j hW) (by
      rintro ⟨o2,g1,g2⟩
      rw [st.op] at g1
      cases g1
      rw [ho] at g2; cases g2)
   ·simp only [e,decide_false,Bool.false_or] at hj
    exact (this.1 hj).step hs
 | some d =>
  have hdN:=hd d ho
  have hWd:=h.sole k o d st.op ho
  refine ⟨?_,fun s=>?_⟩
  ·show (a.tmps.setIfInBounds d u).size = N
   rw [Array.size_setIfInBounds]; exact hsz
  have hget:(({ a with defers:=ds }:Act).put (some d) u).tmps.getD s undef = if s = d then u else a.tmps.getD s undef:=by
   show (a.tmps.setIfInBounds d u).getD s undef = _
   rw [zaf (by rw [hsz]; exact hdN)]
  have:=ht s
  cases hW:W.get s with
  | none =>
   rw [hW] at this
   dsimp only at this ⊢
   rw [hget,if_neg (fun e=>by rw [e,hWd] at hW; cases hW)]
   exact this.step hs
  | some j =>
   rw [hW] at this
   dsimp only at this ⊢
   refine ⟨fun hj=>?_,fun hj=>by
    rw [Bool.or_eq_false_iff] at hj
    rw [hget,if_neg (fun e=>by
     rw [e,hWd] at hW
     cases hW
     simp at hj)]
    exact (this.2 hj.2).step hs⟩
   rw [hget]
   by_cases e:s = d
   ·subst e
    rw [if_pos rfl]
    rw [h.slots (s:=s) (p:=p + 1) L.length (by omega) (Nat.le_refl _) fun p1 k' g1 g2 g3 e=>by
     rw [hWd] at e
     cases e
     have:=h.uniq hk g3
     omega]
    rw [hT,ho]
    dsimp only
    rw [z03]
    exact hv
   ·rw [if_neg e]
    by_cases e2:j = k
    ·subst e2
     obtain ⟨o2,g1,g2⟩:=h.own s j hW
     rw [st.op] at g1
     cases g1
     rw [ho] at g2
     cases g2
     exact absurd rfl e
    ·simp only [e2,decide_false,Bool.false_or] at hj
     exact (this.1 hj).step hs
end
end Hm
end Go.Proofs.YtlhblpbfhfhlpaaGreatDoor
end
section
namespace Go.Proofs.YtlhblpbfhfhlpaaGreatDoor
open Go.RowKit
namespace Hm
section
variable {P:Program} {C:z1v} {N:Nat} {ops:Array Oper} {W:Tr Nat} {nx0:Nat} {L:List Nat} {t:Nat->Dx} {E0:Mx} {w0:World}
theorem loud_is {k:Nat} {o:Oper} (ho:ops[k]? = some o):z29 ops k ↔ loud o = true:=by
 constructor
 ·rintro ⟨o',h1,h2⟩
  rw [ho] at h1; cases h1; exact h2
 ·exact fun h=>⟨o,ho,h⟩
theorem Trc.waits (h:Trc P C N ops W nx0 L t) {p k p1 k1:Nat} (hk:L[p]? = some k) (hk1:L[p1]? = some k1) (hl:z29 ops k1) (hlt:p < p1):tb (dep ops k1) k = true:=by
 obtain ⟨o,v,s⟩:=h.stp p1 k1 hk1
 rcases s.way with ⟨_,hd,_⟩ | ⟨g,_⟩
 ·show tb ((depT ops.toList []).getD k1 0) k = true
  rw [← hd]
  exact (h.has p1 (Nat.le_of_lt (h.lt hk1).1) k).2 ⟨p,hlt,hk⟩
 ·rw [(loud_is s.op).1 hl] at g; cases g
theorem Inv.quiet_end (h:Trc P C N ops W nx0 L t) (hU0:∀ r,E0.U r->r < nx0) {q:Nat} {S:Nat->Bool} {E E':Mx} {a:Act} {w w':World} (I:Inv ops W nx0 L t E0 w0 N q S E a w) {p k:Nat} {o:Oper} {v:V} {u:Value} (hk:L[p]? = some k)
  (st:Stp P C N ops (depT ops.toList []) W nx0 k (t p) (t (p + 1)) o v) (hS:S k = false) (hl:¬ z29 ops k) (hd:∀ j,tb (dep ops k) j = true->S j = true) (hR:Rel E' w') (hs:Step E w E' w') (hv:Vr E' w' v u)
  {ob:Option Ob} (hHt:(t (p + 1)).h.H.get = match ob with
    | none=>(t p).h.H.get
    | some ob=>upd (t p).h.H.get (nx0 + k) (some ob))
  (hH:E'.H = match ob with
    | none=>E.H
    | some ob=>upd E.H (nx0 + k) (some ob))
  (hU:∀ r,E'.U r->E.U r∨r = nx0 + k) :
  Inv ops W nx0 L t E0 w0 N q (fun j=>decide (j = k) || S j) E' (a.put o.dst u) w':=by
 have hlt:=h.lt hk
 obtain ⟨z1,z2⟩:=Inv.slot (ds:=a.defers) h hk st I.size hs hv I.tmp
 have hdf:(a.put o.dst u).defers = a.defers:=by cases o.dst <;> rfl
 have hsub:∀ j,S j = true->(decide (j = k) || S j) = true:=fun j e=>by rw [e,Bool.or_true]
 have hne:∀ r,r ≠ nx0 + k->E'.H r = E.H r:=fun r e=>by
  rw [hH]
  cases ob with
  | none=>rfl
  | some ob=>exact z04 _ _ e
 refine ⟨hR,z1,I.step.trans hs,fun i hi j hj=>?_,I.qle,fun p1 k1 g1 g2 g3=>hsub _ (I.q1 p1 k1 g1 g2 g3),fun p1 k1 g1 g2 g3=>?_,I.q3,fun p1 r ob1 g1 g2 g3 g4 g5=>?_,fun r hr=>?_,z2,?_,fun r g1 g2=>?_⟩
 ·by_cases e:i = k
  ·rw [e] at hj; exact hsub _ (hd j hj)
  ·simp only [e,decide_false,Bool.false_or] at hi
   exact hsub _ (I.cl i hi j hj)
 ·have:k1 ≠ k:=fun e=>hl (e ▸ g3)
  simp only [this,decide_false,Bool.false_or]
  exact I.q2 p1 k1 g1 g2 g3
 ·by_cases e:r = nx0 + k
  ·subst e
   have hp:p < p1:=by
    rcases Nat.lt_or_ge p p1 with z | z
    ·exact z
    ·rw [h.unborn hk p1 z] at g5; cases g5
   have hsame:=h.same (r:=nx0 + k) (p:=p + 1) p1 hp g2 fun p2 k2 y1 y2 y3=>⟨fun y4=>?_,fun y4 e=>?_⟩
   ·rw [hsame,hHt] at g5
    cases ob with
    | none =>
     dsimp only at g5
     rw [h.unborn hk p (Nat.le_refl _)] at g5; cases g5
    | some ob2 =>
     dsimp only at g5
     rw [z03] at g5
     rw [hH]
     dsimp only
     rw [z03]; exact g5
   ·rcases Nat.lt_or_ge p2 q with z | z
    ·have a1:=I.q1 p2 k2 z y3 y4
     have a2:=I.cl k2 a1 k (h.waits hk y3 y4 (by omega))
     rw [hS] at a2; cases a2
    ·exact g3 p2 k2 z y2 y3 y4
   ·have e2:k2 = k:=by omega
    rw [e2] at y3
    have:=h.uniq hk y3
    omega
  ·rw [hne r e]
   refine I.heap p1 r ob1 g1 g2 g3 (fun j y1 y2=>?_) g5
   have:=g4 j y1 y2
   have e2:j ≠ k:=fun e3=>e (by rw [y2,e3])
   simpa only [e2,decide_false,Bool.false_or] using this
 ·rcases hU r hr with z | z
  ·rcases I.names r z with y | ⟨j,y1,y2,y3⟩ | y
   ·exact .inl y
   ·exact .inr (.inl ⟨j,y1,hsub _ y2,y3⟩)
   ·exact .inr (.inr y)
  ·exact .inr (.inl ⟨k,hlt.2,by simp,z⟩)
 ·rw [hdf]; exact I.dfr.step hs
 ·rw [hne r (by have:=hU0 r g1; omega)]
  exact I.fr r g1 g2
theorem Inv.quiet (h:Trc P C N ops W nx0 L t) (hU0:∀ r,E0.U r->r < nx0) {q:Nat} {S:Nat->Bool} {E:Mx} {a:Act} {w:World} (I:Inv ops W nx0 L t E0 w0 N q S E a w) {k:Nat} {o:Oper} (ho:ops[k]? = some o) (hS:S k = false) (hl:¬ z29 ops k) (hdir:∀ j,j ∈ z0b o->S j = true)
  {lo:Option Nat} (hlo:lo = none∨z9r o = true) (Q:Exit->Act->World->Prop) {K:Act->World->Prop} (hK:∀ E' a' w',Inv ops W nx0 L t E0 w0 N q (fun j=>decide (j = k) || S j) E' a' w'->K a' w') :
  (if Region.wanted o (yielded ops a.tmps) then o.wpIn (FF lo) 0 P a w K Q else K (a.put o.dst undef) w):=by
 obtain ⟨p,hk⟩:=h.pos (Array.getElem?_eq_some_iff.1 ho).1
 have hlt:=h.lt hk
 obtain ⟨o',v,st⟩:=h.stp p k hk
 have heq:o' = o:=by have:=st.op; rw [ho] at this; exact (Option.some.inj this).symm
 subst heq
 rcases st.way with ⟨g,_⟩ | ⟨_,hd2,hD,hnx,_,hlds,ob,hq,hHt⟩
 ·exact absurd ⟨_,ho,g⟩ hl
 have hd:=ziq I.cl ho hdir
 have hT:∀ s,Vr E w (ze4 W (depT ops.toList []) (t p).T k s) (a.tmps.getD s undef):=I.mask h hk hS hd hd2
 have hG:∀ r ob,maskG (t p).h.H (t p).lds (dep ops k) nx0 ops.size r = some ob->E.H r = some ob:=by
  intro r ob hr
  unfold maskG at hr
  split at hr
  ·rename_i ob1 hget
   split at hr
   ·cases hr
   ·rename_i hbad
    cases hr
    unfold bad at hbad
    rw [Bool.or_eq_false_iff,List.any_eq_false] at hbad
    obtain ⟨hb1,hb2⟩:=hbad
    have hav:∀ j,j < ops.size->r = nx0 + j->S j = true:=fun j y1 y2=>by
     refine hd j ?_
     rw [y2,Nat.ble_eq_true_of_le (Nat.le_add_right _ _),show Nat.blt (nx0 + j) (nx0 + ops.size) = true from Nat.ble_eq_true_of_le (by omega)] at hb1
     simpa using hb1
    rcases Nat.lt_or_ge p q with z | z
    ·have hsame:=h.same (r:=r) (p:=p) q (Nat.le_of_lt z) I.qle fun p2 k2 y1 y2 y3=>⟨fun y4=>?_,fun y4 e=>?_⟩
     ·rw [← hsame] at hget
      exact I.heap q r ob (Nat.le_refl _) I.qle (fun p1 k1 y1 y2=>by omega) hav hget
     ·have hp:p < p2:=by
       rcases Nat.eq_or_lt_of_le y1 with e | e
       ·subst e; rw [hk] at y3; cases y3; exact absurd y4 hl
       ·exact e
      have a1:=I.q1 p2 k2 y2 y3 y4
      have a2:=I.cl k2 a1 k (h.waits hk y3 y4 hp)
      rw [hS] at a2; cases a2
     ·rw [e,h.unborn y3 p y1] at hget; cases hget
    ·refine I.heap p r ob z (Nat.le_of_lt hlt.1) (fun p1 k1 y1 y2 y3 y4=>?_) hav hget
     obtain ⟨x,hx1,hx2,hx3⟩:=h.recd y3 y4 p y2 (Nat.le_of_lt hlt.1)
     refine hx3 r ?_
     have hnd:tb (dep ops k) k1 = false:=by
      cases e:tb (dep ops k) k1 with
      | false=>rfl
      | true=>have:=hd k1 e; rw [I.q2 p1 k1 y1 y3 y4] at this; cases this
     have:=hb2 x hx1
     rw [hx2,hnd] at this
     simpa using this
  ·cases hr
 unfold quietX at hq
 split at hq
 ·cases hq
 rename_i hwk
 rw [zmo hT ops o' hwk]
 have hnu:¬ E.U (nx0 + k):=fun z=>by
  rcases I.names _ z with y | ⟨j,y1,y2,y3⟩ | y
  ·omega
  ·have:j = k:=by omega
   rw [this,hS] at y2; cases y2
  ·have:=y.1; omega
 have hop:=fun {f} (e:op1 P (ze4 W (depT ops.toList []) (t p).T k) (maskG (t p).h.H (t p).lds ((depT ops.toList []).getD k 0) nx0 ops.size) (nx0 + k) o' = some f)=>zhq (a:=a) I.rel hnu (fun x=>by
   cases x with
   | tmp t=>exact hT t
   | const v=>exact .lit v
   | global g=>exact .lit _
   | func f=>exact .lit _) hG e
 split at hq
 ·rename_i hw
  rw [hw,if_pos rfl]
  split at hq
  ·rename_i v' nx' he
   split at hq
   ·rename_i hle
    cases hq
    obtain ⟨u,w',E',hrun,hv,hR',hS',hHH,hU⟩:=hop he
    have hle':=Nat.le_of_ble_eq_true hle
    have fin:K (a.put o'.dst u) w':=hK E' _ _ (I.quiet_end (ob:=none) h hU0 hk st hS hl hd hR' hS' hv hHt hHH fun r hr=>((hU r).1 hr).imp id fun z=>by omega)
    refine ⟨fun _ _=>trivial,?_⟩
    rw [show (FF lo).round = lo from rfl,zbj hlo]
    rcases hrun with hrun | ⟨hrun,rfl⟩
    ·rw [hrun,Oper.uponIn_value]; exact fin
    ·rw [hrun,Oper.uponIn_skip]; exact fin
   ·cases hq
  ·rename_i v' q' ob' nx' he
   split at hq
   ·rename_i hle hqe
    cases hq
    obtain ⟨u,w',E',hrun,hv,hR',hS',hHH,hU⟩:=hop he
    have hle':=Nat.le_of_ble_eq_true hle
    have hqe':=Nat.eq_of_beq_eq_true hqe
    subst hqe'
    have fin:K (a.put o'.dst u) w':=hK E' _ _ (I.quiet_end (ob:=some ob') h hU0 hk st hS hl hd hR' hS' hv hHt hHH fun r hr=>((hU r).1 hr).imp id fun z=>by omega)
    refine ⟨fun _ _=>trivial,?_⟩
    rw [show (FF lo).round = lo from rfl,zbj hlo]
    rcases hrun with hrun | ⟨hrun,rfl⟩
    ·rw [hrun,Oper.uponIn_value]; exact fin
    ·rw [hrun,Oper.uponIn_skip]; exact fin
   ·cases hq
  ·cases hq
 ·rename_i hw
  rw [hw,if_neg (by decide)]
  cases hq
  exact hK E _ _ (I.quiet_end (ob:=none) h hU0 hk st hS hl hd I.rel (Step.refl _ _) (.lit undef) hHt rfl fun r hr=>.inl hr)
theorem Inv.loud (h:Trc P C N ops W nx0 L t) (hU0:∀ r,E0.U r->r < nx0) {q:Nat} {S:Nat->Bool} {E:Mx} {a:Act} {w:World} (I:Inv ops W nx0 L t E0 w0 N q S E a w) {k:Nat} {o:Oper} (ho:ops[k]? = some o) (hS:S k = false) (hl:z29 ops k) (hdir:∀ j,j ∈ z0b o->S j = true)
  {lo:Option Nat} (hlo:lo = none∨z9r o = true) (Q:Exit->Act->World->Prop) {K:Act->World->Prop} (hK:∀ q' E' a' w',Inv ops W nx0 L t E0 w0 N q' (fun j=>decide (j = k) || S j) E' a' w'->K a' w') :
  (if Region.wanted o (yielded ops a.tmps) then o.wpIn (FF lo) 0 P a w K Q else K (a.put o.dst undef) w):=by
 obtain ⟨p,hk⟩:=h.pos (Array.getElem?_eq_some_iff.1 ho).1
 have hlt:=h.lt hk
 obtain ⟨o',v,st⟩:=h.stp p k hk
 have heq:o' = o:=by have:=st.op; rw [ho] at this; exact (Option.some.inj this).symm
 subst heq
 have hd:=ziq I.cl ho hdir
 have hpq:p = q:=by
  have h1:q≤p:=by
   rcases Nat.lt_or_ge p q with z | z
   ·have:=I.q1 p k z hk hl; rw [hS] at this; cases this
   ·exact z
  rcases Nat.eq_or_lt_of_le h1 with z | z
  ·exact z.symm
  ·rcases I.q3 with y | ⟨k1,y1,y2⟩
   ·omega
   ·have a1:=hd k1 (h.waits y1 hk hl z)
    rw [I.q2 q k1 (Nat.le_refl _) y1 y2] at a1; cases a1
 subst hpq
 rcases st.way with ⟨_,hdone,h',he,hh,_⟩ | ⟨g,_⟩
 case inr=>rw [(loud_is ho).1 hl] at g; cases g
 have hT:∀ s,Vr E w (ze4 W (depT ops.toList []) (t p).T k s) (a.tmps.getD s undef):=I.mask h hk hS hd fun j hj=>by rw [hdone]; exact hj
 have hH:∀ r ob,(t p).h.H.get r = some ob->E.H r = some ob:=fun r ob hr=>by
  refine I.heap p r ob (Nat.le_refl _) I.qle (fun p1 k1 y1 y2=>by omega) (fun j y1 y2=>?_) hr
  obtain ⟨pj,hj⟩:=h.pos y1
  rcases Nat.lt_or_ge pj p with z | z
  ·refine hd j ?_
   show tb ((depT ops.toList []).getD k 0) j = true
   rw [← hdone]
   exact (h.has p (Nat.le_of_lt hlt.1) j).2 ⟨pj,z,hj⟩
  ·rw [y2,h.unborn hj p z] at hr; cases hr
 have hge:=h.nx_ge p (Nat.le_of_lt hlt.1)
 have hfr:∀ r,E.U r->r < (t p).h.nx:=fun r hr=>by
  rcases I.names r hr with y | ⟨j,y1,y2,y3⟩ | y
  ·omega
  ·omega
  ·exact y.2
 have hst:=zcq h.hC he
 refine zcp (h:=⟨(t p).h.H,(t p).h.nx,[]⟩) h.hC I.rel hT hH hfr he hlo Q ?_
 rintro a' w' ⟨u,E',ds,rfl,hv,hn,hDD⟩
 obtain ⟨q',n1,n2,n3,n4⟩:=z9u ops L (L.length - (p + 1)) (p + 1) (by omega)
 obtain ⟨z1,z2⟩:=Inv.slot (ds:=ds) h hk st I.size hn.step hv I.tmp
 have hdf:(({ a with defers:=ds }:Act).put o'.dst u).defers = ds:=by cases o'.dst <;> rfl
 have hsub:∀ j,S j = true->(decide (j = k) || S j) = true:=fun j e=>by rw [e,Bool.or_true]
 obtain ⟨m1,m2⟩:=h.quiets (p:=p + 1) q' n1 n2 n3
 have hh2:(t (p + 1)).h.nx = h'.nx:=by rw [hh]
 have hh3:(t (p + 1)).h.H = h'.H:=by rw [hh]
 have hnx:(t p).h.nx≤h'.nx:=hst.nx
 refine hK q' E' _ _ ⟨hn.rel,z1,I.step.trans hn.step,fun i hi j hj=>?_,n2,fun p1 k1 g1 g2 g3=>?_,fun p1 k1 g1 g2 g3=>?_,n4,fun p1 r ob1 g1 g2 g3 g4 g5=>?_,fun r hr=>?_,z2,?_,fun r g1 g2=>?_⟩
 ·by_cases e:i = k
  ·rw [e] at hj; exact hsub _ (hd j hj)
  ·simp only [e,decide_false,Bool.false_or] at hi
   exact hsub _ (I.cl i hi j hj)
 ·rcases Nat.lt_or_ge p1 p with z | z
  ·exact hsub _ (I.q1 p1 k1 z g2 g3)
  ·rcases Nat.eq_or_lt_of_le z with e | e
   ·subst e; rw [hk] at g2; cases g2; simp
   ·exact absurd g3 (n3 p1 k1 e g1 g2)
 ·have:k1 ≠ k:=fun e=>by
   rw [e] at g2
   have:=h.uniq hk g2
   omega
  simp only [this,decide_false,Bool.false_or]
  exact I.q2 p1 k1 (by omega) g2 g3
 ·have hpl:p + 1≤p1:=by omega
  have lou:∀ p2 k2,p + 1≤p2->p2 < p1->L[p2]? = some k2->z29 ops k2->(t (p2 + 1)).h.H.get r = (t p2).h.H.get r:=fun p2 k2 y1 y2 y3 y4=>by
   rcases Nat.lt_or_ge p2 q' with z | z
   ·exact absurd y4 (n3 p2 k2 y1 z y3)
   ·exact g3 p2 k2 z y2 y3 y4
  cases hc:(t (p + 1)).h.H.get r with
  | some ob2 =>
   have hsame:=h.same (r:=r) (p:=p + 1) p1 hpl g2 fun p2 k2 y1 y2 y3=>⟨lou p2 k2 y1 y2 y3,fun y4 e=>by rw [e,h.unborn y3 (p + 1) y1] at hc; cases hc⟩
   rw [hsame,hh3] at g5
   exact hn.H r ob1 g5
  | none =>
   by_cases hex:∃ p2 k2,p + 1≤p2∧p2 < p1∧L[p2]? = some k2∧r = nx0 + k2
   ·obtain ⟨p2,k2,y1,y2,y3,y4⟩:=hex
    have hk2:k2 ≠ k:=fun e=>by rw [e] at y3; have:=h.uniq hk y3; omega
    have hS2:S k2 = true:=by
     have:=g4 k2 (h.lt y3).2 y4
     simpa only [hk2,decide_false,Bool.false_or] using this
    have hnone:(t p).h.H.get r = none:=by rw [y4]; exact h.unborn y3 p (by omega)
    have hE:E.H r = some ob1:=by
     refine I.heap p1 r ob1 (by omega) g2 (fun p3 k3 x1 x2 x3 x4=>?_) (fun j x1 x2=>?_) g5
     ·rcases Nat.eq_or_lt_of_le x1 with e | e
      ·subst e; rw [hc,hnone]
      ·exact lou p3 k3 e x2 x3 x4
     ·have:j = k2:=by omega
      rw [this]; exact hS2
    rw [hn.fr r (I.rel.used r ob1 hE) hnone]; exact hE
   ·have hsame:=h.same (r:=r) (p:=p + 1) p1 hpl g2 fun p2 k2 y1 y2 y3=>⟨lou p2 k2 y1 y2 y3,fun y4 e=>hex ⟨p2,k2,y1,y2,y3,e⟩⟩
    rw [hsame,hc] at g5; cases g5
 ·rcases hn.U r hr with z | z
  ·rcases I.names r z with y | ⟨j,y1,y2,y3⟩ | y
   ·exact .inl y
   ·exact .inr (.inl ⟨j,y1,hsub _ y2,y3⟩)
   ·exact .inr (.inr ⟨y.1,by rw [m2,hh2]; omega⟩)
  ·refine .inr (.inr ⟨?_,by rw [m2,hh2]; exact z.2⟩)
   have:(t p).h.nx≤r:=z.1
   omega
 ·rw [hdf,m1]; exact hDD I.dfr
 ·have g3:=h.old (hU0 r g1) g2 p (Nat.le_of_lt hlt.1)
  rw [hn.fr r (I.step.used r g1) g3]
  exact I.fr r g1 g2
end
end Hm
end Go.Proofs.YtlhblpbfhfhlpaaGreatDoor
end
section
namespace Go.Proofs.YtlhblpbfhfhlpaaGreatDoor
open Go.RowKit
namespace Hm
section
variable {P:Program} {C:z1v} {N:Nat} {ops:Array Oper}
structure DStep (h:Hx) (n:Nat) (h':Hx):Prop where
 nx:h.nx + n≤h'.nx
 dead:∀ q,q < h.nx->h.H.get q = none->h'.H.get q = none
 log:∀ q,q < h.nx->q ∉ h'.lg->h'.H.get q = h.H.get q
 keep:∀ q,q ∈ h.lg->q ∈ h'.lg
 top:∀ q,h'.nx≤q->h'.H.get q = h.H.get q
theorem runD_d (hC:z2v P C) {tab:List Nat} {W:Tr Nat} {h0:Hx}:∀ {L:List Nat} {c c':Dx},runD P C N ops tab W h0.nx L c = some c'->DStep h0 ops.size c.h->DStep h0 ops.size c'.h
 | [],c,c',e,d=>by cases e; exact d
 | k :: L,c,c',e,d=>by
  simp only [runD] at e
  split at e
  ·rename_i c1 h1
   refine runD_d hC e ?_
   obtain ⟨o,v,s⟩:=zga h1
   rcases s.way with ⟨_,_,h',he,hh,_⟩ | ⟨_,_,_,hx,hlg,_,ob,_,hH⟩
   ·have hs:=zcq hC he
    have hs1:c.h.nx≤h'.nx:=hs.nx
    have hd:=d.nx
    rw [hh]
    refine ⟨Nat.le_trans d.nx hs.nx,fun q hq e=>hs.dead q (show q < c.h.nx by omega) (d.dead q hq e),fun q hq e=>?_,fun q e=>?_,fun q hq=>?_⟩
    ·simp only [List.mem_append,not_or] at e
     exact (hs.log q (show q < c.h.nx by omega) e.1).trans (d.log q hq e.2)
    ·simp only [List.mem_append]; exact .inr (d.keep q e)
    ·have hq':h'.nx≤q:=hq
     exact (hs.top q hq').trans (d.top q (by omega))
   ·have hk:=(Array.getElem?_eq_some_iff.1 s.op).1
    have hd:=d.nx
    have hne:∀ q,q ≠ h0.nx + k->c1.h.H.get q = c.h.H.get q:=fun q hq=>by
     rw [hH]
     cases ob with
     | none=>rfl
     | some ob=>exact z04 _ _ hq
    refine ⟨by rw [hx]; exact d.nx,fun q hq e=>by rw [hne q (by omega)]; exact d.dead q hq e,fun q hq e=>?_,fun q e=>by rw [hlg]; exact d.keep q e,fun q hq=>?_⟩
    ·rw [hlg] at e
     rw [hne q (by omega)]; exact d.log q hq e
    ·rw [hx] at hq
     rw [hne q (by omega)]; exact d.top q hq
  ·cases e
theorem regD_h (hC:z2v P C) {s s':Sx} (e:regD P C N ops s = some s'):HStep s.h s'.h:=by
 unfold regD at e
 dsimp only at e
 split at e
 ·split at e
  ·rename_i c hc
   split at e
   ·cases e
    have d:=runD_d (h0:=s.h) hC hc ⟨Nat.le_refl _,fun q _ e=>e,fun _ _ _=>rfl,fun _ e=>e,fun _ _=>rfl⟩
    have:=d.nx
    exact ⟨show s.h.nx≤c.h.nx by omega,d.dead,d.log,d.keep,d.top⟩
   ·cases e
  ·cases e
 ·cases e
theorem regD_sound (hm:P.follows .mixedOrders = true) (hC:z2v P C) (hN:N≤1000) {id:Nat} {s s':Sx} {E:Mx} {a:Act} {w:World} (hX:XRel E s N a w) (e:regD P C N ops s = some s') {lo:Option Nat} (hlo:lo = none∨ops.toList.all z9r = true) {Q:Exit->Act->World->Prop} (hQ:∀ a' w',Nxt E w s.h N s' a' w'->Q .normal a' w') :
  (Code.region id ops true).wpIn (FF lo) 0 P Q a w:=by
 unfold regD at e
 dsimp only at e
 split at e
 case h_2=>cases e
 rename_i hchk
 rw [Bool.and_eq_true] at hchk
 split at e
 case h_2=>cases e
 rename_i c hc
 split at e
 case h_2=>cases e
 rename_i hfull
 cases e
 obtain ⟨t,e0,e1,e2⟩:=zbm hc
 generalize hL:ordL ops (depT ops.toList []) = L at hc e1 e2
 have hhedge:∀ i o,ops[i]? = some o->∀ j,j ∈ z0b o->j < i:=fun i o ho j hj=>by
  have:=zig hchk.1 i o (by simpa using ho) j hj; omega
 have hsole:∀ i o s,ops[i]? = some o->o.dst = some s->(wrX ops.toList 0 .lf).get s = some i∧s < 1000:=fun i o s ho hs=>by
  have:=zmr hchk.2 i o s (by simpa using ho) hs
  rwa [Nat.zero_add] at this
 have h:Trc P C N ops (wrX ops.toList 0 .lf) s.h.nx L t:=by
  refine ⟨hC,hN,by rw [e0],by rw [e0],fun r hr=>?_,fun k hk=>by rw [e1]; exact tb_full hfull hk,hhedge,fun i o s ho hs=>(hsole i o s ho hs).1,fun s j hj=>?_,e2⟩
  ·rw [e0]
   cases hg:s.h.H.get r with
   | none=>rfl
   | some ob =>
    have:=hX.fr r (hX.sr.rel.used r ob (hX.H r ob hg))
    omega
  ·rcases wrX_own (fun i o t ho ht=>(hsole i o t (by simpa using ho) ht).2) s j hj with z | ⟨i,o,z1,z2,z3⟩
   ·cases z
   ·exact ⟨o,by rw [z2,Nat.zero_add]; simpa using z1,z3⟩
 obtain ⟨hD1,hD2⟩:=hX.sr.rel.drew
 refine z35 hm hhedge (I:=fun S a' w'=>∃ q E',Inv ops (wrX ops.toList 0 .lf) s.h.nx L t E w N q S E' a' w') ?_ ?_ ?_
 ·rintro S a1 w1 i o ⟨q,E1,I⟩ ho hS hdir
  have hlo':lo = none∨z9r o = true:=hlo.imp (fun z=>z) fun q=>List.all_eq_true.1 q o (List.mem_of_getElem? (by simpa using ho))
  unfold wpOpIn
  rw [ho]
  dsimp only
  have key:∀ q' E' a' w',Inv ops (wrX ops.toList 0 .lf) s.h.nx L t E w N q' (fun j=>decide (j = i) || S j) E' a' w'->∃ q E',Inv ops (wrX ops.toList 0 .lf) s.h.nx L t E w N q (fun j=>decide (j = i) || S j) E' a' w':=fun q' E' a' w' h=>⟨q',E',h⟩
  have hst:if Region.wanted o (yielded ops a1.tmps) then o.wpIn (FF lo) 0 P a1 w1 (fun a' w'=>∃ q E',Inv ops (wrX ops.toList 0 .lf) s.h.nx L t E w N q (fun j=>decide (j = i) || S j) E' a' w') Q else (fun a' w'=>∃ q E',Inv ops (wrX ops.toList 0 .lf) s.h.nx L t E w N q (fun j=>decide (j = i) || S j) E' a' w') (a1.put o.dst undef) w1:=by
   by_cases hl:z29 ops i
   ·exact I.loud h hX.fr ho hS hl hdir hlo' Q (K:=fun a' w'=>∃ q E',Inv ops (wrX ops.toList 0 .lf) s.h.nx L t E w N q (fun j=>decide (j = i) || S j) E' a' w') key
   ·exact I.quiet h hX.fr ho hS hl hdir hlo' Q (K:=fun a' w'=>∃ q E',Inv ops (wrX ops.toList 0 .lf) s.h.nx L t E w N q (fun j=>decide (j = i) || S j) E' a' w') (key q)
  split
  ·rename_i hw
   rw [if_pos hw] at hst
   exact hst
  ·rename_i hw
   rw [if_neg hw] at hst
   exact ⟨fun _ _=>trivial,hst⟩
 ·rintro S a1 w1 ⟨q,E1,I⟩ hall
  have hq:q = L.length:=by
   rcases I.q3 with z | ⟨k,z1,z2⟩
   ·exact z
   ·have:=hall k (h.lt z1).2
    rw [I.q2 q k (Nat.le_refl _) z1 z2] at this; cases this
  subst hq
  have hT:∀ x,Vr E1 w1 (c.T.f x) (a1.tmps.getD x undef):=fun x=>by
   have:=I.tmp x
   cases hW:(wrX ops.toList 0 .lf).get x with
   | none =>
    rw [hW] at this
    dsimp only at this
    rw [← h.slots (p:=0) L.length (Nat.zero_le _) (Nat.le_refl _) fun p1 k' _ _ _=>by rw [hW]; simp] at this
    rw [e1] at this; exact this
   | some j =>
    rw [hW] at this
    dsimp only at this
    obtain ⟨o,ho,_⟩:=h.own x j hW
    have:=this.1 (hall j (Array.getElem?_eq_some_iff.1 ho).1)
    rw [e1] at this; exact this
  have hge:=h.nx_ge L.length (Nat.le_refl _)
  have hdf:=I.dfr
  have hhp:=fun r ob=>I.heap L.length r ob (Nat.le_refl _) (Nat.le_refl _) (fun p1 k1 y1 y2=>by omega) fun j y1 _=>hall j y1
  have hnm:=I.names
  rw [e1] at hdf hhp hnm hge
  refine hQ a1 w1 ⟨E1,⟨⟨I.rel,I.size,hT,hdf⟩,hhp,fun r hr=>?_⟩,⟨I.rel,I.step,hhp,fun r hr=>?_,fun r g1 g2=>I.fr r g1 (by rw [e0]; exact g2)⟩⟩
  ·show r < c.h.nx
   rcases hnm r hr with y | ⟨j,y1,y2,y3⟩ | y
   ·omega
   ·omega
   ·exact y.2
  ·rcases hnm r hr with y | ⟨j,y1,y2,y3⟩ | y
   ·exact .inl y.2
   ·exact .inr ⟨by omega,show r < c.h.nx by omega⟩
   ·exact .inr ⟨by omega,y.2⟩
 ·obtain ⟨q,n1,n2,n3,n4⟩:=z9u ops L L.length 0 (by omega)
  obtain ⟨m1,m2⟩:=h.quiets (p:=0) q n1 n2 n3
  refine ⟨q,E,hD1,hX.sr.size,hD2,fun i hi=>(by cases hi),n2,fun p k g1 g2 g3=>absurd g3 (n3 p k (Nat.zero_le _) g1 g2),fun _ _ _ _ _=>rfl,n4,fun p r ob g1 g2 g3 g4 g5=>?_,fun r hr=>.inl ⟨hX.fr r hr,hr⟩,fun x=>?_,?_,fun _ _ _=>rfl⟩
  ·have hsame:=h.same (r:=r) (p:=0) p (Nat.zero_le _) g2 fun p1 k y1 y2 y3=>⟨fun y4=>?_,fun y4 e=>?_⟩
   ·rw [hsame,e0] at g5
    exact hX.H r ob g5
   ·rcases Nat.lt_or_ge p1 q with z | z
    ·exact absurd y4 (n3 p1 k (Nat.zero_le _) z y3)
    ·exact g3 p1 k z y2 y3 y4
   ·have:=g4 k (h.lt y3).2 e
    cases this
  ·cases hW:(wrX ops.toList 0 .lf).get x with
   | none =>
    dsimp only
    rw [e0]
    exact (hX.sr.tmp x).step hD2
   | some j =>
    dsimp only
    refine ⟨fun e=>(by cases e),fun _=>?_⟩
    rw [e0]
    exact (hX.sr.tmp x).step hD2
  ·rw [m1,e0]; exact hX.sr.dfr.step hD2
end
inductive SameX:Exit->XK->Prop
 | normal:SameX .normal .normal
 | exit (id:Nat):SameX (.exit id) (.exit id)
 | ret:SameX .ret .ret
def Post (E:Mx) (w:World) (h:Hx) (N:Nat) (k:XK) (s':Sx):Exit->Act->World->Prop:=fun e a' w'=>SameX e k∧Nxt E w h N s' a' w'
section
variable {P:Program} {C:z1v} {N:Nat}
theorem z9c {lo:Option Nat} {c:Code} {Q Q':Exit->Act->World->Prop} (h:∀ e a w,Q e a w->Q' e a w):∀ (n:Nat) {a:Act} {w:World},Code.roundsIn (FF lo) 0 P c Q n a w->Code.roundsIn (FF lo) 0 P c Q' n a w
 | 0,a,w,hr=>hr.elim
 | n + 1,a,w,hr=>by
  rw [roundsIn_succ] at hr ⊢
  refine wpIn_mono hr fun e a w hq=>?_
  cases e with
  | normal=>exact z9c h n hq
  | _=>exact h _ _ _ hq
theorem z21 (hC:z2v P C):∀ (n:Nat) {c:Code} {s s':Sx} {k:XK},exeX P C N n c s = some (k,s')->HStep s.h s'.h
 | 0,c,s,s',k,e=>by simp [exeX] at e
 | n + 1,c,s,s',k,e=>by
  cases c with
  | skip=>simp only [exeX] at e; cases e; exact HStep.refl _
  | label l=>simp only [exeX] at e; cases e; exact HStep.refl _
  | region id ops draw =>
   simp only [exeX] at e
   split at e
   ·rename_i s1 h1
    cases e
    cases draw with
    | true=>exact regD_h hC h1
    | false=>exact runX_h hC h1
   ·cases e
  | seq a b =>
   simp only [exeX] at e
   split at e
   ·rename_i s1 h1
    exact (z21 hC n h1).trans (z21 hC n e)
   ·exact z21 hC n e
  | cond c a b =>
   simp only [exeX] at e
   split at e
   ·exact z21 hC n e
   ·exact z21 hC n e
   ·cases e
  | block id b =>
   simp only [exeX] at e
   split at e
   ·rename_i j s1 h1
    split at e
    ·cases e; exact z21 hC n h1
    ·cases e; exact z21 hC n h1
   ·exact z21 hC n e
  | loop b =>
   simp only [exeX] at e
   have key:∀ (m:Nat) {s s':Sx} {k:XK},za2 (exeX P C N n b) m s = some (k,s')->HStep s.h s'.h:=by
    intro m
    induction m with
    | zero=>intro s s' k e; simp [za2] at e
    | succ m ih =>
     intro s s' k e
     simp only [za2] at e
     split at e
     ·rename_i s1 h1
      exact (z21 hC n h1).trans (ih e)
     ·exact z21 hC n e
   exact key n e
  | exit id=>simp only [exeX] at e; cases e; exact HStep.refl _
  | ret=>simp only [exeX] at e; cases e; exact HStep.refl _
  | rangeFunc g ps asg bd =>
   simp only [exeX] at e
   split at e
   case h_2=>cases e
   rename_i f args hb hc
   split at e
   case h_2=>cases e
   rename_i v h2 hcall
   split at e
   case h_2=>cases e
   rename_i ts2 ps2 as2 bd2 hg
   cases e
   have hb:=z2e hb
   have hst:=(hC _ _ _ _ _ hcall).1
   have hn:=hst.nx
   dsimp only at hn
   have old:∀ q,q < s.h.nx->((s.h.H.set 20 s.h.nx (some Ob.defd)).set 20 (s.h.nx + 1) (some (Ob.loop (z6g s.T N) ps.toList asg bd false))).get q = s.h.H.get q:=fun q hq=>by
    rw [Tr.get_set20 hb,if_neg (by omega),Tr.get_set20 (by omega),if_neg (by omega)]
   refine ⟨by show s.h.nx≤h2.nx; omega,fun q hq e=>?_,fun q hq e=>?_,fun q hq=>?_,fun q hq=>?_⟩
   ·show (h2.H.set 20 (s.h.nx + 1) none).get q = none
    rw [Tr.get_set20 hb]
    split
    ·rfl
    ·exact hst.dead q (show q < s.h.nx + 2 by omega) (by rw [old q hq]; exact e)
   ·have e2:q ∉ h2.lg:=fun z=>e (List.mem_cons_of_mem _ z)
    show (h2.H.set 20 (s.h.nx + 1) none).get q = _
    rw [Tr.get_set20 hb,if_neg (by omega),hst.log q (show q < s.h.nx + 2 by omega) e2]
    exact old q hq
   ·exact List.mem_cons_of_mem _ (hst.keep q hq)
   ·have hq':h2.nx≤q:=hq
    show (h2.H.set 20 (s.h.nx + 1) none).get q = _
    rw [Tr.get_set20 hb,if_neg (by omega),hst.top q hq',Tr.get_set20 hb,if_neg (by omega),Tr.get_set20 (by omega),if_neg (by omega)]
  | _=>simp [exeX] at e
theorem z0y (hm:P.follows .mixedOrders = true) (hC:z2v P C) (hN:N≤1000) {lo:Option Nat}:∀ (n:Nat) {c:Code} {s s':Sx} {k:XK} {E:Mx} {a:Act} {w:World},XRel E s N a w->exeX P C N n c s = some (k,s')->(lo = none∨z4f c = true)->c.wpIn (FF lo) 0 P (Post E w s.h N k s') a w
 | 0,c,s,s',k,E,a,w,hX,e,hlo=>by simp [exeX] at e
 | n + 1,c,s,s',k,E,a,w,hX,e,hlo=>by
  have here:Nxt E w s.h N s a w:=⟨E,hX,Nx.refl hX.sr.rel hX.H⟩
  cases c with
  | skip=>simp only [exeX] at e; cases e; exact wpIn_skip ⟨.normal,here⟩
  | label l=>simp only [exeX] at e; cases e; exact wpIn_label ⟨.normal,here⟩
  | region id ops draw =>
   simp only [exeX] at e
   split at e
   ·rename_i s1 h1
    cases e
    cases draw with
    | true=>exact regD_sound hm hC hN hX h1 (hlo.imp (fun z=>z) fun q=>q) fun a' w' h'=>⟨.normal,h'⟩
    | false =>
     refine wpIn_region ?_
     have:=zbl (Q:=Post E w s.h N .normal s') hC hN (hlo.imp (fun z=>z) fun q=>q) ops.toList 0 rfl hX h1 fun a' w' h'=>⟨.normal,h'⟩
     rw [List.range_eq_range']
     simpa using this
   ·cases e
  | seq a1 b =>
   have hl1:lo = none∨z4f a1 = true:=hlo.imp (fun z=>z) fun q=>((Bool.and_eq_true _ _).mp q).1
   have hl2:lo = none∨z4f b = true:=hlo.imp (fun z=>z) fun q=>((Bool.and_eq_true _ _).mp q).2
   simp only [exeX] at e
   split at e
   ·rename_i s1 h1
    refine wpIn_seq (wpIn_mono (z0y hm hC hN n hX h1 hl1) ?_)
    rintro x a' w' ⟨hs,E',hX',hn⟩
    cases hs
    refine wpIn_mono (z0y hm hC hN n hX' e hl2) ?_
    rintro x a2 w2 ⟨hs,E2,hX2,hn2⟩
    exact ⟨hs,E2,hX2,hn.trans hX.fr (z21 hC n h1) (z21 hC n e) hn2⟩
   ·rename_i hne
    refine wpIn_seq (wpIn_mono (z0y hm hC hN n hX e hl1) ?_)
    rintro x a' w' ⟨hs,hn⟩
    cases hs with
    | normal=>exact absurd e (hne _)
    | exit id=>exact ⟨.exit id,hn⟩
    | ret=>exact ⟨.ret,hn⟩
  | cond c a1 b =>
   simp only [exeX] at e
   have hv:=hX.sr.opd c
   split at e
   ·rename_i hc
    rw [hc] at hv
    exact wpIn_cond_true hv.lit_inv (z0y hm hC hN n hX e (hlo.imp (fun z=>z) fun q=>((Bool.and_eq_true _ _).mp q).1))
   ·rename_i hc
    rw [hc] at hv
    exact wpIn_cond_false hv.lit_inv (z0y hm hC hN n hX e (hlo.imp (fun z=>z) fun q=>((Bool.and_eq_true _ _).mp q).2))
   ·cases e
  | block id b =>
   simp only [exeX] at e
   split at e
   ·rename_i j s1 h1
    refine wpIn_block (wpIn_mono (z0y hm hC hN n hX h1 hlo) ?_)
    rintro x a' w' ⟨hs,hn⟩
    cases hs
    split at e
    ·rename_i hj
     cases e
     have:=Nat.eq_of_beq_eq_true hj
     subst this
     simp only [Exit.inBlock,if_true]
     exact ⟨.normal,hn⟩
    ·rename_i hj
     cases e
     have:j ≠ id:=fun e=>by rw [e,Nat.beq_refl] at hj; cases hj
     simp only [Exit.inBlock,if_neg this]
     exact ⟨.exit j,hn⟩
   ·rename_i hne
    refine wpIn_block (wpIn_mono (z0y hm hC hN n hX e hlo) ?_)
    rintro x a' w' ⟨hs,hn⟩
    cases hs with
    | normal=>exact ⟨.normal,hn⟩
    | exit j=>exact absurd e (hne _ _)
    | ret=>exact ⟨.ret,hn⟩
  | loop b =>
   simp only [exeX] at e
   refine wpIn_loop_rounds n ?_
   have key:∀ (m:Nat) {s s':Sx} {k:XK} {E:Mx} {a:Act} {w:World},XRel E s N a w->za2 (exeX P C N n b) m s = some (k,s')->HStep s.h s'.h∧Code.roundsIn (FF lo) 0 P b (Post E w s.h N k s') m a w:=by
    intro m
    induction m with
    | zero=>intro s s' k E a w _ e; simp [za2] at e
    | succ m ih =>
     intro s s' k E a w hX e
     simp only [za2] at e
     rw [roundsIn_succ]
     split at e
     ·rename_i s1 h1
      have hst:HStep s1.h s'.h:=by
       have:∀ (m:Nat) {s s':Sx} {k:XK},za2 (exeX P C N n b) m s = some (k,s')->HStep s.h s'.h:=by
        intro m
        induction m with
        | zero=>intro s s' k e; simp [za2] at e
        | succ m ih =>
         intro s s' k e
         simp only [za2] at e
         split at e
         ·rename_i s1 h1
          exact (z21 hC n h1).trans (ih e)
         ·exact z21 hC n e
       exact this m e
      refine ⟨(z21 hC n h1).trans hst,wpIn_mono (z0y hm hC hN n hX h1 hlo) ?_⟩
      rintro x a' w' ⟨hs,E',hX',hn⟩
      cases hs
      refine z9c ?_ m (ih hX' e).2
      rintro x a2 w2 ⟨hs,E2,hX2,hn2⟩
      exact ⟨hs,E2,hX2,hn.trans hX.fr (z21 hC n h1) hst hn2⟩
     ·rename_i hne
      refine ⟨z21 hC n e,wpIn_mono (z0y hm hC hN n hX e hlo) ?_⟩
      rintro x a' w' ⟨hs,hn⟩
      cases hs with
      | normal=>exact absurd e (hne _)
      | exit id=>exact ⟨.exit id,hn⟩
      | ret=>exact ⟨.ret,hn⟩
   exact (key n hX e).2
  | exit id=>simp only [exeX] at e; cases e; exact wpIn_exit ⟨.exit id,here⟩
  | ret=>simp only [exeX] at e; cases e; exact wpIn_ret ⟨.ret,here⟩
  | rangeFunc g ps asg bd =>
   have hl0:lo = none:=hlo.resolve_right (by simp [z4f])
   subst hl0
   have hxh:=z21 hC (n + 1) e
   simp only [exeX] at e
   split at e
   case h_2=>cases e
   rename_i f args hb hc
   split at e
   case h_2=>cases e
   rename_i v h2 hcall
   split at e
   case h_2=>cases e
   rename_i ts2 ps2 as2 bd2 hg
   cases e
   have hb:=z2e hb
   refine wpIn_rangeFunc fun fn _=>?_
   have hn1:¬ E.U s.h.nx:=fun z=>Nat.lt_irrefl _ (hX.fr _ z)
   obtain ⟨r1,s1⟩:=hX.sr.rel.new hn1 (ob:=.defd) (o:=.deferred (some [])) rfl
   have hn2:¬ (E.new s.h.nx w.heap.size 0 .defd).U (s.h.nx + 1):=fun z=>by
    rcases z with z | z
    ·have:=hX.fr _ z; omega
    ·omega
   have hv1:Vrs (E.new s.h.nx w.heap.size 0 .defd) (w.alloc (.deferred (some []))) (z6g s.T N) a.tmps.toList:=by
    refine ⟨by simp [z6g,hX.sr.size],fun j c u hc hu=>?_⟩
    have hj:=(List.getElem?_eq_some_iff.1 hu).1
    unfold z6g at hc
    rw [List.getElem?_map,List.getElem?_range (by rw [← hX.sr.size]; simpa using hj)] at hc
    cases hc
    have:=hX.sr.tmp j
    rw [Array.getD_eq_getD_getElem?,← Array.getElem?_toList,hu] at this
    exact this.step s1
   obtain ⟨r2,s2⟩:=r1.new hn2 (ob:=.loop (z6g s.T N) ps.toList asg bd false) (o:=.loop { state:=.ready,pending:=none,fn,tmps:=a.tmps,params:=ps,assign:=asg,body:=bd,defers:=w.heap.size }) ⟨⟨rfl,rfl,rfl⟩,⟨rfl,rfl⟩,hv1⟩
   generalize hE2:(E.new s.h.nx w.heap.size 0 .defd).new (s.h.nx + 1) (w.alloc (.deferred (some []))).heap.size 0 (.loop (z6g s.T N) ps.toList asg bd false) = E2 at r2 s2
   have hsz:(w.alloc (.deferred (some []))).heap.size = w.heap.size + 1:=World.size_alloc _ _
   have hU2:∀ q,E2.U q ↔ (E.U q∨q = s.h.nx)∨q = s.h.nx + 1:=fun q=>by rw [← hE2]; exact Iff.rfl
   have hH2:∀ q,E2.H q = upd (upd E.H s.h.nx (some .defd)) (s.h.nx + 1) (some (.loop (z6g s.T N) ps.toList asg bd false)) q:=fun q=>by rw [← hE2]; rfl
   have hμ1:E2.μ (s.h.nx + 1) = (w.heap.size + 1,0):=by rw [← hE2,← hsz]; exact z03 _ _ _
   have hμ0:E2.μ s.h.nx = (w.heap.size,0):=by rw [← hE2]; show upd (upd E.μ _ _) _ _ _ = _; rw [z04 _ _ (by omega),z03]
   have hyl:Vr E2 ((w.alloc (.deferred (some []))).alloc (.loop { state:=.ready,pending:=none,fn,tmps:=a.tmps,params:=ps,assign:=asg,body:=bd,defers:=w.heap.size })) (.yl (s.h.nx + 1)) (.func (.yield (w.heap.size + 1)) #[] #[]):=.yl _ _ ((hU2 _).2 (.inr rfl)) fun _=>by rw [hμ1]
   obtain ⟨hok,d,us,hd1,hd2,hus⟩:=callE_run ((hX.sr.opd g).step (s1.trans s2)) (.cons hyl .nil) hc
   have hres:∀ w',(Deferred.ofValue (a.eval g) #[.func (.yield (w.heap.size + 1)) #[] #[]]).run P w' = .ok d w'->(resolve a.eval (rangeCall g (w.heap.size + 1)) 0).run P w' = .ok d w':=fun w' q=>by
    rw [← q]
    simp [resolve]
    rfl
   have hres:=hres _ hd1
   obtain ⟨hst,hcl⟩:=hC _ _ _ _ _ hcall
   have hn:=hst.nx
   dsimp only at hn
   have hcl:=hcl E2 _ us r2 (fun q ob hq=>by
    dsimp only at hq
    rw [Tr.get_set20 hb] at hq
    rw [hH2]
    by_cases q1:q = s.h.nx + 1
    ·subst q1; rw [if_pos rfl] at hq; rw [z03]; exact hq
    ·rw [if_neg q1,Tr.get_set20 (by omega)] at hq
     rw [z04 _ _ q1]
     by_cases q2:q = s.h.nx
     ·subst q2; rw [if_pos rfl] at hq; rw [z03]; exact hq
     ·rw [if_neg q2] at hq; rw [z04 _ _ q2]; exact hX.H q ob hq) (fun q hq=>by
    show q < s.h.nx + 2
    rcases (hU2 q).1 hq with (z | z) | z
    ·have:=hX.fr q z; omega
    ·omega
    ·omega) hus
   unfold z80 at hcl
   rw [if_neg (zcj hok)] at hcl
   refine ⟨w.heap.size + 1,[{ target:=.collected w.heap.size,args:=#[] }],_,d,_,f,us.toArray,_,run_enterLoop_outer fn a.tmps ps asg bd,hres,fun _ _=>trivial,hd2,fun q=>(by cases q),callsFF.2 (hcl.mono ?_)⟩
   rintro en w3 ⟨v3,E3,rfl,hv3,hR3,hS3,hH3,hU3,hF3⟩
   have hg3:=hH3 _ _ hg
   obtain ⟨ob3,ho3,hob3⟩:=hR3.obj _ _ hg3
   cases ob3 <;> try exact hob3.elim
   rename_i rc
   obtain ⟨_,⟨hst3,hpe3⟩,_⟩:=hob3
   have hμ3:(E3.μ (s.h.nx + 1)).1 = w.heap.size + 1:=by rw [hS3.same _ ((hU2 _).2 (.inr rfl)),hμ1]
   have hl3:w3.heap[w.heap.size + 1]? = some (.loop rc):=by rw [← hμ3]; exact ho3
   have hend:=run_endLoop (P:=P) hl3 (by rw [hst3]; decide)
   rw [hpe3] at hend
   obtain ⟨r4,s4⟩:=hR3.killw hg3 (w':=w3.putObj (w.heap.size + 1) (.loop { rc with state:=.exhausted,pending:=none })) (by
    rw [hμ3]
    exact ⟨rfl,rfl,rfl,by simp [World.putObj],fun k hk=>by rw [World.putObj_heap_other hk]⟩)
   refine ⟨none,_,hend,.normal,E3.kill (s.h.nx + 1),⟨⟨r4,hX.sr.size,fun t=>(((hX.sr.tmp t).step (s1.trans s2)).step hS3).step s4,?_⟩,fun q ob hq=>?_,fun q hq=>?_⟩,⟨r4,((s1.trans s2).trans hS3).trans s4,fun q ob hq=>?_,fun q hq=>?_,fun q hq e=>?_⟩⟩
   ·refine ⟨by simp [hX.sr.dfr.len],fun j x d hx hd=>?_⟩
    match j with
    | 0 =>
     cases hx; cases hd
     unfold DfrR
     rw [if_pos rfl]
     refine ⟨_,_,rfl,((Vr.yl (E:=E2) _ _ ((hU2 _).2 (.inl (.inr rfl))) fun _=>by rw [hμ0]).step hS3).step s4,rfl⟩
    | j + 1=>exact ((hX.sr.dfr.at_ j x d (by simpa using hx) (by simpa using hd)).step (s1.trans s2)).step hS3 |>.step s4
   all_goals have hkH:∀ q,q ≠ s.h.nx + 1->(E3.kill (s.h.nx + 1)).H q = E3.H q:=fun q hq=>z04 _ _ hq
   ·have hq:(h2.H.set 20 (s.h.nx + 1) none).get q = some ob:=hq
    rw [Tr.get_set20 hb] at hq
    split at hq
    ·cases hq
    ·rename_i hne; rw [hkH q hne]; exact hH3 q ob hq
   ·show q < h2.nx
    rcases hU3 q hq with z | z
    ·rcases (hU2 q).1 z with (z | z) | z
     ·have:=hX.fr q z; omega
     ·omega
     ·omega
    ·exact z.2
   ·have hq:(h2.H.set 20 (s.h.nx + 1) none).get q = some ob:=hq
    rw [Tr.get_set20 hb] at hq
    split at hq
    ·cases hq
    ·rename_i hne; rw [hkH q hne]; exact hH3 q ob hq
   ·show E.U q∨(s.h.nx≤q∧q < h2.nx)
    rcases hU3 q hq with z | z
    ·rcases (hU2 q).1 z with (z | z) | z
     ·exact .inl z
     ·exact .inr (by omega)
     ·exact .inr (by omega)
    ·have z1:s.h.nx + 2≤q:=z.1
     exact .inr ⟨by omega,z.2⟩
   ·have hlt:=hX.fr q hq
    rw [hkH q (by omega),hF3 q ((hU2 q).2 (.inl (.inl hq))) (by
     show ((s.h.H.set 20 s.h.nx (some Ob.defd)).set 20 (s.h.nx + 1) (some (Ob.loop (z6g s.T N) ps.toList asg bd false))).get q = none
     rw [Tr.get_set20 hb,if_neg (by omega),Tr.get_set20 (by omega),if_neg (by omega)]; exact e),hH2,z04 _ _ (by omega),z04 _ _ (by omega)]
  | _=>simp [exeX] at e
end
end Hm
end Go.Proofs.YtlhblpbfhfhlpaaGreatDoor
end
section
namespace Go.Proofs.YtlhblpbfhfhlpaaGreatDoor
open Go.RowKit
namespace Hm
def strsC:List V->Option (List ByteArray)
 | []=>some []
 | .lit (.string s) :: l=>match strsC l with
  | some r=>some (s :: r)
  | none=>none
 | _=>none
def strsV (G:Nat->Option Ob):V->Option (List ByteArray)
 | .sl r o z len=>match Nat.beq z 1 && Nat.blt 0 len,G r with
  | true,some (.cells _ cs)=>match Nat.ble (o + len) cs.length with
   | true=>strsC ((cs.drop o).take len)
   | false=>none
  | _,_=>none
 | _=>none
def z4h (sep:List UInt8):List ByteArray->List UInt8
 | []=>[]
 | [s]=>s.data.toList
 | s :: l=>s.data.toList ++ sep ++ z4h sep l
def joinX (fJ:FuncId):z1v:=fun f args h=>match Nat.beq f fJ with
 | true=>match args with
  | [v,.lit (.string sep)]=>match strsV h.H.get v with
   | some l=>match Nat.ble (z4h sep.data.toList l).length 1000000 && Nat.ble l.length 1000000 with
    | true=>some (.lit (.string ⟨(z4h sep.data.toList l).toArray⟩),h)
    | false=>none
   | none=>none
  | _=>none
 | false=>none
end Hm
end Go.Proofs.YtlhblpbfhfhlpaaGreatDoor
end
section
namespace Go.Proofs.YtlhblpbfhfhlpaaGreatDoor
open Go.RowKit
namespace Hm
section
variable {P:Program} {C:z1v} {E:Mx} {w:World}
theorem zcy:∀ (l:List V) (i:Nat) (t:Tr V) (m:Nat),i + l.length≤1000->(trOf l i t).get m = if i≤m∧m < i + l.length then l[m - i]? else t.get m
 | [],i,t,m,h=>by
  rw [trOf,if_neg (by simp)]
 | v :: l,i,t,m,h=>by
  simp only [List.length_cons] at h ⊢
  rw [trOf,zcy l (i + 1) _ m (by omega),Tr.get_set 10 t i m (by omega)]
  by_cases h1:m = i
  ·subst h1
   rw [if_neg (by omega),if_pos rfl,if_pos (by omega)]
   simp
  ·rw [if_neg h1]
   by_cases h2:i + 1≤m∧m < i + 1 + l.length
   ·rw [if_pos h2,if_pos (by omega),show m - i = (m - (i + 1)) + 1 by omega]
    simp
   ·rw [if_neg h2,if_neg (by omega)]
def z4m (tmps:Array Value):ResultVar->Sem Value
 | .tmp t=>pure (tmps.getD t undef)
 | .cell p t=>do loadVar t (← asAddr (tmps.getD p undef))
def z15:List Value->Value
 | [u]=>u
 | us=>.tuple us.toArray
theorem z25 {fn:Func} {rv:List ResultVar} {us:List Value} {tmps:Array Value} (hr:fn.results.toList = rv) (hlen:rv.length≤3) (hl:rv.length = us.length) (h:∀ (j:Nat) (r:ResultVar) (u:Value),rv[j]? = some r->us[j]? = some u->(z4m tmps r).run P w = .ok u w) :
  (results fn tmps).run P w = .ok (z15 us) w:=by
 have hres:fn.results = rv.toArray:=by apply Array.ext'; simpa using hr
 have e:results fn tmps = (do
   let vs ← fn.results.mapM (z4m tmps)
   pure (if h:vs.size = 1 then vs[0] else .tuple vs)):=rfl
 rw [e,hres]
 clear e hres hr
 match rv,us,hlen,hl,h with
 | [],[],_,_,h=>simp [z15]
 | [r1],[u1],_,_,h =>
  have h1:=h 0 r1 u1 rfl rfl
  simp [h1,z15]
 | [r1,r2],[u1,u2],_,_,h =>
  have h1:=h 0 r1 u1 rfl rfl
  have h2:=h 1 r2 u2 rfl rfl
  simp [h1,h2,z15]
 | [r1,r2,r3],[u1,u2,u3],_,_,h =>
  have h1:=h 0 r1 u1 rfl rfl
  have h2:=h 1 r2 u2 rfl rfl
  have h3:=h 2 r3 u3 rfl rfl
  simp [h1,h2,h3,z15]
theorem resX_sound (hR:Rel E w) {T:Tr V} {H:Tr Ob} {tmps:Array Value} (hT:∀ t,Vr E w (T.f t) (tmps.getD t undef)) (hH:∀ q ob,H.get q = some ob->E.H q = some ob) {r:ResultVar} {v:V} (e:resX P T H r = some v) :
  ∃ u,(z4m tmps r).run P w = .ok u w∧Vr E w v u:=by
 cases r with
 | tmp t=>simp only [resX] at e; cases e; exact ⟨_,rfl,hT t⟩
 | cell p t =>
  simp only [resX] at e
  split at e
  ·rename_i r o agg z h1 h2 h3
   split at e
   ·rename_i cs hg
    have hp:=hT p
    rw [h1] at hp
    have hl:=hp.ptr_live (hH _ _ hg)
    obtain ⟨x,hx,hv⟩:=ze7 hR hp h2 h3 (hH _ _ hg) e
    refine ⟨x,?_,hv⟩
    rw [hl] at hx
    simpa [z4m,hl,asAddr,Instr.loadAt,Instr.sureAddr] using hx
   ·cases e
  ·cases e
theorem z5j (hR:Rel E w) {T:Tr V} {H:Tr Ob} {tmps:Array Value} (hT:∀ t,Vr E w (T.f t) (tmps.getD t undef)) (hH:∀ q ob,H.get q = some ob->E.H q = some ob):∀ {l:List ResultVar} {vs:List V},ressX P T H l = some vs ->
  ∃ us,l.length = us.length∧Vrs E w vs us∧∀ (j:Nat) (r:ResultVar) (u:Value),l[j]? = some r->us[j]? = some u->(z4m tmps r).run P w = .ok u w
 | [],vs,e=>by cases e; exact ⟨[],rfl,.nil,fun j r u hj=>by simp at hj⟩
 | r :: l,vs,e=>by
  simp only [ressX] at e
  split at e
  ·rename_i v vs' h1 h2
   cases e
   obtain ⟨u,k1,k2⟩:=resX_sound hR hT hH h1
   obtain ⟨us,g1,g2,g3⟩:=z5j hR hT hH h2
   refine ⟨u :: us,by simp [g1],.cons k2 g2,fun j r' u' hj hu=>?_⟩
   cases j with
   | zero=>cases hj; cases hu; exact k1
   | succ j=>exact g3 j r' u' (by simpa using hj) (by simpa using hu)
  ·cases e
theorem zbd {vs:List V} {us:List Value} (h:Vrs E w vs us):Vr E w (tupX vs) (z15 us):=by
 have hl:=h.len
 match vs,us,hl,h with
 | [],[],_,h=>exact h.tup
 | [v],[u],_,h=>exact h.head
 | v :: v' :: vs,u :: u' :: us,_,h=>exact h.tup
theorem zlt {n:Nat} {args:List V} {h:Hx} {us:List Value} (hR:Rel E w) (hH:∀ q ob,h.H.get q = some ob->E.H q = some ob) (hfr:∀ q,E.U q->q < h.nx) (hus:Vrs E w args us) (hk1:args.length≤n) (hk2:n≤1000) :
  XRel E ⟨trOf args 0 .lf,[],h⟩ n { tmps:=us.toArray ++ Array.replicate (n - us.toArray.size) undef,defers:=[] } w:=by
 refine ⟨⟨hR,?_,fun t=>?_,rfl,fun j x d hj=>by simp at hj⟩,hH,hfr⟩
 ·have:=hus.len
  simp; omega
 ·have hl:=hus.len
  show Vr E w ((trOf args 0 .lf).f t) _
  unfold Tr.f
  rw [zcy args 0 .lf t (by omega),Array.getD_eq_getD_getElem?]
  by_cases ht:t < args.length
  ·rw [if_pos (by omega),Nat.sub_zero,Array.getElem?_append_left (by simp; omega)]
   have h1:args[t]? = some (args[t]'ht):=List.getElem?_eq_getElem _
   have h2:us[t]? = some (us[t]'(by omega)):=List.getElem?_eq_getElem _
   rw [h1]
   simp only [List.getElem?_toArray,h2,Option.getD_some]
   exact hus.at_ t _ _ h1 h2
  ·rw [if_neg (by omega),Array.getElem?_append_right (by simp; omega),Array.getElem?_replicate]
   have:((Tr.lf:Tr V).get t).getD (.lit undef) = .lit undef:=rfl
   rw [this]
   split
   ·exact .lit _
   ·exact .lit _
theorem zax (hm:P.follows .mixedOrders = true) (hC:z2v P C) {n:Nat} {f:FuncId} {args:List V} {h:Hx} {fn:Func} {s:Sx} (e:bodyX P C n f args h = some (fn,s)) :
  HStep h s.h∧P.funcs[f]? = some fn∧fn.results.toList.length≤3∧∃ c k,fn.body = some c∧(k = .normal∨k = .ret)∧∀ (E:Mx) (w:World) (us:List Value),Rel E w->(∀ q ob,h.H.get q = some ob->E.H q = some ob)->(∀ q,E.U q->q < h.nx)->Vrs E w args us ->
   c.wpIn (FF none) 0 P (Post E w h fn.ntmps k s) { tmps:=us.toArray ++ Array.replicate (fn.ntmps - us.toArray.size) undef,defers:=[] } w:=by
 unfold bodyX at e
 split at e
 case h_2=>cases e
 rename_i fn' hf
 split at e
 case h_2=>cases e
 rename_i c hb
 split at e
 case h_2=>cases e
 rename_i hchk
 rw [Bool.and_eq_true,Bool.and_eq_true] at hchk
 obtain ⟨hk1,hk2,hk3⟩:=hchk
 have hk1:=Nat.le_of_ble_eq_true hk1
 have hk2:=Nat.le_of_ble_eq_true hk2
 have hk3:=Nat.le_of_ble_eq_true hk3
 have go:∀ {k s'},exeX P C fn'.ntmps n c ⟨trOf args 0 .lf,[],h⟩ = some (k,s')->(k = .normal∨k = .ret)->fn' = fn->s' = s->HStep h s.h∧P.funcs[f]? = some fn∧fn.results.toList.length≤3∧∃ c k,fn.body = some c∧(k = .normal∨k = .ret)∧∀ (E:Mx) (w:World) (us:List Value),Rel E w->(∀ q ob,h.H.get q = some ob->E.H q = some ob)->(∀ q,E.U q->q < h.nx)->Vrs E w args us ->
   c.wpIn (FF none) 0 P (Post E w h fn.ntmps k s) { tmps:=us.toArray ++ Array.replicate (fn.ntmps - us.toArray.size) undef,defers:=[] } w:=by
  rintro k s' he hk rfl rfl
  refine ⟨z21 hC n he,hf,by simpa using hk3,c,k,hb,hk,fun E w us hR hH hfr hus=>?_⟩
  exact z0y hm hC hk2 n (s:=⟨trOf args 0 .lf,[],h⟩) (zlt hR hH hfr hus hk1 hk2) he (.inl rfl)
 split at e
 ·rename_i s' he
  injection e with e
  injection e with e1 e2
  exact go he (.inl rfl) e1 e2
 ·rename_i s' he
  injection e with e
  injection e with e1 e2
  exact go he (.inr rfl) e1 e2
 ·cases e
theorem zir (hm:P.follows .mixedOrders = true) (hC:z2v P C) (n:Nat):DSound P (zr3 P C n):=by
 intro f args h h' e
 unfold zr3 at e
 split at e
 case h_2=>cases e
 split at e
 case h_2=>cases e
 rename_i fn s hb
 split at e
 case h_2=>cases e
 rename_i vs hD hr
 cases e
 obtain ⟨hst,hf,h3,c,k,hbd,hk,hw⟩:=zax hm hC hb
 refine ⟨hst,fun E w us u hR hH hfr hus=>?_⟩
 refine callsDIn_of_wp (F:=Fence.wide) (R:=fun e w'=>∃ r,Ret E w h r s.h e w') hf hbd trivial (wpIn_mono (hw E w us hR hH hfr hus) ?_)
 rintro x a' w' ⟨hs,E',hX',hn⟩
 obtain ⟨us',g1,g2,g3⟩:=z5j hX'.sr.rel hX'.sr.tmp hX'.H hr
 have hres:=z25 (P:=P) (w:=w') rfl h3 g1 g3
 have hd:a'.defers = []:=by
  have:=hX'.sr.dfr.len
  rw [hD] at this
  exact List.length_eq_zero_iff.1 this.symm
 have fin:a'.defers = []∧∃ v,(results fn a'.tmps).run P w' = .ok v w'∧∃ r,Ret E w h r s.h (.returned v) w' :=
  ⟨hd,_,hres,tupX vs,_,E',rfl,zbd g2,hn.rel,hn.step,hn.H,hn.U,hn.fr⟩
 rcases hk with rfl | rfl <;> cases hs <;> exact fin
theorem HStep.end_ {h:Hx} {r:Nat} (ob:Option Ob) (hl:h.H.get r ≠ none) (h1:r < 1000000) (h2:r < h.nx):HStep h ⟨h.H.set 20 r ob,h.nx,r :: h.lg⟩:=by
 refine ⟨Nat.le_refl _,fun q hq e=>?_,fun q hq e=>?_,fun q hq=>List.mem_cons_of_mem _ hq,fun q hq=>?_⟩
 ·show (h.H.set 20 r ob).get q = none
  rw [Tr.get_set20 h1,if_neg (fun (z:q = r)=>hl (by rw [← z]; exact e))]; exact e
 ·show (h.H.set 20 r ob).get q = _
  rw [Tr.get_set20 h1,if_neg (fun z=>e (by simp [z]))]
 ·have hq:h.nx≤q:=hq
  show (h.H.set 20 r ob).get q = _
  rw [Tr.get_set20 h1,if_neg (by omega)]
theorem zcs {F:FuncId->List V->Hx->Option Hx} (hF:DSound P F):∀ {D:List (FuncId × List V)} {h h':Hx},dfrX F D h = some h'->HStep h h'
 | [],h,h',e=>by cases e; exact HStep.refl _
 | d :: D,h,h',e=>by
  simp only [dfrX] at e
  split at e
  ·split at e
   ·split at e
    ·rename_i hg hb
     rw [Bool.and_eq_true] at hb
     exact (HStep.end_ none (by rw [hg]; simp) (z2e hb.1) (z2e hb.2)).trans (zcs hF e)
    ·cases e
   ·cases e
  ·split at e
   ·rename_i h1 he
    exact (hF _ _ _ _ he).1.trans (zcs hF e)
   ·cases e
theorem Rel.deferred (h:Rel E w) {r:Nat} (hr:E.H r = some .defd):w.heap[(E.μ r).1]? = some (.deferred (some [])):=by
 obtain ⟨o,h1,h2⟩:=h.obj r _ hr
 cases o <;> try exact h2.elim
 rw [h1,show _ = some [] from h2]
theorem z7n {F:FuncId->List V->Hx->Option Hx} (hF:DSound P F) (hok:∀ f args h h',F f args h = some h'->z1p P f = true) {fn:Func} {tmps:Array Value} {R:Ending->World->Prop}:∀ {D:List (FuncId × List V)} {ds:List Deferred} {E:Mx} {w:World} {h h':Hx},dfrX F D h = some h'->Rel E w->(∀ q ob,h.H.get q = some ob->E.H q = some ob)->(∀ q,E.U q->q < h.nx)->DRs E w D ds ->
  (∀ E' w',Nx E w h E' w' h'->∃ v,(results fn tmps).run P w' = .ok v w'∧R (.returned v) w')->LeavesInM Fence.wide 0 P fn tmps R ds .returning w
 | [],ds,E,w,h,h',e,hR,hH,hfr,hD,hQ=>by
  cases e
  have:ds = []:=List.length_eq_zero_iff.1 hD.len.symm
  subst this
  exact hQ E w (Nx.refl hR hH)
 | d :: D,[],E,w,h,h',e,hR,hH,hfr,hD,hQ=>absurd hD.len (by simp)
 | d :: D,dd :: ds,E,w,h,h',e,hR,hH,hfr,hD,hQ=>by
  have hd0:=hD.at_ 0 d dd rfl rfl
  have hDt:∀ {E':Mx} {w':World},Step E w E' w'->DRs E' w' D ds:=fun k=>⟨by have:=hD.len; simpa using this,fun j x d' hx hd'=>(hD.at_ (j + 1) x d' (by simpa using hx) (by simpa using hd')).step k⟩
  simp only [dfrX] at e
  unfold DfrR at hd0
  split at e
  ·rename_i hmk
   rw [if_pos (Nat.eq_of_beq_eq_true hmk)] at hd0
   obtain ⟨r0,g,he0,hv0,hdd⟩:=hd0
   split at e
   ·rename_i r hr
    have hrr:r = r0:=by
     rw [hr] at he0
     injection he0 with q
     injection q
    subst hrr
    split at e
    ·rename_i hg hb
     rw [Bool.and_eq_true] at hb
     have hE:=hH _ _ hg
     cases hv0 with
     | yl _ _ hU hl =>
     have hgm:=hl (by rw [hE]; rfl)
     have hdf:=hR.deferred hE
     rw [← hgm] at hdf
     obtain ⟨k1,k2⟩:=hR.killw hE (w':=w.putObj g (.deferred none)) (by
      rw [← hgm]
      exact ⟨rfl,rfl,rfl,by simp [World.putObj],fun k hk=>by rw [World.putObj_heap_other hk]⟩)
     have hst:=HStep.end_ (h:=h) none (by rw [hg]; simp) (z2e hb.1) (z2e hb.2)
     have hn:Nx E w h (E.kill r) (w.putObj g (.deferred none)) ⟨h.H.set 20 r none,h.nx,r :: h.lg⟩:=by
      refine ⟨k1,k2,fun q ob hq=>?_,fun q hq=>.inl hq,fun q hq e=>?_⟩
      ·have hq:(h.H.set 20 r none).get q = some ob:=hq
       rw [Tr.get_set20 (z2e hb.1)] at hq
       split at hq
       ·cases hq
       ·rename_i hne
        show upd E.H r none q = _
        rw [z04 _ _ hne]; exact hH q ob hq
      ·show upd E.H r none q = _
       rw [z04 _ _ (fun z=>by rw [z,hg] at e; cases e)]
     refine ⟨by simp,.inl ⟨g,_,by rw [hdd],run_takeDeferred hdf,?_⟩⟩
     exact z7n hF hok e k1 hn.H (hn.below hfr hst) (hDt k2) fun E2 w2 hn2=>hQ E2 w2 (hn.trans hfr hst (zcs hF e) hn2)
    ·cases e
   ·cases e
  ·rename_i hmk
   rw [if_neg (fun z=>by rw [z,Nat.beq_refl] at hmk; cases hmk)] at hd0
   split at e
   case h_2=>cases e
   rename_i h1 he
   obtain ⟨cap,args,rfl,hv⟩:=hd0
   obtain ⟨hst,hcall⟩:=hF _ _ _ _ he
   refine ⟨by simp,.inr ⟨fun q=>(by cases q),_,cap,d.1,args ++ cap,rfl,by simp [invoke,z2k (hok _ _ _ _ he)],fun _ _=>trivial,?_⟩⟩
   have:=hcall E w _ .returning hR hH hfr hv
   have e2:(args.toList ++ cap.toList).toArray = args ++ cap:=by apply Array.ext'; simp
   rw [e2] at this
   refine this.mono ?_
   rintro en u' w' ⟨rfl,r,v,E',rfl,_,hR',hS,hHH,hU,hF'⟩
   have hn:Nx E w h E' w' h1:=⟨hR',hS,hHH,hU,hF'⟩
   exact z7n hF hok e hR' hHH (hn.below hfr hst) (hDt hS) fun E2 w2 hn2=>hQ E2 w2 (hn.trans hfr hst (zcs hF e) hn2)
theorem Nx.put {h:Hx} {w':World} {r:Nat} {ob ob':Ob} (hg:h.H.get r = some ob) (h1:r < 1000000) (hH:∀ q ob,h.H.get q = some ob->E.H q = some ob) (hW:Rel { E with H:=upd E.H r (some ob') } w'∧Step E w { E with H:=upd E.H r (some ob') } w') :
  Nx E w h { E with H:=upd E.H r (some ob') } w' ⟨h.H.set 20 r (some ob'),h.nx,r :: h.lg⟩:=by
 refine ⟨hW.1,hW.2,fun q ob2 hq=>?_,fun q hq=>.inl hq,fun q hq e=>z04 _ _ (fun z=>by rw [z,hg] at e; cases e)⟩
 have hq:(h.H.set 20 r (some ob')).get q = some ob2:=hq
 rw [Tr.get_set20 h1] at hq
 show upd E.H r (some ob') q = _
 by_cases z:q = r
 ·rw [if_pos z] at hq; rw [z,z03]; exact hq
 ·rw [if_neg z] at hq; rw [z04 _ _ z]; exact hH q ob2 hq
theorem z9n {N:Nat} (hN:N≤1000):∀ {ps:List Nat} {vs:List V} {us:List Value} {T:Tr V} {ts:Array Value},Vrs E w vs us->ps.length = vs.length->(∀ t,t ∈ ps->t < N)->ts.size = N->(∀ t,Vr E w (T.f t) (ts.getD t undef)) ->
  ((ps.zip us).foldl (fun tmps (p:Nat × Value)=>tmps.setIfInBounds p.1 p.2) ts).size = N∧∀ t,Vr E w ((parsX ps vs T).f t) (((ps.zip us).foldl (fun tmps (p:Nat × Value)=>tmps.setIfInBounds p.1 p.2) ts).getD t undef)
 | [],vs,us,T,ts,hv,hl,hp,hs,h=>by
  simp only [List.zip_nil_left,List.foldl_nil]
  refine ⟨hs,fun t=>?_⟩
  cases vs <;> exact h t
 | p :: ps,[],us,T,ts,hv,hl,hp,hs,h=>absurd hl (by simp)
 | p :: ps,v :: vs,[],T,ts,hv,hl,hp,hs,h=>absurd hv.len (by simp)
 | p :: ps,v :: vs,u :: us,T,ts,hv,hl,hp,hs,h=>by
  simp only [List.zip_cons_cons,List.foldl_cons]
  have hpN:=hp p (by simp)
  refine z9n hN hv.tail (by simpa using hl) (fun t ht=>hp t (by simp [ht])) (by simpa using hs) fun t=>?_
  rw [Tr.f_set (by omega),zaf (by omega)]
  by_cases e:t = p
  ·rw [e,z03,if_pos rfl]; exact hv.head
  ·rw [z04 _ _ e,if_neg e]; exact h t
theorem Rel.loop (h:Rel E w) {r:Nat} {ts:List V} {ps:List Nat} {asg bd:Code} {b:Bool} (hr:E.H r = some (.loop ts ps asg bd b)):∃ rc,w.heap[(E.μ r).1]? = some (.loop rc)∧ObR E w (E.μ r).2 (.loop ts ps asg bd b) (.loop rc):=by
 obtain ⟨o,h1,h2⟩:=h.obj r _ hr
 cases o <;> try exact h2.elim
 exact ⟨_,h1,h2⟩
theorem rndX_sound (hm:P.follows .mixedOrders = true) (hC:z2v P C) {n:Nat} {args:List V} {h h':Hx} {rv:V} (e:rndX P C n args h = some (rv,h')) :
  HStep h h'∧∀ (E:Mx) (w:World) (us:List Value),Rel E w->(∀ q ob,h.H.get q = some ob->E.H q = some ob)->(∀ q,E.U q->q < h.nx)->Vrs E w args us->z80 P yldId us w (Ret E w h rv h'):=by
 unfold rndX at e
 split at e
 case h_2=>cases e
 rename_i r vs
 split at e
 case h_2=>cases e
 rename_i ts ps asg bd hg
 split at e
 case h_2=>cases e
 rename_i hchk
 rw [Bool.and_eq_true,Bool.and_eq_true,Bool.and_eq_true,Bool.and_eq_true,Bool.and_eq_true,Bool.and_eq_true] at hchk
 obtain ⟨⟨hc1,hc2⟩,hc3,⟨hc4,hc5⟩,hc6,hc7⟩:=hchk
 have hc1:=Nat.eq_of_beq_eq_true hc1
 have hc3:=Nat.le_of_ble_eq_true hc3
 have hc4:=z2e hc4
 have hc5:=z2e hc5
 split at e
 case h_2=>cases e
 rename_i s1 he1
 split at e
 case h_2=>cases e
 rename_i ts2 ps2 as2 bd2 hg2
 split at e
 case h_2=>cases e
 rename_i s2 he2
 split at e
 case h_2=>cases e
 rename_i ts3 ps3 as3 bd3 hg3
 cases e
 have st1:=z21 hC n he1
 have hn1:=st1.nx
 dsimp only at hn1
 have st2:=HStep.end_ (h:=s1.h) (some (.loop ts2 ps2 as2 bd2 true)) (by rw [hg2]; simp) hc4 (by omega)
 have st3:=z21 hC n he2
 have hn3:=st3.nx
 dsimp only at hn3
 have st4:=HStep.end_ (h:=s2.h) (some (.loop ts3 ps3 as3 bd3 false)) (by rw [hg3]; simp) hc4 (by omega)
 refine ⟨((st1.trans st2).trans st3).trans st4,fun E w us hR hH hfr hus=>?_⟩
 match us,hus with
 | [],hus=>exact absurd hus.len (by simp)
 | u :: us,hus =>
 have hu:=hus.head
 have hE:=hH _ _ hg
 cases hu with
 | yl _ g hU hl =>
 have hgm:=hl (by rw [hE]; rfl)
 obtain ⟨rc,ho,⟨rfl,rfl,rfl⟩,⟨hst,hpe⟩,hts⟩:=hR.loop hE
 rw [← hgm] at ho
 have hul:us.length = rc.params.toList.length:=by have:=hus.tail.len; omega
 unfold z80
 rw [if_pos rfl]
 refine ⟨g,us,_,_,_,_,rfl,run_yield ho (by simpa using hul),roundIn_of_wpIn (F:=Fence.wide) trivial ?_⟩
 have hfold:((rc.params.zip us.toArray).foldl (fun tmps (t,a)=>tmps.setIfInBounds t a) rc.tmps) = ((rc.params.toList.zip us).foldl (fun tmps (p:Nat × Value)=>tmps.setIfInBounds p.1 p.2) rc.tmps):=by
  rw [← Array.foldl_toList]
  simp
 rw [hfold]
 have hsz:rc.tmps.size = ts.length:=by have:=hts.len; simpa using this.symm
 obtain ⟨p1,p2⟩:=z9n (T:=trOf ts 0 .lf) (ts:=rc.tmps) hc3 hus.tail hc1.symm (fun t ht=>z2e (List.all_eq_true.1 hc2 t ht)) hsz (fun t=>by
  unfold Tr.f
  rw [zcy ts 0 .lf t (by omega),Array.getD_eq_getD_getElem?]
  by_cases ht:t < ts.length
  ·rw [if_pos (by omega),Nat.sub_zero,List.getElem?_eq_getElem ht,Array.getElem?_eq_getElem (by omega)]
   exact hts.at_ t _ _ (List.getElem?_eq_getElem ht) (by rw [Array.getElem?_toList,Array.getElem?_eq_getElem (by omega)]; rfl)
  ·rw [if_neg (by omega),Array.getElem?_eq_none (by omega)]
   exact .lit _)
 have hX0:XRel E ⟨parsX rc.params.toList vs (trOf ts 0 .lf),[],h⟩ ts.length { tmps:=(rc.params.toList.zip us).foldl (fun tmps (p:Nat × Value)=>tmps.setIfInBounds p.1 p.2) rc.tmps,defers:=[] } w :=
  ⟨⟨hR,p1,p2,rfl,fun j x d hj=>by simp at hj⟩,hH,hfr⟩
 refine wpIn_mono (z0y hm hC hc3 (lo:=some g) n hX0 he1 (.inr hc6)) ?_
 rintro x a1 w1 ⟨hs,E1,hX1,hn1'⟩
 cases hs
 have hE1:=hX1.H _ _ hg2
 obtain ⟨rc1,ho1,⟨q1,q2,q3⟩,⟨q4,q5⟩,q6⟩:=hX1.sr.rel.loop hE1
 have hg1:(E1.μ r).1 = g:=by rw [hn1'.step.same _ hU,← hgm]
 have hl1:w1.heap[g]? = some (.loop rc1):=by rw [← hg1]; exact ho1
 have hbg:=run_beginRound (P:=P) hl1 q4
 refine ⟨_,hbg,?_⟩
 have hW2:=hX1.sr.rel.write hE1 ho1 (w':=w1.putObj g (.loop { rc1 with state:=.busy })) (o':=.loop { rc1 with state:=.busy }) (ob':=.loop ts2 ps2 as2 bd2 true)
  (by rw [hg1]; exact ⟨rfl,rfl,rfl,by simp [World.putObj],fun k hk=>by rw [World.putObj_heap_other hk]⟩) (by rw [hg1]; exact World.putObj_heap_same (by rw [← hg1]; exact (Array.getElem?_eq_some_iff.1 ho1).1)) (fun _ _ _ z=>by cases z) ⟨⟨q1,q2,q3⟩,⟨rfl,q5⟩,q6⟩
 have n2:=Nx.put hg2 hc4 hX1.H hW2
 have hX2:XRel _ ⟨s1.T,s1.D,⟨s1.h.H.set 20 r (some (.loop ts2 ps2 as2 bd2 true)),s1.h.nx,r :: s1.h.lg⟩⟩ ts.length a1 _ :=
  ⟨⟨n2.rel,hX1.sr.size,fun t=>(hX1.sr.tmp t).step n2.step,hX1.sr.dfr.step n2.step⟩,n2.H,n2.below hX1.fr st2⟩
 refine wpIn_mono (z0y hm hC hc3 (lo:=some g) n hX2 he2 (.inr hc7)) ?_
 rintro x a3 w3 ⟨hs,E3,hX3,hn3'⟩
 cases hs
 have hE3:=hX3.H _ _ hg3
 obtain ⟨rc3,ho3,⟨y1,y2,y3⟩,⟨y4,y5⟩,y6⟩:=hX3.sr.rel.loop hE3
 have hU1:E1.U r:=hn1'.step.used _ hU
 have hg3':(E3.μ r).1 = g:=by rw [hn3'.step.same _ hU1]; exact hg1
 have hl3:w3.heap[g]? = some (.loop rc3):=by rw [← hg3']; exact ho3
 have hen:=run_endRound (P:=P) none hl3
 have hW4:=hX3.sr.rel.write hE3 ho3 (w':=w3.putObj g (.loop { rc3 with state:=.ready,pending:=none })) (o':=.loop { rc3 with state:=.ready,pending:=none }) (ob':=.loop ts3 ps3 as3 bd3 false)
  (by rw [hg3']; exact ⟨rfl,rfl,rfl,by simp [World.putObj],fun k hk=>by rw [World.putObj_heap_other hk]⟩) (by rw [hg3']; exact World.putObj_heap_same (by rw [← hg3']; exact (Array.getElem?_eq_some_iff.1 ho3).1)) (fun _ _ _ z=>by cases z) ⟨⟨y1,y2,y3⟩,⟨rfl,rfl⟩,y6⟩
 have n4:=Nx.put hg3 hc4 hX3.H hW4
 have nn:=((hn1'.trans hfr st1 st2 n2).trans hfr (st1.trans st2) st3 hn3').trans hfr ((st1.trans st2).trans st3) st4 n4
 exact ⟨_,_,hen,_,_,rfl,.lit _,nn.rel,nn.step,nn.H,nn.U,nn.fr⟩
theorem zau (hm:P.follows .mixedOrders = true) {X:z1v} (hX:XSound P X):∀ n,z2v P (ziu P X n)
 | 0=>fun f args h r h' e=>by simp [ziu] at e
 | n + 1=>fun f args h r h' e=>by
  have hC:=zau hm hX n
  have hDS:=zir hm hC n
  simp only [ziu] at e
  split at e
  ·rename_i hy
   have:=Nat.eq_of_beq_eq_true hy
   subst this
   exact rndX_sound hm hC e
  rename_i hy
  have hy:f ≠ yldId:=fun z=>by rw [z,Nat.beq_refl] at hy; cases hy
  suffices hh:HStep h h'∧∀ E w us,Rel E w->(∀ q ob,h.H.get q = some ob->E.H q = some ob)->(∀ q,E.U q->q < h.nx)->Vrs E w args us->Calls P f us.toArray w (Ret E w h r h') from
   ⟨hh.1,fun E w us a b c d=>by unfold z80; rw [if_neg hy]; exact hh.2 E w us a b c d⟩
  split at e
  ·rename_i q hq
   cases e
   exact hX _ _ _ _ _ hq
  split at e
  case h_2=>cases e
  rename_i fn s hb
  split at e
  case h_2=>cases e
  rename_i h2 hd
  split at e
  case h_2=>cases e
  rename_i vs hr
  cases e
  obtain ⟨hst,hf,h3,c,k,hbd,hk,hw⟩:=zax hm hC hb
  have hst2:=hst.trans (zcs hDS hd)
  refine ⟨⟨hst2.nx,hst2.dead,fun q hq e=>?_,fun q hq=>by simp [hq],hst2.top⟩,fun E w us hR hH hfr hus=>?_⟩
  ·simp only [List.mem_append,List.mem_filter,not_or,not_and] at e
   exact hst2.log q hq fun z=>e.1 z (Nat.ble_eq_true_of_le hq)
  ·refine callsIn_wide.1 (callsIn_of_wp_marks (n:=0) hf hbd trivial (wpIn_mono (hw E w us hR hH hfr hus) ?_))
   rintro x a' w' ⟨hs,E',hX',hn⟩
   have hn':Nx E w h E' w' s.h:=⟨hn.rel,hn.step,hn.H,hn.U,hn.fr⟩
   have hst':HStep ⟨h.H,h.nx,[]⟩ s.h:=hst
   have fin:LeavesInM Fence.wide 0 P fn a'.tmps (Ret E w h (tupX vs) ⟨h2.H,h2.nx,(h2.lg.filter fun q=>Nat.blt q h.nx) ++ h.lg⟩) a'.defers .returning w':=by
    refine z7n hDS (fun f args h h' e=>?_) hd hX'.sr.rel hX'.H hX'.fr hX'.sr.dfr fun E2 w2 hn2=>?_
    ·unfold zr3 at e
     split at e
     ·assumption
     ·cases e
    ·have hnn:=Nx.trans (h:=⟨h.H,h.nx,[]⟩) hfr hst (zcs hDS hd) hn hn2
     obtain ⟨us',g1,g2,g3⟩:=z5j hn2.rel (fun t=>(hX'.sr.tmp t).step hn2.step) hn2.H hr
     have hres:=z25 (P:=P) (w:=w2) rfl h3 g1 g3
     exact ⟨_,hres,_,E2,rfl,zbd g2,hnn.rel,hnn.step,hnn.H,hnn.U,hnn.fr⟩
   rcases hk with rfl | rfl <;> cases hs <;> exact fin
def E0:Mx:=⟨fun _=>(0,0),fun _=>False,fun _=>none⟩
def H0:Hx:=⟨.lf,0,[]⟩
def okX:Option (V × Hx)->Bool
 | some (.lit (.bool b),_)=>b
 | _=>false
theorem okX_some {r:Option (V × Hx)} (h:okX r = true):∃ h',r = some (.lit (.bool true),h'):=by
 unfold okX at h
 split at h
 ·rename_i b h'
  subst h
  exact ⟨h',rfl⟩
 ·cases h
theorem E0_rel (w:World):Rel E0 w:=⟨fun r ob h=>(by cases h),fun r r' ob ob' h=>(by cases h),fun r ob h=>(by cases h)⟩
theorem law_of (hm:P.follows .mixedOrders = true) {X:z1v} (hX:XSound P X) {n:Nat} {f:FuncId} (hy:f ≠ yldId) {args:List V} {us:List Value} (w:World) (hus:Vrs E0 w args us) (e:okX (ziu P X n f args H0) = true) :
  Calls P f us.toArray w fun en w'=>en = .returned (.bool true)∧Below w.heap.size w w':=by
 obtain ⟨h',e⟩:=okX_some e
 have:=(zau hm hX n _ _ _ _ _ e).2 E0 w us (E0_rel w) (fun q ob h=>by cases h) (fun q h=>h.elim) hus
 unfold z80 at this
 rw [if_neg hy] at this
 refine this.mono ?_
 rintro en w' ⟨u,E',rfl,hv,_,hS,_⟩
 rw [hv.lit_inv]
 exact ⟨rfl,hS.below fun g _ r ob h=>by cases h⟩
end
end Hm
end Go.Proofs.YtlhblpbfhfhlpaaGreatDoor
end
section
namespace Go.Proofs.YtlhblpbfhfhlpaaGreatDoor
open Go.RowKit
def zaz (w:World):Prop:=Lib.TabIs Tryz.prog w "internal/strconv.uint64pow10" .u64 Lib.pow10Tab
def Glob (w:World):Prop:=((∃ m,w.cell? ⟨0,0,none⟩ = some (.int .i64 m))∧0 < w.heap.size)∧zaz w
theorem zaz.below {w w':World} (h:zaz w) (hb:Below w.heap.size w w'):zaz w':=by
 unfold zaz Lib.TabIs World.var? at *
 cases hg:(Program.globalNamed Tryz.prog "internal/strconv.uint64pow10") with
 | none=>rw [hg] at h; cases h
 | some g =>
  rw [hg] at h
  simp only [Option.bind_some] at h ⊢
  have hlt:g < w.heap.size:=by
   rcases Nat.lt_or_ge g w.heap.size with h' | h'
   ·exact h'
   ·rw [Array.getElem?_eq_none h'] at h; cases h
  rw [hb.block g hlt]
  exact h
theorem Glob.below {w w':World} (h:Glob w) (hb:Below w.heap.size w w'):Glob w':=by
 obtain ⟨⟨⟨m,hm⟩,h0⟩,ht⟩:=h
 exact ⟨⟨⟨m,by rw [hb.cell (p:=⟨0,0,none⟩) h0]; exact hm⟩,Nat.lt_of_lt_of_le h0 hb.size⟩,ht.below hb⟩
theorem Glob.start {w:World} (h:w.ShapedOpen Tryz.prog) (ht:zaz w):Glob w:=by
 have h1:∃ m,w.cell? ⟨0,0,none⟩ = some (.int .i64 m):=cell_of_shapedOpen_int (P:=Tryz.prog) (g:=0) (t:=3) (zero:=#[.int .i64 0]) h (of_decide_eq_true (by kernel_rfl)) (by kernel_rfl) rfl (by kernel_rfl) (by kernel_rfl) Tryz.underlying3
 obtain ⟨m,hm⟩:=h1
 refine ⟨⟨⟨m,hm⟩,?_⟩,ht⟩
 rcases Nat.eq_zero_or_pos w.heap.size with e | e
 ·have:w.heap[0]? = none:=Array.getElem?_eq_none (by omega)
  simp [World.cell?,this] at hm
 ·exact e
end Go.Proofs.YtlhblpbfhfhlpaaGreatDoor
end
