/-
  Part 7 of a proof: AmL, AmM, AmW, AmX.
-/
import Derived.Orders
import Derived.MapKept
import Derived.Test.YtlhblpbfhfhlpaaGreatDoorSB6
set_option linter.unusedVariables false
set_option linter.unusedSimpArgs false
section
namespace Go.Proofs.YtlhblpbfhfhlpaaGreatDoor
open Go.RowKit
def z0b (o:Oper):List Nat:=o.after.toList.filterMap fun e=>if Region.binds .any e then some e.on else none
section
variable {P:Program} {ops:Array Oper} {Q:Exit->Act->World->Prop}
def z1a (n:Nat) (S:Nat->Bool):Nat:=(List.range n).countP fun i=>!S i
theorem z40 {n:Nat} {S:Nat->Bool} (h:z1a n S = 0):∀ i,i < n->S i = true:=by
 intro i hi
 unfold z1a at h
 rw [List.countP_eq_zero] at h
 have:=h i (by simpa using hi)
 simpa using this
theorem z41 {n:Nat} {S:Nat->Bool} {i:Nat} (hi:i < n) (hS:S i = false):z1a n (fun j=>decide (j = i) || S j) + 1 = z1a n S:=by
 unfold z1a
 induction n with
 | zero=>omega
 | succ n ih =>
  rw [List.range_succ,List.countP_append,List.countP_append,List.countP_singleton,List.countP_singleton]
  by_cases e:i = n
  ·subst e
   have:(List.range i).countP (fun j=>!(decide (j = i) || S j)) = (List.range i).countP (fun j=>!S j):=by
    apply List.countP_congr
    intro j hj
    have:j ≠ i:=by have:=List.mem_range.1 hj; omega
    simp [this]
   rw [this]
   simp [hS]
  ·have:=ih (by omega)
   have h2:(decide (n = i) || S n) = S n:=by simp [show n ≠ i from fun q=>e q.symm]
   simp only [h2]
   simp only at this
   omega
theorem z3v {o:Oper} {j:Nat}:j ∈ z0b o ↔ ∃ e ∈ o.after,Region.binds .any e = true∧e.on = j:=by
 unfold z0b
 rw [List.mem_filterMap]
 constructor
 ·rintro ⟨e,he,h⟩
  split at h
  ·rename_i hb; cases h; exact ⟨e,Array.mem_toList_iff.1 he,hb,rfl⟩
  ·cases h
 ·rintro ⟨e,he,hb,rfl⟩
  exact ⟨e,Array.mem_toList_iff.2 he,by rw [if_pos hb]⟩
theorem z2h {listed:Array Bool} {i:Nat}:i ∈ Region.ready .any ops listed ↔ i < ops.size∧listed.getD i true = false∧∀ o,ops[i]? = some o->∀ j,j ∈ z0b o->listed.getD j false = true:=by
 unfold Region.ready
 rw [List.mem_filter]
 simp only [List.mem_range,Bool.and_eq_true,Bool.not_eq_true']
 constructor
 ·rintro ⟨h1,h2,h3⟩
  refine ⟨h1,h2,fun o ho j hj=>?_⟩
  rw [ho] at h3
  simp only [Option.map_some,Option.getD_some,Array.all_eq_true_iff_forall_mem] at h3
  obtain ⟨e,he,hb,rfl⟩:=z3v.1 hj
  have:=h3 e he
  simpa [hb] using this
 ·rintro ⟨h1,h2,h3⟩
  refine ⟨h1,h2,?_⟩
  obtain ⟨o,ho⟩:∃ o,ops[i]? = some o:=⟨_,Array.getElem?_eq_getElem h1⟩
  rw [ho]
  simp only [Option.map_some,Option.getD_some,Array.all_eq_true_iff_forall_mem]
  intro e he
  by_cases hb:Region.binds .any e = true
  ·have:=h3 o ho e.on (z3v.2 ⟨e,he,hb,rfl⟩)
   simp [this]
  ·simp [hb]
theorem z8k (hedge:∀ i o,ops[i]? = some o->∀ j,j ∈ z0b o->j < i) (I:(Nat->Bool)->Act->World->Prop)
  (hstep:∀ S a w i o,I S a w->ops[i]? = some o->S i = false->(∀ j,j ∈ z0b o->S j = true)->wpOp P ops Q i (I fun j=>decide (j = i) || S j) a w)
  (hend:∀ S a w,I S a w->(∀ i,i < ops.size->S i = true)->Q .normal a w) :
  ∀ (fuel:Nat) (listed:Array Bool) (a:Act) (w:World),listed.size = ops.size->z1a ops.size (fun i=>listed.getD i false) = fuel->I (fun i=>listed.getD i false) a w->wpAny P .any ops Q fuel listed a w:=by
 have hready:∀ (listed:Array Bool),listed.size = ops.size->Region.ready .any ops listed = []->∀ i,i < ops.size->listed.getD i false = true:=by
  intro listed hs hr i
  induction i using Nat.strongRecOn with
  | ind i ih =>
   intro hi
   cases hl:listed.getD i false with
   | true=>rfl
   | false =>
    have hm:i ∈ Region.ready .any ops listed:=by
     rw [z2h]
     refine ⟨hi,?_,fun o ho j hj=>ih j (hedge i o ho j hj) (by have:=hedge i o ho j hj; omega)⟩
     rw [Array.getD_eq_getD_getElem?,Array.getElem?_eq_getElem (by omega)] at hl ⊢
     exact hl
    rw [hr] at hm; cases hm
 intro fuel
 induction fuel with
 | zero =>
  intro listed a w hs hu hI
  have hall:=z40 hu
  refine ⟨?_,hend _ a w hI hall⟩
  cases hr:Region.ready .any ops listed with
  | nil=>rfl
  | cons x xs =>
   have:x ∈ Region.ready .any ops listed:=by rw [hr]; simp
   obtain ⟨h1,h2,_⟩:=z2h.1 this
   have h3:=hall x h1
   rw [Array.getD_eq_getD_getElem?,Array.getElem?_eq_getElem (by omega)] at h2 h3
   simp at h2 h3
   rw [h2] at h3; cases h3
 | succ fuel ih =>
  intro listed a w hs hu hI
  refine ⟨fun hr=>hend _ a w hI (hready listed hs hr),fun i hi=>?_⟩
  obtain ⟨h1,h2,h3⟩:=z2h.1 hi
  obtain ⟨o,ho⟩:∃ o,ops[i]? = some o:=⟨_,Array.getElem?_eq_getElem h1⟩
  have hSi:listed.getD i false = false:=by
   rw [Array.getD_eq_getD_getElem?,Array.getElem?_eq_getElem (by omega)] at h2 ⊢
   exact h2
  refine wpOp_mono ?_ (hstep _ a w i o hI ho hSi (fun j hj=>h3 o ho j hj))
  intro a' w' hI'
  have e:(fun j=>(listed.setIfInBounds i true).getD j false) = fun j=>decide (j = i) || listed.getD j false:=by
   funext j
   rw [Array.getD_eq_getD_getElem?,Array.getElem?_setIfInBounds]
   by_cases e:i = j
   ·subst e; simp [hs,h1]
   ·rw [if_neg e]
    simp [show ¬ j = i from fun q=>e q.symm]
  refine ih _ a' w' (by simpa using hs) ?_ (by rw [e]; exact hI')
  rw [e]
  have:=z41 (S:=fun j=>listed.getD j false) h1 hSi
  omega
theorem z35 {id:Nat} {a:Act} {w:World} (hm:P.follows .mixedOrders = true) (hedge:∀ i o,ops[i]? = some o->∀ j,j ∈ z0b o->j < i) (I:(Nat->Bool)->Act->World->Prop)
  (hstep:∀ S a w i o,I S a w->ops[i]? = some o->S i = false->(∀ j,j ∈ z0b o->S j = true)->wpOp P ops Q i (I fun j=>decide (j = i) || S j) a w)
  (hend:∀ S a w,I S a w->(∀ i,i < ops.size->S i = true)->Q .normal a w) (h0:I (fun _=>false) a { w with drawn:=w.drawn + 1 }):(Code.region id ops true).wp P Q a w:=by
 refine wp_region_any hm ?_
 have e:(fun j=>(Array.replicate ops.size false).getD j false) = fun _=>false:=by
  funext j
  rw [Array.getD_eq_getD_getElem?,Array.getElem?_replicate]
  split <;> rfl
 refine z8k hedge I hstep hend ops.size _ a _ (by simp) ?_ (by rw [e]; exact h0)
 rw [e]
 unfold z1a
 rw [show (List.range ops.size).countP (fun i=>!false) = (List.range ops.size).length from List.countP_eq_length.2 (fun _ _=>rfl),List.length_range]
def z0p (l:List Oper):List (List Nat) :=
 l.foldl (fun t o=>t ++ [(z0b o ++ (z0b o).flatMap fun j=>t.getD j []).eraseDups]) []
theorem zan (l:List Oper) (o:Oper):z0p (l ++ [o]) = z0p l ++ [(z0b o ++ (z0b o).flatMap fun j=>(z0p l).getD j []).eraseDups]:=by
 simp [z0p,List.foldl_append]
theorem zms {α:Type} {p:List α->Prop} (h0:p []) (h1:∀ l a,p l->p (l ++ [a])) (l:List α):p l:=by
 have:∀ l:List α,p l.reverse:=by
  intro l
  induction l with
  | nil=>exact h0
  | cons a l ih=>rw [List.reverse_cons]; exact h1 _ _ ih
 have h:=this l.reverse
 rwa [List.reverse_reverse] at h
theorem z2y (l:List Oper):(z0p l).length = l.length:=by
 refine zms (p:=fun l=>(z0p l).length = l.length) rfl (fun l o ih=>?_) l
 rw [zan]; simp [ih]
theorem z0r {S:Nat->Bool}:∀ (l:List Oper),(∀ i o,l[i]? = some o->S i = true->∀ j,j ∈ z0b o->S j = true) ->
  ∀ i o,l[i]? = some o->(∀ j,j ∈ z0b o->S j = true)->∀ j,j ∈ (z0p l).getD i []->S j = true:=by
 intro l
 refine zms (p:=fun l=>(∀ i o,l[i]? = some o->S i = true->∀ j,j ∈ z0b o->S j = true) ->
  ∀ i o,l[i]? = some o->(∀ j,j ∈ z0b o->S j = true)->∀ j,j ∈ (z0p l).getD i []->S j = true) ?_ ?_ l
 ·intro _ i o h; simp at h
 ·intro l o' ih hc i o hi hd j hj
  have hcl:∀ i o,l[i]? = some o->S i = true->∀ j,j ∈ z0b o->S j = true:=fun i o h=>hc i o (by rw [List.getElem?_append_left (List.getElem?_eq_some_iff.1 h).1]; exact h)
  rw [zan] at hj
  rcases Nat.lt_or_ge i l.length with h1 | h1
  ·rw [List.getElem?_append_left h1] at hi
   rw [List.getD_eq_getElem?_getD,List.getElem?_append_left (by rw [z2y]; exact h1),← List.getD_eq_getElem?_getD] at hj
   exact ih hcl i o hi hd j hj
  ·have hil:=(List.getElem?_eq_some_iff.1 hi).1
   have e:i = l.length:=by simp at hil; omega
   subst e
   rw [List.getElem?_append_right (Nat.le_refl _)] at hi
   simp at hi; subst hi
   rw [List.getD_eq_getElem?_getD,List.getElem?_append_right (by rw [z2y]; exact Nat.le_refl _),z2y] at hj
   simp only [Nat.sub_self,List.getElem?_cons_zero,Option.getD_some,List.mem_eraseDups,List.mem_append,List.mem_flatMap] at hj
   rcases hj with hj | ⟨k,hk,hj⟩
   ·exact hd j hj
   ·cases hok:l[k]? with
    | none =>
     rw [List.getD_eq_getElem?_getD,List.getElem?_eq_none (by rw [z2y]; have:=List.getElem?_eq_none_iff.1 hok; omega)] at hj
     simp at hj
    | some ok=>exact ih hcl k ok hok (hcl k ok hok (hd k hk)) j hj
end
end Go.Proofs.YtlhblpbfhfhlpaaGreatDoor
end
section
namespace Go.Proofs.YtlhblpbfhfhlpaaGreatDoor
open Go.RowKit
def zim (F0 hid wr:List Nat) (σ:St) (K:Nat->Arr->Prop):IOp->Prop
 | .store z p x=>match σ.get p with
  | .ptr r i f=>wr.contains r = true∧hid.contains r = false∧F0.contains r = false∧match σ.byval hid (σ.get x) with
   | some (d,fz)=>fz.all F0.contains = true∧match σ.H r with
    | some arr=>match arr.cells[i]? with
     | some old=>d.cells.length = z∧f + z≤old.cells.length∧arr.prot≤i∧d.cells.all AV.one = true ∧
      K r { arr with cells:=arr.cells.set i (old.patch f z d) }
     | none=>False
    | none=>False
   | none=>False
  | _=>False
 | _=>False
def z0m (C:FuncId->List AV->AV->Prop) (F0:List Nat):List ROp->St->(St->Prop)->Prop
 | [],σ,K=>K σ
 | o :: l,σ,K=>z1g σ o.guard (fun σ=>match o.dst with
   | some dst=>z0x C dst o.hid σ (fun v s fz=>fz.all F0.contains = true∧z12 o.hid v = true∧z0m C F0 l (σ.made dst v s) K) o.io
   | none=>zim F0 o.hid o.wr σ (fun r arr=>z0m C F0 l ⟨σ.T,upd σ.H r (some arr)⟩ K) o.io)
  (fun σ=>match o.dst with
   | some dst=>z0m C F0 l (σ.made dst (.tup []) none) K
   | none=>z0m C F0 l σ K)
structure HEff where
 v:AV
 s:Option (Nat × Arr)
 w:Bool
def St.eff (σ:St) (dst:Option Nat) (v:AV) (s:Option (Nat × Arr)):St :=
 ⟨match dst with
  | some d=>upd σ.T d v
  | none=>σ.T,match s with
  | some q=>upd σ.H q.1 (some q.2)
  | none=>σ.H⟩
theorem zem (σ:St) (d:Nat) (v:AV) (s:Option Arr):σ.eff (some d) v (s.map fun a=>(d,a)) = σ.made d v s:=by
 unfold St.eff St.made
 cases s <;> rfl
def ROp.wrs (r:ROp):List Nat:=match r.dst with
 | some d=>if r.io.pure then [] else [d]
 | none=>r.wr
theorem ROp.wrs_maker {r:ROp} {d:Nat} (hp:r.io.pure = false) (hd:r.dst = some d):r.wrs = [d]:=by
 unfold ROp.wrs; rw [hd]; simp [hp]
def zlr (σ:St) (g:Option (Nat × Bool)):Bool->Prop
 | true=>∀ t want,g = some (t,want)->σ.T t = .bool want
 | false=>∃ t want,g = some (t,want)∧(σ.T t = .bool (!want)∨σ.T t = .tup [])
structure OpAt (C:FuncId->List AV->AV->Prop) (F0:List Nat) (r:ROp) (σ:St) (e:HEff):Prop where
 guard:zlr σ r.guard e.w
 made:∀ x arr,e.s = some (x,arr)->x ∈ r.wrs∧(r.dst = none->F0.contains x = false)
 name:r.dst.isSome->z12 r.hid e.v = true
 run:e.w = true->(∀ dst,r.dst = some dst->∃ fz s,e.s = s.map (fun a=>(dst,a))∧fz.all F0.contains = true∧∀ (σ':St) (K':AV->Option Arr->List Nat->Prop),Alike r.io r.hid σ σ'->K' e.v s fz->z0x C dst r.hid σ' K' r.io) ∧
  (r.dst = none->∀ (σ':St) (K':St->Prop),Alike r.io r.hid σ σ'->(∀ l:List Nat,l.all F0.contains = true->σ'.fzs l = σ')->K' (σ'.eff none e.v e.s)->z14 σ' none K' r.io)
 skip:e.w = false->e.v = .tup []∧e.s = none
 zst:r.dst = none->∀ x arr,e.s = some (x,arr)->∃ arr0,σ.H x = some arr0∧arr.z = arr0.z
def zmk (C:FuncId->List AV->AV->Prop) (F0:List Nat):List ROp->St->List HEff->St->Prop
 | [],σ,[],σ'=>σ' = σ
 | r :: l,σ,e :: es,σ'=>OpAt C F0 r σ e∧zmk C F0 l (σ.eff r.dst e.v e.s) es σ'
 | _,_,_,_=>False
theorem zmt {σ:St} {t:Nat} {v:AV} (h:σ.T t = v):σ.set t v = σ:=by
 show (⟨upd σ.T t v,σ.H⟩:St) = σ
 rw [z3l _ _ _ h]
theorem guardV_is {σ:St} {g:Option (Nat × Bool)} {yes no:St->Prop} (h:z1g σ g yes no):(zlr σ g true∧yes σ)∨(zlr σ g false∧no σ):=by
 unfold z1g at h
 cases g with
 | none=>exact .inl ⟨(fun t want e=>by cases e),h⟩
 | some g =>
  obtain ⟨t,want⟩:=g
  simp only at h
  split at h
  ·rename_i b e
   by_cases hb:b = want
   ·subst hb
    have:=h.1 rfl
    rw [zmt e] at this
    exact .inl ⟨fun t' w' q=>by cases q; exact e,this⟩
   ·have hb':b = (!want):=by cases b <;> cases want <;> simp_all
    have:=h.2 hb'
    rw [zmt (by rw [e,hb'])] at this
    exact .inr ⟨⟨t,want,rfl,.inl (by rw [e,hb'])⟩,this⟩
  ·rename_i e
   exact .inr ⟨⟨t,want,rfl,.inr e⟩,h⟩
  ·exact h.elim
theorem byval_all {hid:List Nat} {σ:St} {v:AV} {q:AV × List Nat} (h:σ.byval hid v = some q):σ.byval [] v = some q:=by
 unfold St.byval at h ⊢
 cases v with
 | rs r off len =>
  simp only at h ⊢
  split at h
  ·cases h
  ·simpa using h
 | ptr r i f =>
  simp only at h ⊢
  split at h
  ·cases h
  ·simpa using h
 | _=>exact h
theorem evalS_det {F0 hid wr:List Nat} {σ:St} {K:Nat->Arr->Prop} {io:IOp} (h:zim F0 hid wr σ K io):∃ r arr,K r arr∧wr.contains r = true∧F0.contains r = false∧(∃ arr0,σ.H r = some arr0∧arr.z = arr0.z)∧∀ (v:AV) (σ':St) (K':St->Prop),Alike io hid σ σ'->(∀ l:List Nat,l.all F0.contains = true->σ'.fzs l = σ') ->
  K' (σ'.eff none v (some (r,arr)))->z14 σ' none K' io:=by
 cases io with
 | store z p x =>
  simp only [zim] at h
  split at h
  ·rename_i r i f e1
   obtain ⟨a1,a2,a3,h⟩:=h
   split at h
   ·rename_i d fz e2
    obtain ⟨a4,h⟩:=h
    split at h
    ·rename_i arr e3
     split at h
     ·rename_i old e4
      obtain ⟨b1,b2,b3,b4,hK⟩:=h
      refine ⟨r,_,hK,a1,a3,⟨arr,e3,rfl⟩,fun v σ' K' hA hfz hk=>?_⟩
      simp only [z14]
      rw [hA.get p (by simp [IOp.opds]),e1,hA.get x (by simp [IOp.opds]),byval_all (zav (hA.obj rfl) e2)]
      simp only [hfz fz a4,hA.obj rfl r arr a2 e3,e4]
      exact ⟨b1,b2,b3,b4,hk⟩
     ·exact h.elim
    ·exact h.elim
   ·exact h.elim
  ·exact h.elim
 | _=>exact h.elim
theorem z3n {C:FuncId->List AV->AV->Prop} {F0:List Nat}:∀ {rs:List ROp} {σ:St} {K:St->Prop},z0m C F0 rs σ K->∃ es σ',zmk C F0 rs σ es σ'∧es.length = rs.length∧K σ'
 | [],σ,K,h=>⟨[],σ,rfl,rfl,h⟩
 | r :: rs,σ,K,h=>by
  simp only [z0m] at h
  rcases guardV_is h with ⟨hg,h⟩ | ⟨hg,h⟩
  ·cases hd:r.dst with
   | none =>
    rw [hd] at h
    simp only at h
    obtain ⟨x,arr,h1,h2,h3,hz,h4⟩:=evalS_det h
    obtain ⟨es,σ',k1,k2,k3⟩:=z3n h1
    refine ⟨⟨.und,some (x,arr),true⟩ :: es,σ',⟨⟨hg,fun y ar e=>?_,(fun e=>by rw [hd] at e; cases e),fun _=>⟨(fun dst e=>by rw [hd] at e; cases e),fun _ σ2 K2 hA hf hk=>h4 _ σ2 K2 hA hf hk⟩,(fun e=>by cases e),fun _ y ar e=>by cases e; exact hz⟩,by rw [hd]; exact k1⟩,by simp [k2],k3⟩
    cases e
    unfold ROp.wrs
    rw [hd]
    exact ⟨by simpa using h2,fun _=>h3⟩
   | some dst =>
    rw [hd] at h
    obtain ⟨v,s,fz,⟨h1,h2,h3⟩,h4,h5⟩:=zam h
    obtain ⟨es,σ',k1,k2,k3⟩:=z3n h3
    refine ⟨⟨v,s.map (fun a=>(dst,a)),true⟩ :: es,σ',⟨⟨hg,fun x arr e=>?_,fun _=>h2,fun _=>⟨fun d e=>?_,fun e=>by rw [hd] at e; cases e⟩,(fun e=>by cases e),fun e=>by rw [hd] at e; cases e⟩,by rw [hd]; rw [zem]; exact k1⟩,by simp [k2],k3⟩
    ·cases s with
     | none=>cases e
     | some a =>
      cases e
      have hp:r.io.pure = false:=by
       cases hp:r.io.pure with
       | false=>rfl
       | true=>have:=h4 hp; cases this
      rw [ROp.wrs_maker hp hd]
      exact ⟨by simp,fun e=>by rw [hd] at e; cases e⟩
    ·rw [hd] at e; cases e
     exact ⟨fz,s,rfl,h1,h5⟩
  ·cases hd:r.dst with
   | none =>
    rw [hd] at h
    simp only at h
    obtain ⟨es,σ',k1,k2,k3⟩:=z3n h
    exact ⟨⟨.tup [],none,false⟩ :: es,σ',⟨⟨hg,(fun _ _ e=>by cases e),(fun e=>by rw [hd] at e; cases e),(fun e=>by cases e),(fun _=>⟨rfl,rfl⟩),(fun _ _ _ e=>by cases e)⟩,by rw [hd]; exact k1⟩,by simp [k2],k3⟩
   | some dst =>
    rw [hd] at h
    obtain ⟨es,σ',k1,k2,k3⟩:=z3n h
    exact ⟨⟨.tup [],none,false⟩ :: es,σ',⟨⟨hg,(fun _ _ e=>by cases e),(fun _=>rfl),(fun e=>by cases e),(fun _=>⟨rfl,rfl⟩),(fun _ _ _ e=>by cases e)⟩,by rw [hd]; exact k1⟩,by simp [k2],k3⟩
structure HInv (rs:List ROp) (es:List HEff) (σ0:St) (S:Nat->Bool) (σ:St):Prop where
 dst:∀ (i:Nat) (r:ROp) (e:HEff) (d:Nat),rs[i]? = some r->es[i]? = some e->S i = true->r.dst = some d->σ.T d = e.v
 obj:∀ (i:Nat) (e:HEff) (x:Nat) (arr:Arr),es[i]? = some e->S i = true->e.s = some (x,arr)->(∀ (j:Nat) (e':HEff) (arr':Arr),es[j]? = some e'->S j = true->e'.s = some (x,arr')->j≤i)->σ.H x = some arr
 T:∀ t,(∀ (i:Nat) (r:ROp),rs[i]? = some r->S i = true->r.dst ≠ some t)->σ.T t = σ0.T t
 H:∀ x,(∀ (i:Nat) (e:HEff) (arr:Arr),es[i]? = some e->S i = true->e.s ≠ some (x,arr))->σ.H x = σ0.H x
def zfv (rs:List ROp):Prop:=∀ (i j:Nat) (r r':ROp) (d:Nat),rs[i]? = some r->rs[j]? = some r'->r.dst = some d->r'.dst = some d->i = j
theorem HInv.start (rs:List ROp) (es:List HEff) (σ0:St):HInv rs es σ0 (fun _=>false) σ0:=⟨(fun _ _ _ _ _ _ h=>by cases h),(fun _ _ _ _ _ h=>by cases h),fun _ _=>rfl,fun _ _=>rfl⟩
theorem HInv.step {rs:List ROp} {es:List HEff} {σ0:St} {S:Nat->Bool} {σ:St} (h:HInv rs es σ0 S σ) (hD:zfv rs) {i:Nat} {r:ROp} {e:HEff} (hr:rs[i]? = some r) (he:es[i]? = some e)
  (hord:∀ (j:Nat) (e':HEff) (x:Nat) (arr arr':Arr),es[j]? = some e'->S j = true->e.s = some (x,arr)->e'.s = some (x,arr')->j < i) :
  HInv rs es σ0 (fun j=>decide (j = i) || S j) (σ.eff r.dst e.v e.s):=by
 refine ⟨fun j r' e' d' hj hej hs hd'=>?_,fun j e' x arr hej hs hx hlast=>?_,fun t ht=>?_,fun x hx=>?_⟩
 ·by_cases q:j = i
  ·subst q
   rw [hr] at hj; cases hj
   rw [he] at hej; cases hej
   unfold St.eff
   rw [hd']
   exact z03 _ _ _
  ·have hs':S j = true:=by simpa [q] using hs
   have h1:=h.dst j r' e' d' hj hej hs' hd'
   unfold St.eff
   cases hd:r.dst with
   | none=>exact h1
   | some d =>
    have hne:d' ≠ d:=fun e=>q (hD j i r' r d' hj hr hd' (by rw [hd,e]))
    show upd σ.T d e.v d' = _
    rw [z04 _ _ hne]; exact h1
 ·by_cases q:j = i
  ·subst q
   rw [he] at hej; cases hej
   unfold St.eff
   rw [hx]
   exact z03 _ _ _
  ·have hs':S j = true:=by simpa [q] using hs
   have h1:=h.obj j e' x arr hej hs' hx (fun k e2 arr2 hk hsk hk2=>hlast k e2 arr2 hk (by simp [hsk]) hk2)
   unfold St.eff
   cases hes:e.s with
   | none=>exact h1
   | some q2 =>
    obtain ⟨y,arr2⟩:=q2
    by_cases hxy:x = y
    ·subst hxy
     have a1:=hord j e' x arr2 arr hej hs' hes hx
     have a2:=hlast i e arr2 he (by simp) hes
     omega
    ·show upd σ.H y _ x = _
     rw [z04 _ _ hxy]; exact h1
 ·have h1:=h.T t (fun j r' hj hs=>ht j r' hj (by simp [hs]))
  unfold St.eff
  cases hd:r.dst with
  | none=>exact h1
  | some d =>
   have hne:t ≠ d:=fun q=>ht i r hr (by simp) (by rw [hd,q])
   show upd σ.T d e.v t = _
   rw [z04 _ _ hne]; exact h1
 ·have hold:=h.H x (fun j e' arr hej hs=>hx j e' arr hej (by simp [hs]))
  unfold St.eff
  cases hes:e.s with
  | none=>exact hold
  | some q2 =>
   obtain ⟨y,arr2⟩:=q2
   have hne:x ≠ y:=fun q=>by subst q; exact hx i e arr2 he (by simp) hes
   show upd σ.H y _ x = _
   rw [z04 _ _ hne]; exact hold
theorem z47 {p:Nat->Prop}:∀ (n:Nat),(∃ i,i < n∧p i)->∃ i,i < n∧p i∧∀ j,j < n->p j->j≤i
 | 0,h=>by obtain ⟨i,hi,_⟩:=h; omega
 | n + 1,h=>by
  by_cases hn:p n
  ·exact ⟨n,by omega,hn,fun j hj _=>by omega⟩
  ·obtain ⟨i,hi,hp⟩:=h
   have hin:i ≠ n:=fun e=>by subst e; exact hn hp
   obtain ⟨k,k1,k2,k3⟩:=z47 n ⟨i,by omega,hp⟩
   refine ⟨k,by omega,k2,fun j hj hpj=>k3 j ?_ hpj⟩
   have:j ≠ n:=fun e=>by subst e; exact hn hpj
   omega
theorem HInv.H_eq {rs:List ROp} {es:List HEff} {σ0 σ σ':St} {S S':Nat->Bool} (h:HInv rs es σ0 S σ) (h':HInv rs es σ0 S' σ') {x:Nat} (hx:∀ (i:Nat) (e:HEff) (arr:Arr),es[i]? = some e->e.s = some (x,arr)->S i = S' i):σ.H x = σ'.H x:=by
 by_cases q:∃ i,i < es.length∧∃ e arr,es[i]? = some e∧S i = true∧e.s = some (x,arr)
 ·obtain ⟨i,hi,⟨e,arr,h1,h2,h3⟩,hlast⟩:=z47 es.length q
  rw [h.obj i e x arr h1 h2 h3 (fun j e' arr' g1 g2 g3=>hlast j (List.getElem?_eq_some_iff.1 g1).1 ⟨e',arr',g1,g2,g3⟩),
   h'.obj i e x arr h1 (by rw [← hx i e arr h1 h3]; exact h2) h3 (fun j e' arr' g1 g2 g3=>hlast j (List.getElem?_eq_some_iff.1 g1).1 ⟨e',arr',g1,by rw [hx j e' arr' g1 g3]; exact g2,g3⟩)]
 ·have:∀ i e arr,es[i]? = some e->S i = true->e.s ≠ some (x,arr):=fun i e arr h1 h2 h3=>q ⟨i,(List.getElem?_eq_some_iff.1 h1).1,e,arr,h1,h2,h3⟩
  rw [h.H x this,h'.H x (fun i e arr h1 h2 h3=>this i e arr h1 (by rw [hx i e arr h1 h3]; exact h2) h3)]
theorem HInv.T_eq {rs:List ROp} {es:List HEff} {σ0 σ σ':St} {S S':Nat->Bool} (hl:es.length = rs.length) (h:HInv rs es σ0 S σ) (h':HInv rs es σ0 S' σ') {t:Nat} (ht:∀ (i:Nat) (r:ROp),rs[i]? = some r->r.dst = some t->S i = S' i):σ.T t = σ'.T t:=by
 by_cases q:∃ i r,rs[i]? = some r∧S i = true∧r.dst = some t
 ·obtain ⟨i,r,h1,h2,h3⟩:=q
  have hi:=(List.getElem?_eq_some_iff.1 h1).1
  have he:es[i]? = some (es[i]'(by omega)):=List.getElem?_eq_getElem _
  rw [h.dst i r _ t h1 he h2 h3,h'.dst i r _ t h1 he (by rw [← ht i r h1 h3]; exact h2) h3]
 ·have:∀ i r,rs[i]? = some r->S i = true->r.dst ≠ some t:=fun i r h1 h2 h3=>q ⟨i,r,h1,h2,h3⟩
  rw [h.T t this,h'.T t (fun i r h1 h2 h3=>this i r h1 (by rw [ht i r h1 h3]; exact h2) h3)]
theorem zb8 (k:Nat):(fun j=>decide (j = k) || decide (j < k)) = fun j=>decide (j < k + 1):=by
 funext j
 rw [Bool.eq_iff_iff]
 simp
 omega
theorem zab {C:FuncId->List AV->AV->Prop} {F0:List Nat} {σ0:St}:∀ (l:List ROp) (es':List HEff) (pre:List ROp) (epre:List HEff) {σ σ':St},pre.length = epre.length->zfv (pre ++ l) ->
  HInv (pre ++ l) (epre ++ es') σ0 (fun j=>decide (j < pre.length)) σ->zmk C F0 l σ es' σ' ->
  HInv (pre ++ l) (epre ++ es') σ0 (fun j=>decide (j < pre.length + l.length)) σ' ∧
  ∀ (i:Nat) (r:ROp) (e:HEff),l[i]? = some r->es'[i]? = some e->∃ σi,HInv (pre ++ l) (epre ++ es') σ0 (fun j=>decide (j < pre.length + i)) σi∧OpAt C F0 r σi e
 | [],[],pre,epre,σ,σ',hl,hD,hI,hs=>by
  have:σ' = σ:=hs
  subst this
  exact ⟨by simpa using hI,fun i r e h=>by simp at h⟩
 | r :: l,e :: es',pre,epre,σ,σ',hl,hD,hI,hs=>by
  obtain ⟨hat,hs⟩:=hs
  have hr:(pre ++ r :: l)[pre.length]? = some r:=by rw [List.getElem?_append_right (Nat.le_refl _)]; simp
  have he:(epre ++ e :: es')[pre.length]? = some e:=by rw [hl,List.getElem?_append_right (Nat.le_refl _)]; simp
  have hI2:=hI.step hD hr he (fun j e' x arr arr' _ hs _ _=>by simpa using hs)
  rw [zb8] at hI2
  have ih:=zab l es' (pre ++ [r]) (epre ++ [e]) (σ:=σ.eff r.dst e.v e.s) (σ':=σ') (by simp [hl]) (by simpa using hD) (by simpa using hI2) hs
  obtain ⟨k1,k2⟩:=ih
  refine ⟨by simpa [Nat.add_assoc,Nat.add_comm 1] using k1,fun i r' e' hi hei=>?_⟩
  cases i with
  | zero =>
   simp at hi hei
   subst hi; subst hei
   exact ⟨σ,by simpa using hI,hat⟩
  | succ i =>
   obtain ⟨σi,h2,h3⟩:=k2 i r' e' (by simpa using hi) (by simpa using hei)
   exact ⟨σi,by simpa [Nat.add_assoc,Nat.add_comm 1] using h2,h3⟩
 | [],e :: es',pre,epre,σ,σ',_,_,_,hs=>hs.elim
 | r :: l,[],pre,epre,σ,σ',_,_,_,hs=>hs.elim
def Ord (tab:List (List Nat)) (k i:Nat):Prop:=(k ∈ tab.getD i []∧k < i)∨(i ∈ tab.getD k []∧i < k)
def NoMk (rs:List ROp):Prop:=∀ r,r ∈ rs->r.dst.isSome = true->r.io.pure = true
structure DrawOk (ops:Array Oper) (rs:List ROp) (m tl:Nat):Prop where
 len:rs.length = ops.size
 mlt:m≤rs.length
 edge:∀ i o,ops[i]? = some o->∀ j,j ∈ z0b o->j < i
 dsts:zfv (rs.take m)
 opds:∀ (i:Nat) (r:ROp) (t k:Nat) (r':ROp),i < m->rs[i]? = some r->.t t ∈ r.io.opds->k < m->rs[k]? = some r'->r'.dst = some t->k ≠ i->Ord (z0p ops.toList) k i
 guards:∀ (i:Nat) (r:ROp) (t:Nat) (b:Bool) (k:Nat) (r':ROp),i < m->rs[i]? = some r->r.guard = some (t,b)->k < m->rs[k]? = some r'->r'.dst = some t->k ≠ i->Ord (z0p ops.toList) k i
 hids:∀ (i:Nat) (r:ROp) (k:Nat) (r':ROp) (x:Nat),i < m->rs[i]? = some r->rs[k]? = some r'->k ≠ i->x ∈ r'.wrs->r.hid.contains x = true∨(k ∈ (z0p ops.toList).getD i []∧k < i)∨(r'.dst = none∧i ∈ (z0p ops.toList).getD k []∧i < k)∨(r'.dst = none∧r.io.free = true∧NoMk rs)
 ww:∀ (i:Nat) (r:ROp) (k:Nat) (r':ROp) (x:Nat),i < m->rs[i]? = some r->k < m->rs[k]? = some r'->k ≠ i->x ∈ r.wrs->x ∈ r'.wrs->(i ∈ (z0p ops.toList).getD k []∧i < k)∨(k ∈ (z0p ops.toList).getD i []∧k < i∧r.dst = none)
 later:∀ (i:Nat) (r:ROp) (k:Nat) (r':ROp) (d:Nat),i < m->rs[i]? = some r->m≤k->rs[k]? = some r'->r'.io.pure = false->r'.dst = some d->d ∉ r.wrs
 tail:∀ k,tl≤k->k < ops.size->∀ j,j < k->j ∈ (z0p ops.toList).getD k []
 hl:z2n (rs.drop m)
theorem fz_noop {σ:St} {r:Nat} (h:∀ arr,σ.H r = some arr->arr.prot = arr.cells.length):σ.fz r = σ:=by
 show (⟨σ.T,upd σ.H r ((σ.H r).map Arr.freeze)⟩:St) = σ
 rw [z3l]
 cases ha:σ.H r with
 | none=>rfl
 | some arr =>
  show some arr = some arr.freeze
  have:=h arr ha
  cases arr
  simp only [Arr.freeze] at this ⊢
  rw [this]
theorem zqk:∀ {l:List Nat} {σ:St},(∀ r,r ∈ l->∀ arr,σ.H r = some arr->arr.prot = arr.cells.length)->σ.fzs l = σ
 | [],σ,h=>rfl
 | r :: l,σ,h=>by
  show (σ.fz r).fzs l = σ
  rw [fz_noop (h r (by simp))]
  exact zqk (fun x hx=>h x (by simp [hx]))
section
variable {pv:Bool} {P:Program} {w0:Start} {Pr0:Nat->Nat->Prop} {n:Nat} {μ:Nat->Option Nat} {σ:St} {a:Act} {w:World}
theorem tail_step {ops:Array Oper} {rs:List ROp} {Q:Exit->Act->World->Prop} {K:St->Prop} (hio:∀ (j:Nat) (r:ROp),rs[j]? = some r->∃ o,ops[j]? = some o∧IsOp pv P ops n o r) {k:Nat} (hk:k < rs.length)
  (hS:SR w0 Pr0 n μ σ a w) (hF:z0w (rs.drop k) σ) (hh:z2n (rs.drop k)) (hE:z0f (AFn P) (rs.drop k) σ K) :
  wpOp P ops Q k (fun a' w'=>∃ μ' σ',SR w0 Pr0 n μ' σ' a' w'∧z0w (rs.drop (k + 1)) σ'∧z2n (rs.drop (k + 1))∧z0f (AFn P) (rs.drop (k + 1)) σ' K) a w:=by
 have hr:rs[k]? = some rs[k]:=List.getElem?_eq_getElem hk
 obtain ⟨o,ho,hi⟩:=hio k _ hr
 rw [List.drop_eq_getElem_cons hk] at hF hh hE
 unfold wpOp
 rw [ho]
 simp only
 simp only [z0f] at hE
 have hF1:z0w (rs.drop (k + 1)) σ:=fun q hq=>hF q (List.mem_cons_of_mem _ hq)
 rcases z43 hi hS hE with ⟨hw,σ',hy,hS',hσ⟩ | ⟨hw,σ',hy,hS',hσ⟩
 ·rw [if_pos hw]
  left
  have hFr:z0w [rs[k]] σ':=z0w.guard (fun q hq=>hF q (by rw [List.mem_singleton.1 hq]; exact List.mem_cons_self)) hσ
  have hFl:=z0w.guard hF1 hσ
  refine Oper.wp_mono ?_ (z55 hi hS' hFr (zbf hh.1 hFl hy))
  rintro a' w' ⟨μ',σ2,⟨hK,hF2⟩,hS2⟩
  exact ⟨μ',σ2,hS2,hF2,hh.2,hK⟩
 ·rw [if_neg (by rw [hw]; simp)]
  exact ⟨μ,_,z3t hi hS',zbi (z0w.guard hF1 hσ),hh.2,hy⟩
theorem eff_z {C:FuncId->List AV->AV->Prop} {F0:List Nat} {rs:List ROp} {es:List HEff} {σ0:St} (hnm:NoMk rs) (hl:es.length = rs.length) (hat:∀ (i:Nat) (r:ROp) (e:HEff),rs[i]? = some r->es[i]? = some e->∃ σi,HInv rs es σ0 (fun j=>decide (j < i)) σi∧OpAt C F0 r σi e) :
  ∀ (i:Nat) (e:HEff) (x:Nat) (arr:Arr),es[i]? = some e->e.s = some (x,arr)->∃ a0,σ0.H x = some a0∧arr.z = a0.z:=by
 intro i
 induction i using Nat.strongRecOn with
 | ind i ih =>
  intro e x arr he hs
  have hi:=(List.getElem?_eq_some_iff.1 he).1
  obtain ⟨r,hr⟩:∃ r,rs[i]? = some r:=⟨_,List.getElem?_eq_getElem (by omega)⟩
  obtain ⟨σi,hI,hop⟩:=hat i r e hr he
  have hd:r.dst = none:=by
   cases hd:r.dst with
   | none=>rfl
   | some d =>
    have hp:=hnm r (List.mem_of_getElem? hr) (by rw [hd]; rfl)
    have:=(hop.made x arr hs).1
    unfold ROp.wrs at this
    rw [hd] at this
    simp [hp] at this
  obtain ⟨arr0,g1,g2⟩:=hop.zst hd x arr hs
  by_cases q:∃ j,j < i∧∃ e' arr',es[j]? = some e'∧e'.s = some (x,arr')
  ·obtain ⟨j,hj,⟨e',arr',k1,k2⟩,hlast⟩:=z47 i q
   have hH:=hI.obj j e' x arr' k1 (by simpa using hj) k2 (fun j2 e2 arr2 m1 m2 m3=>hlast j2 (by simpa using m2) ⟨e2,arr2,m1,m3⟩)
   rw [g1] at hH; cases hH
   obtain ⟨a0,b1,b2⟩:=ih j hj e' x arr0 k1 k2
   exact ⟨a0,b1,by rw [g2,b2]⟩
  ·rw [hI.H x (fun j e' arr' k1 k2 k3=>q ⟨j,by simpa using k2,e',arr',k1,k3⟩)] at g1
   exact ⟨arr0,g1,g2⟩
theorem st_z {C:FuncId->List AV->AV->Prop} {F0:List Nat} {rs:List ROp} {es:List HEff} {σ0:St} (hnm:NoMk rs) (hl:es.length = rs.length) (hat:∀ (i:Nat) (r:ROp) (e:HEff),rs[i]? = some r->es[i]? = some e->∃ σi,HInv rs es σ0 (fun j=>decide (j < i)) σi∧OpAt C F0 r σi e)
  {S:Nat->Bool} {σ:St} (hI:HInv rs es σ0 S σ) (x:Nat):(∀ arr,σ.H x = some arr->∃ a0,σ0.H x = some a0∧arr.z = a0.z)∧∀ a0,σ0.H x = some a0->∃ arr,σ.H x = some arr∧arr.z = a0.z:=by
 by_cases q:∃ i,i < es.length∧∃ e arr,es[i]? = some e∧S i = true∧e.s = some (x,arr)
 ·obtain ⟨i,hi,⟨e,arr,h1,h2,h3⟩,hlast⟩:=z47 es.length q
  have hH:=hI.obj i e x arr h1 h2 h3 (fun j e' arr' g1 g2 g3=>hlast j (List.getElem?_eq_some_iff.1 g1).1 ⟨e',arr',g1,g2,g3⟩)
  obtain ⟨a0,b1,b2⟩:=eff_z hnm hl hat i e x arr h1 h3
  refine ⟨fun arr2 h=>?_,fun a h=>?_⟩
  ·rw [hH] at h; cases h; exact ⟨a0,b1,b2⟩
  ·rw [b1] at h; cases h; exact ⟨arr,hH,b2⟩
 ·have:=hI.H x (fun i e arr h1 h2 h3=>q ⟨i,(List.getElem?_eq_some_iff.1 h1).1,e,arr,h1,h2,h3⟩)
  rw [this]
  exact ⟨fun arr h=>⟨arr,h,rfl⟩,fun a h=>⟨a,h,rfl⟩⟩
theorem z6q {ops:Array Oper} {rs:List ROp} {m:Nat} {Q:Exit->Act->World->Prop} {F0:List Nat} {σ0:St} {es:List HEff} {tl:Nat} (hok:DrawOk ops rs m tl) (hio:∀ (j:Nat) (r:ROp),j < m->rs[j]? = some r->∃ o,ops[j]? = some o∧IsOp pv P ops n o r) (hF:z0w rs σ0)
  (hfz:∀ r,r ∈ F0->(∀ arr,σ0.H r = some arr->arr.prot = arr.cells.length)∧∀ x,x ∈ rs->x.io.pure = false->x.dst ≠ some r)
  (hl:es.length = (rs.take m).length) (hat:∀ (i:Nat) (r:ROp) (e:HEff),(rs.take m)[i]? = some r->es[i]? = some e->∃ σi,HInv (rs.take m) es σ0 (fun j=>decide (j < i)) σi∧OpAt (AFn P) F0 r σi e)
  {S:Nat->Bool} {i:Nat} {o:Oper} (hi:i < m) (ho:ops[i]? = some o) (hSi:S i = false) (hdeps:∀ j,j ∈ (z0p ops.toList).getD i []->S j = true) (hcl:∀ i o,ops[i]? = some o->S i = true->∀ j,j ∈ z0b o->S j = true)
  (hS:SR w0 Pr0 n μ σ a w) (hI:HInv (rs.take m) es σ0 S σ) :
  wpOp P ops Q i (fun a' w'=>∃ μ' σ',SR w0 Pr0 n μ' σ' a' w'∧HInv (rs.take m) es σ0 (fun j=>decide (j = i) || S j) σ') a w:=by
 have hlen:=hok.len
 have him:i < rs.length:=Nat.lt_of_lt_of_le hi hok.mlt
 obtain ⟨r,hr⟩:∃ r,rs[i]? = some r:=⟨_,List.getElem?_eq_getElem him⟩
 have htake:∀ {j:Nat} {x:ROp},(rs.take m)[j]? = some x ↔ j < m∧rs[j]? = some x:=by
  intro j x
  rw [List.getElem?_take]
  split
  ·rename_i h; exact ⟨fun q=>⟨h,q⟩,fun q=>q.2⟩
  ·rename_i h; exact ⟨fun q=>by (cases q),fun q=>absurd q.1 h⟩
 have hrt:(rs.take m)[i]? = some r:=htake.2 ⟨hi,hr⟩
 have hei:i < es.length:=by rw [hl]; exact (List.getElem?_eq_some_iff.1 hrt).1
 obtain ⟨e,he⟩:∃ e,es[i]? = some e:=⟨_,List.getElem?_eq_getElem hei⟩
 obtain ⟨σi,hIi,hat'⟩:=hat i r e hrt he
 obtain ⟨o',ho',hop⟩:=hio i r hi hr
 rw [ho] at ho'; cases ho'
 -- what is behind i is not done
 have hnot:∀ k,i ∈ (z0p ops.toList).getD k []->i < k->k < m->S k = false:=by
  intro k hk hik hkm
  cases hs:S k with
  | false=>rfl
  | true =>
   exfalso
   obtain ⟨rk,hrk⟩:∃ rk,rs[k]? = some rk:=⟨_,List.getElem?_eq_getElem (Nat.lt_of_lt_of_le hkm hok.mlt)⟩
   obtain ⟨ok,hok',hopk⟩:=hio k rk hkm hrk
   have:=z0r (S:=S) ops.toList (fun i o h=>hcl i o (by rw [← Array.getElem?_toList]; exact h)) k ok (by rw [Array.getElem?_toList]; exact hok') (hcl k ok hok' hs) i hk
   rw [hSi] at this; cases this
 have hord:∀ k,k ≠ i->k < m->Ord (z0p ops.toList) k i->S k = decide (k < i):=by
  intro k hki hkm hk
  rcases hk with ⟨g1,g2⟩ | ⟨g1,g2⟩
  ·rw [hdeps k g1]; simp [g2]
  ·rw [hnot k g1 g2 hkm]
   have:¬ k < i:=by omega
   simp [this]
 -- what each writer is
 have hwr:∀ (k:Nat) (e':HEff) (x:Nat) (arr:Arr),es[k]? = some e'->e'.s = some (x,arr)->∃ r',k < m∧rs[k]? = some r'∧x ∈ r'.wrs∧(r'.dst = none->F0.contains x = false):=by
  intro k e' x arr hk hx
  have hkl:=(List.getElem?_eq_some_iff.1 hk).1
  rw [hl] at hkl
  have hkt:(rs.take m)[k]? = some ((rs.take m)[k]'hkl):=List.getElem?_eq_getElem _
  obtain ⟨σk,_,hatk⟩:=hat k _ e' hkt hk
  obtain ⟨q1,q2⟩:=hatk.made x arr hx
  exact ⟨_,(htake.1 hkt).1,(htake.1 hkt).2,q1,q2⟩
 -- a slot that was read
 have hget:∀ t,(∀ k r',k < m->rs[k]? = some r'->r'.dst = some t->k ≠ i->Ord (z0p ops.toList) k i)->σ.T t = σi.T t:=by
  intro t ht
  refine hI.T_eq hl hIi (fun k r' h1 h2=>?_)
  by_cases hki:k = i
  ·subst hki; rw [hSi]; simp
  ·exact hord k hki (htake.1 h1).1 (ht k r' (htake.1 h1).1 (htake.1 h1).2 h2 hki)
 have hobj0:¬ (r.io.free = true∧NoMk rs)->∀ x arr,r.hid.contains x = false->σi.H x = some arr->σ.H x = some arr:=by
  intro hnf x arr hx ha
  rw [← ha]
  refine hI.H_eq hIi (fun k ek ar h1 h2=>?_)
  obtain ⟨r',hkm,hr',hxw,_⟩:=hwr k ek x ar h1 h2
  by_cases hki:k = i
  ·subst hki; rw [hSi]; simp
  ·rcases hok.hids i r k r' x hi hr hr' hki hxw with g | g | ⟨_,g⟩ | ⟨_,g⟩
   ·rw [g] at hx; cases hx
   ·exact hord k hki hkm (.inl g)
   ·exact hord k hki hkm (.inr g)
   ·exact absurd g hnf
 have hobj:r.io.free = false->∀ x arr,r.hid.contains x = false->σi.H x = some arr->σ.H x = some arr:=fun hf=>hobj0 fun g=>by rw [hf] at g; cases g.1
 have hobjz:∀ x arr,r.hid.contains x = false->σi.H x = some arr->∃ arr',σ.H x = some arr'∧arr'.z = arr.z:=by
  intro x arr hx ha
  by_cases hnf:r.io.free = true∧NoMk rs
  ·have hnm:NoMk (rs.take m):=fun r hr=>hnf.2 r (List.mem_of_mem_take hr)
   obtain ⟨a0,b1,b2⟩:=(st_z hnm hl hat hIi x).1 arr ha
   obtain ⟨arr',c1,c2⟩:=(st_z hnm hl hat hI x).2 a0 b1
   exact ⟨arr',c1,by rw [c2,b2]⟩
  ·exact ⟨arr,hobj0 hnf x arr hx ha,rfl⟩
 have hguard:∀ t b,r.guard = some (t,b)->σ.T t = σi.T t:=fun t b hg=>hget t (fun k r' h1 h2 h3 h4=>hok.guards i r t b k r' hi hr hg h1 h2 h3 h4)
 -- wanted or not
 have hig:=hop.guard
 have hwant:Region.wanted o (yielded ops a.tmps) = e.w:=by
  cases hgo:o.guard with
  | none =>
   rw [hgo] at hig
   have h1:Region.wanted o (yielded ops a.tmps) = true:=by simp [Region.wanted,hgo]
   rw [h1]
   cases hw:e.w with
   | true=>rfl
   | false =>
    have:=hat'.guard
    rw [hw] at this
    obtain ⟨t,want,g1,_⟩:=this
    rw [hig] at g1; cases g1
  | some g =>
   obtain ⟨j,want⟩:=g
   rw [hgo] at hig
   obtain ⟨t,h1,h2,h3⟩:=hig
   have hTt:=hguard t want h3
   have ht:=hS.tmp t
   have hlt:t < a.tmps.size:=by rw [hS.size]; exact h2
   have hgt:a.tmps[t]? = some (a.tmps.getD t undef):=by rw [Array.getD_eq_getD_getElem?,Array.getElem?_eq_getElem hlt]; rfl
   have hw:Region.wanted o (yielded ops a.tmps) = (yielded ops a.tmps j == some want):=by simp [Region.wanted,hgo]
   have hbool:∀ b,σi.T t = .bool b->yielded ops a.tmps j = some b:=by
    intro b hb
    rw [hTt,hb] at ht
    have hv:=ht.bool
    unfold yielded; rw [h1]; simp only [Option.bind_some]; rw [hgt,hv]
   cases hew:e.w with
   | true =>
    have:=hat'.guard
    rw [hew] at this
    have hb:=this t want h3
    rw [hw,hbool _ hb]; simp
   | false =>
    have:=hat'.guard
    rw [hew] at this
    obtain ⟨t',want',g1,g2⟩:=this
    rw [h3] at g1; cases g1
    rcases g2 with g2 | g2
    ·rw [hw,hbool _ g2]
     cases want <;> rfl
    ·rw [hTt,g2] at ht
     have ht':VR (PrOf w0 Pr0 μ σ.H) w (.tup []) (a.tmps.getD t undef):=ht
     have hv:a.tmps.getD t undef = .tuple #[]:=by
      generalize a.tmps.getD t undef = v at ht'
      cases ht' with
      | tup _ vs hl _ =>
       have:vs = []:=List.length_eq_zero_iff.1 hl.symm
       subst this; rfl
     rw [hw]
     unfold yielded; rw [h1]; simp only [Option.bind_some]; rw [hgt,hv]; rfl
 -- the state behind it
 have hst:=hI.step hok.dsts hrt he (fun j e' x arr arr' h1 h2 h3 h4=>by
  have hji:j ≠ i:=fun e=>by subst e; rw [hSi] at h2; cases h2
  obtain ⟨r',hjm,hr',hxw,_⟩:=hwr j e' x arr' h1 h4
  rcases hok.ww i r j r' x hi hr hjm hr' hji (hat'.made x arr h3).1 hxw with ⟨g1,g2⟩ | ⟨_,g2,_⟩
  ·rw [hnot j g1 g2 hjm] at h2; cases h2
  ·exact g2)
 unfold wpOp
 rw [ho]
 simp only
 cases hew:e.w with
 | false =>
  rw [hwant,hew,if_neg (by simp)]
  obtain ⟨g1,g2⟩:=hat'.skip hew
  rw [g1,g2] at hst
  refine ⟨μ,_,?_,hst⟩
  have:=z3t (σ:=σ) hop hS
  unfold skipV at this
  cases hd:r.dst with
  | none=>rw [hd] at this; exact this
  | some d=>rw [hd] at this; exact this
 | true =>
  rw [hwant,hew,if_pos rfl]
  left
  obtain ⟨hrun1,hrun2⟩:=hat'.run hew
  have halike:Alike r.io r.hid σi σ:=by
   refine ⟨fun x hx=>?_,hobj,fun _ t ht=>hget t (fun k r' h1 h2 h3 h4=>by
    obtain ⟨o',_,hop'⟩:=hio k r' h1 h2
    have q1:t < n:=hop'.lt t (by rw [← hop'.dst]; exact h3)
    exact absurd (Nat.lt_of_lt_of_le q1 hS.small) (Nat.not_lt.2 ht)),hobjz⟩
   cases x with
   | c v=>rfl
   | t t=>exact hget t (fun k r' h1 h2 h3 h4=>hok.opds i r t k r' hi hr hx h1 h2 h3 h4)
  have hnoop:∀ fz:List Nat,fz.all F0.contains = true->σ.fzs fz = σ:=fun fz hfzs=>zqk fun x hx arr ha=>by
   have hxF:x ∈ F0:=by
    have:=List.all_eq_true.1 hfzs x hx
    simpa using this
   obtain ⟨q1,q2⟩:=hfz x hxF
   refine q1 arr ?_
   rw [← ha]
   refine (hI.H x (fun k ek ar h1 h2 h3=>?_)).symm
   obtain ⟨r',hkm,hr',hxw,hx0⟩:=hwr k ek x ar h1 h3
   cases hd':r'.dst with
   | none =>
    have:=hx0 hd'
    rw [List.contains_iff_mem.2 hxF] at this; cases this
   | some d' =>
    unfold ROp.wrs at hxw
    rw [hd'] at hxw
    simp only at hxw
    split at hxw
    ·simp at hxw
    ·rename_i hp
     simp only [List.mem_singleton] at hxw
     subst hxw
     exact q2 r' (List.mem_of_getElem? hr') (by simpa using hp) hd'
  cases hd:r.dst with
  | none =>
   have hodst:o.dst = none:=by rw [← hop.dst]; exact hd
   have hev:=hrun2 hd σ (fun σ'=>σ' = σ.eff none e.v e.s) halike hnoop rfl
   rw [hd] at hst
   have hcm:compT pv P o = some r.io:=by
    have:=hop.io
    unfold zar at this
    split at this
    ·rename_i io hT
     cases this; exact hT
    ·have hnm:=z7y this
     exfalso
     revert hev
     cases hio2:r.io <;> rw [hio2] at hnm <;> first | (simp [IOp.isMut] at hnm; done) | (intro hev; exact False.elim hev)
   have:=zaq (Q:=Q) hcm hop.lt hS (by rw [hodst]; exact hev)
   refine Oper.wp_mono ?_ this
   rintro a' w' ⟨μ',σ',rfl,hS'⟩
   exact ⟨μ',_,hS',hst⟩
  | some dst =>
   have hodst:o.dst = some dst:=by rw [← hop.dst]; exact hd
   obtain ⟨fz,s,hes,hfzs,hrun⟩:=hrun1 dst hd
   have hev:=hrun σ (fun v s' f=>v = e.v∧s' = s∧f = fz) halike ⟨rfl,rfl,rfl⟩
   -- what it makes is not there yet
   have hfresh:r.io.pure = false->σ.H dst = none∧∀ t,(σ.T t).name ≠ some dst:=by
    intro hp
    have hwrs:=ROp.wrs_maker hp hd
    obtain ⟨q1,q2⟩:=hF r (List.mem_of_getElem? hr) hp dst hd
    refine ⟨?_,fun t hn=>?_⟩
    ·rw [hI.H dst (fun k ek ar h1 h2 h3=>?_)]
     ·exact q1
     ·have hki:k ≠ i:=fun e=>by subst e; rw [hSi] at h2; cases h2
      obtain ⟨r',hkm,hr',hxw,_⟩:=hwr k ek dst ar h1 h3
      rcases hok.ww i r k r' dst hi hr hkm hr' hki (by rw [hwrs]; simp) hxw with ⟨g1,g2⟩ | ⟨_,_,g3⟩
      ·rw [hnot k g1 g2 hkm] at h2; cases h2
      ·rw [hd] at g3; cases g3
    ·by_cases q:∃ (k:Nat) (r':ROp),(rs.take m)[k]? = some r'∧S k = true∧r'.dst = some t
     ·obtain ⟨k,r',h1,h2,h3⟩:=q
      obtain ⟨ek,hek⟩:∃ ek,es[k]? = some ek:=⟨_,List.getElem?_eq_getElem (by rw [hl]; exact (List.getElem?_eq_some_iff.1 h1).1)⟩
      obtain ⟨σk,_,hatk⟩:=hat k r' ek h1 hek
      rw [hI.dst k r' ek t h1 hek h2 h3] at hn
      have hnm:=hatk.name (by rw [h3]; rfl)
      unfold z12 at hnm
      rw [hn] at hnm
      simp only [Bool.not_eq_true'] at hnm
      have hki:i ≠ k:=fun e=>by subst e; rw [hSi] at h2; cases h2
      rcases hok.hids k r' i r dst (htake.1 h1).1 (htake.1 h1).2 hr hki (by rw [hwrs]; simp) with g | ⟨g1,g2⟩ | ⟨g,_⟩ | ⟨g,_⟩
      ·rw [g] at hnm; cases hnm
      ·rw [hnot k g1 g2 (htake.1 h1).1] at h2; cases h2
      ·rw [hd] at g; cases g
      ·rw [hd] at g; cases g
     ·rw [hI.T t (fun k r' h1 h2 h3=>q ⟨k,r',h1,h2,h3⟩)] at hn
      exact q2 t hn
   rw [hd,hes,zem] at hst
   have hcm:zit pv P o = some r.io:=by
    have:=hop.io
    unfold zar at this
    split at this
    ·rename_i io hT
     cases this
     have:=z6w hT
     exfalso
     revert hev
     cases hio2:r.io <;> rw [hio2] at this <;> first | (simp [IOp.isMut] at this; done) | (intro hev; exact False.elim hev)
    ·exact this
   refine Oper.wp_mono ?_ (z48 hcm hodst (hop.lt dst hodst) hS hfresh hev)
   rintro a' w' ⟨μ',v,s',f,⟨rfl,rfl,rfl⟩,hS'⟩
   rw [hnoop _ hfzs] at hS'
   exact ⟨μ',_,hS',hst⟩
theorem zcr {ops : Array Oper} {rs : List ROp} {m id : Nat} {Q : Exit → Act → World → Prop} {F0 : List Nat} {K : St → Prop} (hm : P.follows .mixedOrders = true) (hok : DrawOk ops rs m m) (hio : ∀ (j : Nat) (r : ROp), rs[j]? = some r → ∃ o, ops[j]? = some o ∧ IsOp pv P ops n o r) (hS : SR w0 Pr0 n μ σ a w) (hF : z0w rs σ)
    (hfz : ∀ r, r ∈ F0 → (∀ arr, σ.H r = some arr → arr.prot = arr.cells.length) ∧ ∀ x, x ∈ rs → x.io.pure = false → x.dst ≠ some r)
    (hE : z0m (AFn P) F0 (rs.take m) σ (fun σ => z0f (AFn P) (rs.drop m) σ K)) (hQ : ∀ μ σ' a w, K σ' → SR w0 Pr0 n μ σ' a w → Q .normal a w) :
    (Code.region id ops true).wp P Q a w := by
  obtain ⟨es, σm, hseq, hl, hK⟩ := z3n hE
  obtain ⟨hIm, hat⟩ := zab (rs.take m) es [] [] (σ0 := σ) rfl hok.dsts (by simpa using HInv.start (rs.take m) es σ) hseq
  simp only [List.nil_append, List.length_nil, Nat.zero_add] at hIm hat
  have hlen := hok.len
  have htl : (rs.take m).length = m := by rw [List.length_take, Nat.min_eq_left hok.mlt]
  -- the end of the head
  have hend : ∀ {S : Nat → Bool} {σ' : St}, HInv (rs.take m) es σ S σ' → (∀ j, j < m → S j = true) → σ' = σm := by
    intro S σ' hI hall
    have hT : σ'.T = σm.T := by
      funext t
      refine hI.T_eq hl hIm (fun i r h1 _ => ?_)
      have him := (List.getElem?_eq_some_iff.1 h1).1
      rw [htl] at him
      rw [hall i him, htl]; simp [him]
    have hH : σ'.H = σm.H := by
      funext x
      refine hI.H_eq hIm (fun i e arr h1 _ => ?_)
      have him := (List.getElem?_eq_some_iff.1 h1).1
      rw [hl, htl] at him
      rw [hall i him, htl]; simp [him]
    cases σ'; cases σm
    simp only at hT hH
    rw [hT, hH]
  -- what the tail makes is not there
  have htail : z0w (rs.drop m) σm := by
    intro x hx hp d hd
    obtain ⟨q1, q2⟩ := hF x (List.mem_of_mem_drop hx) hp d hd
    obtain ⟨k, hk⟩ := List.mem_iff_getElem?.1 hx
    rw [List.getElem?_drop] at hk
    refine ⟨?_, fun t hn => ?_⟩
    · rw [hIm.H d (fun i e arr h1 h2 h3 => ?_)]
      · exact q1
      · have him := (List.getElem?_eq_some_iff.1 h1).1
        rw [hl] at him
        have hrt : (rs.take m)[i]? = some ((rs.take m)[i]'him) := List.getElem?_eq_getElem _
        obtain ⟨σk, _, hatk⟩ := hat i _ e hrt h1
        have hrm := hrt
        rw [htl] at him
        rw [List.getElem?_take, if_pos him] at hrm
        exact hok.later i _ (m + k) x d him hrm (by omega) hk hp hd (hatk.made d arr h3).1
    · by_cases q : ∃ (i : Nat) (r : ROp), (rs.take m)[i]? = some r ∧ r.dst = some t
      · obtain ⟨i, r, h1, h3⟩ := q
        have him := (List.getElem?_eq_some_iff.1 h1).1
        obtain ⟨e, he⟩ : ∃ e, es[i]? = some e := ⟨_, List.getElem?_eq_getElem (by rw [hl]; exact him)⟩
        obtain ⟨σk, _, hatk⟩ := hat i r e h1 he
        rw [hIm.dst i r e t h1 he (by simpa using him) h3] at hn
        have hnm := hatk.name (by rw [h3]; rfl)
        unfold z12 at hnm
        rw [hn] at hnm
        simp only [Bool.not_eq_true'] at hnm
        rw [htl] at him
        rw [List.getElem?_take, if_pos him] at h1
        rcases hok.hids i r (m + k) x d him h1 hk (by omega) (by rw [ROp.wrs_maker hp hd]; simp) with g | ⟨_, g⟩ | ⟨g, _⟩ | ⟨g, _⟩
        · rw [g] at hnm; cases hnm
        · omega
        · rw [hd] at g; cases g
        · rw [hd] at g; cases g
      · rw [hIm.T t (fun i r h1 _ h3 => q ⟨i, r, h1, h3⟩)] at hn
        exact q2 t hn
  let I : (Nat → Bool) → Act → World → Prop := fun S a w => (∀ i o, ops[i]? = some o → S i = true → ∀ j, j ∈ z0b o → S j = true) ∧
    (((∀ j, m ≤ j → S j = false) ∧ ∃ μ σ', SR w0 Pr0 n μ σ' a w ∧ HInv (rs.take m) es σ S σ') ∨
     ∃ k, m ≤ k ∧ (∀ j, j < ops.size → S j = decide (j < k)) ∧ ∃ μ σ', SR w0 Pr0 n μ σ' a w ∧ z0w (rs.drop k) σ' ∧ z2n (rs.drop k) ∧ z0f (AFn P) (rs.drop k) σ' K)
  refine z35 hm hok.edge I ?_ ?_ ⟨(fun i o h e => by cases e), .inl ⟨fun _ _ => rfl, μ, σ, hS.drew, HInv.start _ _ _⟩⟩
  · intro S a' w' i o hI ho hSi hdir
    obtain ⟨hcl, hI⟩ := hI
    have hi : i < ops.size := (Array.getElem?_eq_some_iff.1 ho).1
    have hdeps := z0r (S := S) ops.toList (fun i o h => hcl i o (by rw [← Array.getElem?_toList]; exact h)) i o (by rw [Array.getElem?_toList]; exact ho) hdir
    have hcl' : ∀ i' o', ops[i']? = some o' → (decide (i' = i) || S i') = true → ∀ j, j ∈ z0b o' → (decide (j = i) || S j) = true := by
      intro i' o' h1 h2 j hj
      by_cases e : i' = i
      · subst e
        rw [ho] at h1; cases h1
        simp [hdir j hj]
      · have : S i' = true := by simpa [e] using h2
        simp [hcl i' o' h1 this j hj]
    -- a step of the tail
    have tailStep : ∀ {k : Nat} {μ : Nat → Option Nat} {σ' : St}, m ≤ k → (∀ j, j < ops.size → S j = decide (j < k)) → SR w0 Pr0 n μ σ' a' w' → z0w (rs.drop k) σ' → z2n (rs.drop k) → z0f (AFn P) (rs.drop k) σ' K → i = k →
        wpOp P ops Q i (I fun j => decide (j = i) || S j) a' w' := by
      intro k μ' σ' hmk hSk hS' hF' hh hE' e
      subst e
      refine wpOp_mono ?_ (tail_step hio (by omega) hS' hF' hh hE')
      rintro a2 w2 ⟨μ2, σ2, g1, g2, g3, g4⟩
      refine ⟨hcl', .inr ⟨i + 1, by omega, fun j hj => ?_, μ2, σ2, g1, g2, g3, g4⟩⟩
      show (decide (j = i) || S j) = _
      rw [hSk j hj, Bool.eq_iff_iff]
      simp; omega
    rcases hI with ⟨hS0, μ', σ', hS', hH⟩ | ⟨k, hmk, hSk, μ', σ', hS', hF', hh, hE'⟩
    · rcases Nat.lt_or_ge i m with him | him
      · refine wpOp_mono ?_ (z6q hok (fun j r _ h => hio j r h) hF hfz hl hat him ho hSi hdeps hcl hS' hH)
        rintro a2 w2 ⟨μ2, σ2, g1, g2⟩
        exact ⟨hcl', .inl ⟨fun j hj => by simp [hS0 j hj, show j ≠ i by omega], μ2, σ2, g1, g2⟩⟩
      · have hbefore : ∀ j, j < i → S j = true := fun j hj => hdeps j (hok.tail i him hi j hj)
        have e : i = m := by
          rcases Nat.lt_or_ge m i with h | h
          · have := hbefore m h; rw [hS0 m (Nat.le_refl _)] at this; cases this
          · omega
        have hσ : σ' = σm := hend hH (fun j hj => hbefore j (by omega))
        subst hσ
        refine tailStep (Nat.le_refl _) (fun j hj => ?_) hS' htail hok.hl hK e
        rcases Nat.lt_or_ge j m with h | h
        · rw [hbefore j (by omega)]; simp [h]
        · rw [hS0 j h]; simp; omega
    · have e : i = k := by
        have h1 : ¬ i < k := fun h => by rw [hSk i hi] at hSi; simp at hSi; omega
        rcases Nat.lt_or_ge k i with h | h
        · have := hdeps k (hok.tail i (by omega) hi k h)
          rw [hSk k (by omega)] at this
          simp at this
        · omega
      exact tailStep hmk hSk hS' hF' hh hE' e
  · intro S a' w' hI hall
    obtain ⟨_, hI⟩ := hI
    rcases hI with ⟨hS0, μ', σ', hS', hH⟩ | ⟨k, hmk, hSk, μ', σ', hS', hF', hh, hE'⟩
    · have hms : m = rs.length := by
        have := hok.mlt
        rcases Nat.lt_or_ge m rs.length with h | h
        · have h1 := hall m (by omega); rw [hS0 m (Nat.le_refl _)] at h1; cases h1
        · omega
      have hσ : σ' = σm := hend hH (fun j hj => hall j (by omega))
      subst hσ
      rw [hms, List.drop_length] at hK
      exact hQ _ _ _ _ hK hS'
    · have hk : rs.length ≤ k := by
        rcases Nat.lt_or_ge k rs.length with h | h
        · have h1 := hall k (by omega)
          rw [hSk k (by omega)] at h1
          simp at h1
        · exact h
      rw [List.drop_eq_nil_of_le hk] at hE'
      exact hQ _ _ _ _ hE' hS'
end
end Go.Proofs.YtlhblpbfhfhlpaaGreatDoor
end
section
namespace Go.Proofs.YtlhblpbfhfhlpaaGreatDoor
open Go.RowKit Go.MapKept
def idxM:List (Int × AV)->Int->Option Nat
 | [],_=>none
 | e :: l,k=>if k == e.1 then some 0 else (idxM l k).map (· + 1)
def lkp:List (Int × AV)->Int->Option AV
 | [],_=>none
 | e :: l,k=>if k == e.1 then some e.2 else lkp l k
def upk:List (Int × AV)->Int->AV->List (Int × AV)
 | [],k,d=>[(k,d)]
 | e :: l,k,d=>if k == e.1 then (e.1,d) :: l else e :: upk l k d
def remp (r:Nat) (es:List (Int × AV)):AV->AV
 | .mp s l=>if s = r then .mp r es else .mp s l
 | v=>v
theorem remp_ne {r:Nat} {es:List (Int × AV)} {v:AV} (h:v.name ≠ some r):remp r es v = v:=by
 cases v with
 | mp s l=>exact if_neg fun e=>h (by rw [e]; rfl)
 | _=>rfl
theorem zid:∀ {es:List (Int × AV)} {k:Int} {j:Nat},idxM es k = some j->∃ e,es[j]? = some e∧e.1 = k∧lkp es k = some e.2∧∀ d,upk es k d = es.set j (k,d)
 | [],k,j,h=>by cases h
 | e :: l,k,j,h=>by
  rw [idxM] at h
  by_cases hk:(k == e.1) = true
  ·rw [if_pos hk] at h
   cases h
   have hk':k = e.1:=by simpa using hk
   exact ⟨e,rfl,hk'.symm,by rw [lkp,if_pos hk],fun d=>by rw [upk,if_pos hk,hk']; rfl⟩
  ·rw [if_neg hk] at h
   obtain ⟨i,hi,rfl⟩:=Option.map_eq_some_iff.1 h
   obtain ⟨x,h1,h2,h3,h4⟩:=zid hi
   exact ⟨x,by simpa using h1,h2,by rw [lkp,if_neg hk]; exact h3,fun d=>by rw [upk,if_neg hk,h4]; rfl⟩
theorem zie:∀ {es:List (Int × AV)} {k:Int},idxM es k = none->lkp es k = none∧(∀ d,upk es k d = es ++ [(k,d)])
 | [],k,_=>⟨rfl,fun d=>rfl⟩
 | e :: l,k,h=>by
  rw [idxM] at h
  by_cases hk:(k == e.1) = true
  ·rw [if_pos hk] at h; cases h
  ·rw [if_neg hk] at h
   obtain ⟨h1,h2⟩:=zie (by simpa using h)
   exact ⟨by rw [lkp,if_neg hk]; exact h1,fun d=>by rw [upk,if_neg hk,h2]; rfl⟩
theorem zaj (n:Int):∀ (es:List (Int × AV)) (ml:List MapEntry) (i:Nat),es.length = ml.length->(∀ (j:Nat) (e:Int × AV) (m:MapEntry),es[j]? = some e->ml[j]? = some m->m.key = .int .i64 e.1) ->
  Instr.findNow (.int .i64) (.int .i64 n) ml i = some ((idxM es n).bind fun j=>(ml[j]?).map fun m=>(i + j,m.val))
 | [],[],i,_,_=>rfl
 | e :: es,m :: ml,i,hl,hk=>by
  have h0:=hk 0 e m rfl rfl
  have ih:=zaj n es ml (i + 1) (by simpa using hl) (fun j e' m' h1 h2=>hk (j + 1) e' m' (by simpa using h1) (by simpa using h2))
  rw [Instr.findNow,h0]
  simp only [Instr.sameNow,if_true]
  rw [idxM]
  by_cases hq:(n == e.1) = true
  ·rw [hq,if_pos rfl]
   rfl
  ·rw [show (n == e.1) = false by simpa using hq,if_neg (by simp)]
   simp only
   rw [ih]
   cases idxM es n with
   | none=>rfl
   | some j =>
    simp only [Option.bind_some,Option.map_some,List.getElem?_cons_succ]
    congr 2
    funext m'
    congr 1
    omega
section
variable {P:Program} {w0:Start} {Pr0:Nat->Nat->Prop} {n:Nat} {μ:Nat->Option Nat} {σ:St} {a:Act} {w:World}
theorem TR.fz (h:SR w0 Pr0 n μ σ a w) (r:Nat) {d:AV} {v:Value} (ht:TR (PrOf w0 Pr0 μ σ.H) μ σ.H w d v):TR (PrOf w0 Pr0 μ (σ.fz r).H) μ (σ.fz r).H w d v:=by
 have hH:∀ s arr,(σ.fz r).H s = some arr->∃ arr0,σ.H s = some arr0∧Frozen arr0 arr:=fun s arr ha=>fz_H_back ha
 have k:Kept (PrOf w0 Pr0 μ σ.H) (PrOf w0 Pr0 μ (σ.fz r).H) w w:=by
  refine ⟨Nat.le_refl _,fun b o _ hp=>⟨hp.1,fun s hs=>?_⟩,fun _ _ _ _=>rfl,fun _ _ _ _ _ h=>h⟩
  obtain ⟨arr,h1,h2⟩:=hp.2 s hs
  obtain ⟨arr',e1,e2,_⟩:=fz_H (r:=r) h1
  refine ⟨arr',e1,?_⟩
  rw [e2.z]
  rcases e2.prot with e | e <;> rw [e]
  ·exact h2
  ·exact Nat.lt_of_lt_of_le h2 (Nat.mul_le_mul_right _ (h.obj s arr h1).2.1)
 cases d with
 | und=>trivial
 | own=>exact ht
 | clom f s =>
  intro arr ha
  obtain ⟨a0,e0,e1⟩:=hH s arr ha
  exact ht a0 e0
 | mp s es =>
  intro arr ha
  obtain ⟨a0,e0,e1⟩:=hH s arr ha
  obtain ⟨g,ms,c,q1,q2,q3,q4⟩:=ht a0 e0
  exact ⟨g,ms,c,q1,q2,q3,q4.kept k⟩
 | ptr s i f =>
  intro arr ha
  obtain ⟨a0,e0,e1⟩:=hH s arr ha
  rw [e1.z]; exact ht a0 e0
 | rs s off len =>
  intro arr ha
  obtain ⟨a0,e0,e1⟩:=hH s arr ha
  rw [e1.z,e1.ty,e1.cells]; exact ht a0 e0
 | vrs s off len u0 =>
  intro arr ha
  obtain ⟨a0,e0,e1⟩:=hH s arr ha
  rw [e1.z,e1.ty,e1.cells]; exact ht a0 e0
 | _=>exact VR.kept k ht
theorem TR.fzs:∀ (l:List Nat) {σ:St},SR w0 Pr0 n μ σ a w->∀ {d:AV} {v:Value},TR (PrOf w0 Pr0 μ σ.H) μ σ.H w d v->TR (PrOf w0 Pr0 μ (σ.fzs l).H) μ (σ.fzs l).H w d v
 | [],σ,h,d,v,ht=>ht
 | r :: l,σ,h,d,v,ht=>TR.fzs l (h.fz r) (TR.fz h r ht)
theorem SR.remap (h:SR w0 Pr0 n μ σ a w) {r g:Nat} {arr:Arr} {ms:Array MapEntry} {c:Nat} {es':List (Int × AV)} (hr:r < 1000) (hg:μ r = some g) (ha:σ.H r = some arr) (hb:w.heap[g]? = some (.map ms c)) {w':World} {ms':Array MapEntry} {c':Nat}
  (hB:Below w0.w.heap.size w0.w w') (hsz:w.heap.size≤w'.heap.size) (hoth:∀ k,k < w.heap.size->k ≠ g->w'.heap[k]? = w.heap[k]?) (hb':w'.heap[g]? = some (.map ms' c')) (hes:MapR (PrOf w0 Pr0 μ σ.H) w es' ms' c') :
  SR w0 Pr0 n μ ⟨fun t=>remp r es' (σ.T t),σ.H⟩ a w':=by
 have hprot:arr.prot = 0:=by
  obtain ⟨o1,o2,o3,o4⟩:=h.obj r arr ha
  rw [hg] at o4
  rcases o4 with ⟨q,_⟩ | ⟨cs,q,_⟩
  ·rw [q] at o2; exact Nat.le_zero.1 o2
  ·rw [hb] at q; cases q
 have hno:∀ o,¬ PrOf w0 Pr0 μ σ.H g o:=by
  intro o hp
  obtain ⟨arr',q1,q2⟩:=hp.2 r hg
  rw [ha] at q1; cases q1
  rw [hprot,Nat.zero_mul] at q2
  omega
 have k:Kept (PrOf w0 Pr0 μ σ.H) (PrOf w0 Pr0 μ σ.H) w w':=by
  refine ⟨hsz,fun _ _ _ h=>h,fun b o hlt hp=>?_,fun b ms c hlt hp hm=>?_⟩
  ·have e:b ≠ g:=fun e=>hno o (by rw [← e]; exact hp)
   exact World.cell?_of_block (w:=w) (hoth b hlt e)
  ·have e:b ≠ g:=fun e=>hno 0 (by rw [← e]; exact hp)
   rw [hoth b hlt e]; exact hm
 have tr:∀ v u,TR (PrOf w0 Pr0 μ σ.H) μ σ.H w v u->TR (PrOf w0 Pr0 μ σ.H) μ σ.H w' (remp r es' v) u:=by
  intro v u ht
  cases v with
  | und=>trivial
  | own=>exact ht
  | clom f s=>exact ht
  | ptr s i f=>exact ht
  | rs s off len =>
   intro ar har
   rcases ht ar har with q | ⟨b,cap,cs,q1,q2,q3,q4⟩
   ·exact .inl q
   ·have e:b ≠ g:=fun e=>by rw [e,hb] at q3; cases q3
    exact .inr ⟨b,cap,cs,q1,q2,by rw [hoth b (h.range s b q1).2 e]; exact q3,q4⟩
  | vrs s off len u0 =>
   intro ar har
   rcases ht ar har with q | ⟨b,cap,cs,q1,q2,q3,q4⟩
   ·exact .inl q
   ·have e:b ≠ g:=fun e=>by rw [e,hb] at q3; cases q3
    exact .inr ⟨b,cap,cs,q1,q2,by rw [hoth b (h.range s b q1).2 e]; exact q3,q4⟩
  | mp s es =>
   show TR _ _ _ _ (if s = r then .mp r es' else .mp s es) u
   by_cases e:s = r
   ·rw [if_pos e]
    subst e
    intro ar har
    obtain ⟨b,ms0,c0,q1,q2,q3,q4⟩:=ht ar har
    rw [hg] at q1; cases q1
    exact ⟨g,ms',c',hg,q2,hb',hes.kept k⟩
   ·rw [if_neg e]
    intro ar har
    obtain ⟨b,ms0,c0,q1,q2,q3,q4⟩:=ht ar har
    have hne:b ≠ g:=fun e'=>e (h.inj s r g (by rw [← e']; exact q1) hg)
    exact ⟨b,ms0,c0,q1,q2,by rw [hoth b (h.range s b q1).2 hne]; exact q3,q4.kept k⟩
  | _=>exact VR.kept k ht
 refine ⟨hB,h.inj,fun s b hs=>⟨(h.range s b hs).1,Nat.lt_of_lt_of_le (h.range s b hs).2 hsz⟩,h.live,h.size,fun t=>tr _ _ (h.tmp t),fun s ar har=>?_,h.defers,h.glob,h.small,fun v u hf=>⟨(h.frame v u hf).1,?_⟩⟩
 ·obtain ⟨q1,q2,q3,q4⟩:=h.obj s ar har
  refine ⟨q1,q2,q3,?_⟩
  cases hs:μ s with
  | none=>rw [hs] at q4; exact q4
  | some b =>
   rw [hs] at q4
   rcases q4 with ⟨p0,ms0,c0,p1⟩ | ⟨cs,p1,p2,p3⟩
   ·by_cases e:b = g
    ·subst e; exact .inl ⟨p0,ms',c',hb'⟩
    ·exact .inl ⟨p0,ms0,c0,by rw [hoth b (h.range s b hs).2 e]; exact p1⟩
   ·have e:b ≠ g:=fun e=>by rw [e,hb] at p1; cases p1
    exact .inr ⟨cs,by rw [hoth b (h.range s b hs).2 e]; exact p1,p2,fun i x j c hi hj=>let ⟨u,m1,m2⟩:=p3 i x j c hi hj; ⟨u,m1,m2.kept k⟩⟩
 ·have:=tr v u (h.frame v u hf).2
  rwa [remp_ne (fun e=>by have:=(h.frame v u hf).1 r e; omega)] at this
theorem SR.newMap (h:SR w0 Pr0 n μ σ a w) {d:Nat} (hd1:d < 1000) (hd:σ.H d = none) (hT:∀ t,(σ.T t).name ≠ some d) {ty:TypeId}:SR w0 Pr0 n (upd μ d (some w.heap.size)) ⟨σ.T,upd σ.H d (some ⟨1,ty,[],0⟩)⟩ a (w.alloc (.map #[] 0)) :=
 SR.adopt' h ((Below.refl _ _).alloc (Nat.le_refl _) _) (Nat.le_refl _) hd1 hd hT rfl Nat.one_pos (fun x hx=>by cases hx) (Array.getElem?_eq_some_iff.1 (heap_alloc w _).1).1 (.inl ⟨rfl,#[],0,(heap_alloc w _).1⟩)
theorem MapR.lookup {Pr:Nat->Nat->Prop} {es:List (Int × AV)} {ms:Array MapEntry} {c:Nat} (hm:MapR Pr w es ms c) (k:Int):(lkp es k = none∧Instr.findNow (.int .i64) (.int .i64 k) ms.toList 0 = some none∧∀ d,upk es k d = es ++ [(k,d)]) ∨
  ∃ (j:Nat) (e:Int × AV) (m:MapEntry),lkp es k = some e.2∧es[j]? = some e∧ms[j]? = some m∧m.key = .int .i64 k∧Instr.findNow (.int .i64) (.int .i64 k) ms.toList 0 = some (some (j,m.val))∧VR Pr w e.2 m.val∧∀ d,upk es k d = es.set j (k,d):=by
 have hf:=zaj k es ms.toList 0 (by simpa using hm.len) (fun j e m h1 h2=>hm.key j e m h1 (by simpa using h2))
 cases hi:idxM es k with
 | none =>
  rw [hi] at hf
  obtain ⟨h1,h2⟩:=zie hi
  exact .inl ⟨h1,hf,h2⟩
 | some j =>
  rw [hi] at hf
  obtain ⟨e,h1,h2,h3,h4⟩:=zid hi
  have hj:j < ms.size:=by rw [← hm.len]; exact (List.getElem?_eq_some_iff.1 h1).1
  have hmj:ms[j]? = some ms[j]:=Array.getElem?_eq_getElem hj
  refine .inr ⟨j,e,ms[j],h3,h1,hmj,by rw [hm.key j e _ h1 hmj,h2],?_,hm.val j e _ h1 hmj,h4⟩
  rw [hf]
  simp only [Option.bind_some,Array.getElem?_toList,hmj,Option.map_some,Nat.zero_add]
theorem za3:∀ {es:List (Int × AV)} {k:Int},lkp es k = none->∀ e,e ∈ es->e.1 ≠ k
 | [],k,_,e,he=>by cases he
 | x :: l,k,h,e,he=>by
  rw [lkp] at h
  by_cases hk:(k == x.1) = true
  ·rw [if_pos hk] at h; cases h
  ·rw [if_neg hk] at h
   rcases List.mem_cons.1 he with e1 | e1
   ·subst e1; exact fun e2=>hk (by simp [e2])
   ·exact za3 h e e1
theorem MapR.fresh {Pr:Nat->Nat->Prop} {es:List (Int × AV)} {ms:Array MapEntry} {c:Nat} (hm:MapR Pr w es ms c) {k:Int} (h:lkp es k = none):∀ x ∈ ms.toList,x.key ≠ .int .i64 k:=fun x hx=>by
 obtain ⟨i,hi⟩:=List.mem_iff_getElem?.1 hx
 rw [Array.getElem?_toList] at hi
 have hil:=(Array.getElem?_eq_some_iff.1 hi).1
 have he:es[i]? = some (es[i]'(by rw [hm.len]; exact hil)):=List.getElem?_eq_getElem _
 rw [hm.key i _ x he hi]
 intro e
 cases e
 exact za3 h _ (List.mem_of_getElem? he) rfl
theorem zao {Pr:Nat->Nat->Prop} {v:Value} {d:AV} (h:z1h v = some d):VR Pr w d v:=by
 unfold z1h at h
 split at h
 ·rename_i cs
  rw [Option.map_eq_some_iff] at h
  obtain ⟨ds,h1,rfl⟩:=h
  obtain ⟨k1,k2⟩:=z5m (Pr:=Pr) (w:=w) h1
  have:=VR.agg (Pr:=Pr) (w:=w) ds cs.toList k1 k2
  simpa using this
 ·exact z2q h
theorem z9x {o:Oper} {t:TypeId} {dst:Nat} (ho:o.op = .makeMap t none) (hdst:o.dst = some dst) (hn:dst < n) (h:SR w0 Pr0 n μ σ a w) (h0:σ.H dst = none) (hT:∀ t,(σ.T t).name ≠ some dst) {ty:TypeId} {K:St->Prop}
  (hK:K (σ.made dst (.mp dst []) (some ⟨1,ty,[],0⟩))) {Q:Exit->Act->World->Prop}:o.wp P a w (fun a' w'=>∃ μ' σ',K σ'∧SR w0 Pr0 n μ' σ' a' w') Q:=by
 have hrun:(execOp a.eval o).run P w = .ok (.value (.map (some w.heap.size))) (w.alloc (.map #[] 0)):=by
  simp only [execOp,ho,Option.map_none]
  rfl
 unfold Oper.wp
 rw [hrun,Oper.upon_value,hdst]
 have hS:=h.newMap (Nat.lt_of_lt_of_le hn h.small) h0 hT (ty:=ty)
 refine ⟨_,_,hK,SR.put hS hn ?_⟩
 intro arr harr
 exact ⟨w.heap.size,#[],0,z03 _ _ _,rfl,(heap_alloc w _).1,⟨Go.MapKept.stamped_empty 0,rfl,fun i e m h=>by simp at h,fun i e m h=>by simp at h⟩⟩
def zqp (σ:St):AV->Option (List (Int × AV))
 | .mp r es=>if (σ.H r).isSome then some es else none
 | .mv es=>some es
 | _=>none
def lkV (ok:Bool) (z:AV):Option AV->AV
 | some v=>if ok then .tup [v,.bool true] else v
 | none=>if ok then .tup [z,.bool false] else z
def zca (σ:St) (d:Nat) (ok:Bool) (m k:IOpd) (z:AV) (K:St->Prop):Prop:=match zqp σ (σ.get m),σ.get k with
 | some es,.int .i64 q=>K (σ.set d (lkV ok z (lkp es q)))
 | _,_=>False
def z9v (σ:St) (m k x:IOpd) (K:St->Prop):Prop:=match σ.get m,σ.get k,σ.byval [] (σ.get x) with
 | .mp r es,.int .i64 q,some (d,fz)=>r < 1000∧(σ.H r).isSome = true∧K ⟨fun t=>remp r (upk es q d) (σ.T t),(σ.fzs fz).H⟩
 | _,_,_=>False
theorem ents_read (h:SR w0 Pr0 n μ σ a w) {v:AV} {u:Value} {es:List (Int × AV)} (he:zqp σ v = some es) (ht:TR (PrOf w0 Pr0 μ σ.H) μ σ.H w v u):∃ g ms c,u = .map (some g)∧w.heap[g]? = some (.map ms c)∧MapR (PrOf w0 Pr0 μ σ.H) w es ms c:=by
 cases v with
 | mp r l =>
  simp only [zqp] at he
  split at he
  ·rename_i hs
   cases he
   obtain ⟨arr,harr⟩:=Option.isSome_iff_exists.1 hs
   obtain ⟨g,ms,c,q1,q2,q3,q4⟩:=ht arr harr
   exact ⟨g,ms,c,q2,q3,q4⟩
  ·cases he
 | mv l =>
  cases he
  have ht':VR (PrOf w0 Pr0 μ σ.H) w (.mv es) u:=ht
  cases ht' with
  | mv _ g ms c hg hp hb hl hst hk hv=>exact ⟨g,ms,c,rfl,hb,⟨hst,hl,hk,hv⟩⟩
 | _=>cases he
theorem z9w {o:Oper} {t kt et:TypeId} {x ix:Operand} {ok:Bool} {im ik:IOpd} {i:TypeInfo} {zv:Value} {z:AV} {dst:Nat} (ho:o.op = .lookup t x ix ok) (ht:P.underlying t = some (.map kt et)) (hkt:P.underlying kt = some (.int .i64)) (hi:P.info? et = some i) (hz:i.zero = some zv) (hzd:z1h zv = some z)
  (hx:z02 x = some im) (hk:z02 ix = some ik) (hdst:o.dst = some dst) (hn:dst < n) (h:SR w0 Pr0 n μ σ a w) {K:St->Prop} (hE:zca σ dst ok im ik z K) {Q:Exit->Act->World->Prop} :
  o.wp P a w (fun a' w'=>∃ μ' σ',K σ'∧SR w0 Pr0 n μ' σ' a' w') Q:=by
 unfold zca at hE
 split at hE
 ·rename_i es q e1 e2
  obtain ⟨g,ms,c,hu,hb,hm⟩:=ents_read h e1 (h.get hx)
  have tk:=h.get hk
  rw [e2] at tk
  have tk':VR (PrOf w0 Pr0 μ σ.H) w (.int .i64 q) (a.eval ix):=tk
  have hkv:=tk'.int_of
  have hK:IsKey (.int .i64) (.int .i64 q):=rfl
  unfold Oper.wp
  rcases hm.lookup q with ⟨l1,l2,_⟩ | ⟨j,e,m,l1,l2,l3,l4,l5,l6,_⟩
  ·have hrun:(execOp a.eval o).run P w = .ok (.value (if ok then .tuple #[zv,.bool false] else zv)) w:=by
    cases ok <;> simp [execOp,ho,Instr.lookup,run_underlying ht,hu,Go.MapKept.run_getObj_map hb,hkv,run_checkKey hkt hK,run_findKey hkt l2,zeroValue,typeInfo,hi,hz]
   rw [hrun,Oper.upon_value,hdst]
   rw [l1] at hE
   refine ⟨μ,_,hE,SR.put h hn (TR.of_VR ?_)⟩
   cases ok with
   | true=>exact .tup [z,.bool false] [zv,.bool false] rfl (fun j c v hc hv=>by
     match j with
     | 0=>cases hc; cases hv; exact zao hzd
     | 1=>cases hc; cases hv; exact .bool _
     | j + 2=>simp at hc)
   | false=>exact zao hzd
  ·have hrun:(execOp a.eval o).run P w = .ok (.value (if ok then .tuple #[m.val,.bool true] else m.val)) w:=by
    cases ok <;> simp [execOp,ho,Instr.lookup,run_underlying ht,hu,Go.MapKept.run_getObj_map hb,hkv,run_checkKey hkt hK,run_findKey hkt l5]
   rw [hrun,Oper.upon_value,hdst]
   rw [l1] at hE
   refine ⟨μ,_,hE,SR.put h hn (TR.of_VR ?_)⟩
   cases ok with
   | true=>exact .tup [e.2,.bool true] [m.val,.bool true] rfl (fun j c v hc hv=>by
     match j with
     | 0=>cases hc; cases hv; exact l6
     | 1=>cases hc; cases hv; exact .bool _
     | j + 2=>simp at hc)
   | false=>exact l6
 ·exact hE.elim
theorem zc9 {o:Oper} {t kt et:TypeId} {x ix y:Operand} {im ik iy:IOpd} (ho:o.op = .mapUpdate t x ix y) (ht:P.underlying t = some (.map kt et)) (hkt:P.underlying kt = some (.int .i64))
  (hx:z02 x = some im) (hk:z02 ix = some ik) (hy:z02 y = some iy) (hdst:o.dst = none) (h:SR w0 Pr0 n μ σ a w) {K:St->Prop} (hE:z9v σ im ik iy K) {Q:Exit->Act->World->Prop} :
  o.wp P a w (fun a' w'=>∃ μ' σ',K σ'∧SR w0 Pr0 n μ' σ' a' w') Q:=by
 unfold z9v at hE
 split at hE
 ·rename_i r es q d fz e1 e2 e3
  obtain ⟨hr,hs,hK⟩:=hE
  have tx:=h.get hx
  rw [e1] at tx
  have tk:=h.get hk
  rw [e2] at tk
  have tk':VR (PrOf w0 Pr0 μ σ.H) w (.int .i64 q) (a.eval ix):=tk
  have hkv:=tk'.int_of
  have hIK:IsKey (.int .i64) (.int .i64 q):=rfl
  have hS:SR w0 Pr0 n μ (σ.fzs fz) a w:=SR.fzs h
  have hv:=h.byval e3 (h.get hy) hS z1x
  have tx2:=TR.fzs fz h tx
  obtain ⟨arr0,harr0⟩:=Option.isSome_iff_exists.1 hs
  obtain ⟨arr,harr,_⟩:=z7j (l:=fz) harr0
  obtain ⟨g,ms,c,hg,hu,hb,hm⟩:=tx2 arr harr
  have eT:(fun t=>remp r (upk es q d) (σ.T t)) = fun t=>remp r (upk es q d) ((σ.fzs fz).T t):=by rw [z4i]
  rw [eT] at hK
  have fin:∀ (ms':Array MapEntry) (c':Nat),(execOp a.eval o).run P w = .ok .skip { w with heap:=w.heap.setIfInBounds g (.map ms' c') }->MapR (PrOf w0 Pr0 μ (σ.fzs fz).H) w (upk es q d) ms' c' ->
    o.wp P a w (fun a' w'=>∃ μ' σ',K σ'∧SR w0 Pr0 n μ' σ' a' w') Q:=by
   intro ms' c' hrun hm'
   unfold Oper.wp
   rw [hrun,Oper.upon_skip,hdst]
   have hgB:=(h.range r g hg).1
   have hB:Below w0.w.heap.size w0.w { w with heap:=w.heap.setIfInBounds g (.map ms' c') } :=
    h.below.trans ⟨rfl,rfl,rfl,by simp,fun k hk=>(heap_set hb).2 k (by omega)⟩
   exact ⟨μ,_,hK,SR.remap hS hr hg harr hb hB (by simp) (fun k _ hne=>(heap_set hb).2 k hne) (heap_set hb).1 hm'⟩
  rcases hm.lookup q with ⟨l1,l2,l3⟩ | ⟨j,e,m,l1,l2,l3,l4,l5,l6,l7⟩
  ·refine fin (ms.push ⟨.int .i64 q,a.eval y,c⟩) (c + 1) ?_ ?_
   ·simp [execOp,ho,Instr.mapUpdate,run_underlying ht,hu,Go.MapKept.run_getObj_map hb,hkv,run_checkKey hkt hIK,run_findKey hkt l2,Go.MapKept.run_setObj_map _ hb]
   ·rw [l3]
    have key:∀ (i:Nat) (e:Int × AV) (m:MapEntry),(es ++ [(q,d)])[i]? = some e->(ms.push ⟨.int .i64 q,a.eval y,c⟩)[i]? = some m->(es[i]? = some e∧ms[i]? = some m)∨(e = (q,d)∧m = ⟨.int .i64 q,a.eval y,c⟩):=by
     intro i e m h1 h2
     rw [Array.getElem?_push] at h2
     by_cases hi:i = ms.size
     ·rw [if_pos hi] at h2
      rw [List.getElem?_append_right (by rw [hi,hm.len]; exact Nat.le_refl _),hi,hm.len,Nat.sub_self] at h1
      cases h1; cases h2
      exact .inr ⟨rfl,rfl⟩
     ·rw [if_neg hi] at h2
      have:=(Array.getElem?_eq_some_iff.1 h2).1
      rw [List.getElem?_append_left (by rw [hm.len]; exact this)] at h1
      exact .inl ⟨h1,h2⟩
    refine ⟨Go.MapKept.stamped_push hm.st (hm.fresh l1),by rw [List.length_append,Array.size_push,hm.len]; rfl,fun i e m h1 h2=>?_,fun i e m h1 h2=>?_⟩
    ·rcases key i e m h1 h2 with ⟨q1,q2⟩ | ⟨rfl,rfl⟩
     ·exact hm.key i e m q1 q2
     ·rfl
    ·rcases key i e m h1 h2 with ⟨q1,q2⟩ | ⟨rfl,rfl⟩
     ·exact hm.val i e m q1 q2
     ·exact hv
  ·refine fin (ms.modify j fun x=>{ x with key:=.int .i64 q,val:=a.eval y }) c ?_ ?_
   ·simp [execOp,ho,Instr.mapUpdate,run_underlying ht,hu,Go.MapKept.run_getObj_map hb,hkv,run_checkKey hkt hIK,run_findKey hkt l5,l3,l4,run_keyThatStays hIK,Go.MapKept.run_setObj_map _ hb]
   ·rw [l7]
    have key:∀ (i:Nat) (e':Int × AV) (m':MapEntry),(es.set j (q,d))[i]? = some e'->(ms.modify j fun x=>{ x with key:=.int .i64 q,val:=a.eval y })[i]? = some m'->(es[i]? = some e'∧ms[i]? = some m')∨(e' = (q,d)∧m'.key = .int .i64 q∧m'.val = a.eval y):=by
     intro i e' m' h1 h2
     rw [Array.getElem?_modify] at h2
     by_cases hi:j = i
     ·subst hi
      rw [if_pos rfl,l3] at h2
      cases h2
      rw [List.getElem?_set_self (List.getElem?_eq_some_iff.1 l2).1] at h1
      cases h1
      exact .inr ⟨rfl,rfl,rfl⟩
     ·rw [if_neg hi] at h2
      rw [List.getElem?_set_ne hi] at h1
      exact .inl ⟨h1,h2⟩
    refine ⟨Go.MapKept.stamped_modify hm.st j _ (fun _ _=>rfl) (fun x _ hx=>by rw [l3] at hx; cases hx; exact l4.symm),by rw [List.length_set,Array.size_modify,hm.len],fun i e m h1 h2=>?_,fun i e m h1 h2=>?_⟩
    ·rcases key i e m h1 h2 with ⟨q1,q2⟩ | ⟨rfl,q2,q3⟩
     ·exact hm.key i e m q1 q2
     ·exact q2
    ·rcases key i e m h1 h2 with ⟨q1,q2⟩ | ⟨rfl,q2,q3⟩
     ·exact hm.val i e m q1 q2
     ·rw [q3]; exact hv
 ·exact hE.elim
end
end Go.Proofs.YtlhblpbfhfhlpaaGreatDoor
end
section
namespace Go.Proofs.YtlhblpbfhfhlpaaGreatDoor
open Go.RowKit
structure MFn (P:Program) (f:FuncId) (args:List AV) (H:Nat->Option Arr) (r:AV) (H':Nat->Option Arr):Prop where
 ok:z1p P f = true
 calls:∀ (w0:Start) (Pr0:Nat->Nat->Prop) (n:Nat) (μ:Nat->Option Nat) (T:Nat->AV) (a:Act) (w:World) (vs:List Value),SR w0 Pr0 n μ ⟨T,H⟩ a w->args.length = vs.length ->
  (∀ (j:Nat) (d:AV) (v:Value),args[j]? = some d->vs[j]? = some v->TR (PrOf w0 Pr0 μ H) μ H w d v) ->
  Calls P f vs.toArray w fun e w'=>∃ v μ',e = .returned v∧SR w0 Pr0 n μ' ⟨T,H'⟩ a w'∧VR (PrOf w0 Pr0 μ' H') w' r v
structure GS where
 box:Arr
 gl:List (Nat × Nat × Nat × Nat × Value)
 ol:List (Nat × Arr)
def prv (r i:Nat):Nat:=500 + (8 * r + i % 8) % 500
def idxPrv (r s:Nat):Option Nat:=if 500≤s∧s < 1000∧(s - 500 + (500 - 8 * r % 500)) % 500 < 8 then some ((s - 500 + (500 - 8 * r % 500)) % 500) else none
def gAV (r:Nat) (gl:List (Nat × Nat × Nat × Nat × Value)) (j:Nat):AV:=match gl.find? (fun p=>p.1 == j) with
 | some (_,i,off,len,u)=>.vrs (prv r i) off len u
 | none=>.und
def gOb (ol:List (Nat × Arr)) (i:Nat):Option Arr:=(ol.find? fun p=>p.1 == i).map (·.2)
def gsIn (T:Nat->AV) (H:Nat->Option Arr) (r:Nat) (S:GS):Prop :=
 H r = some S.box∧(∀ p,p ∈ S.gl->p.1 < 100∧T (vt r p.1) = .vrs (prv r p.2.1) p.2.2.1 p.2.2.2.1 p.2.2.2.2)∧∀ i,i ∈ [0,1,2,3,4,5,6,7]->H (prv r i) = gOb S.ol i
def sweepG (r:Nat) (d:AV):AV:=match d.name with
 | some s=>if (idxPrv r s).isSome then .und else d
 | none=>d
def zcw (σ : St) (r : Nat) (S : GS) : St :=
  ⟨fun t => if vt r 0 ≤ t ∧ t < vt r 0 + 100 then gAV r S.gl (t - vt r 0) else sweepG r (σ.T t),
   fun s => if s = r then some S.box else match idxPrv r s with
    | some k => gOb S.ol k
    | none => σ.H s⟩
def bkA (r:Nat):AV->AV
 | .ptr _ i f=>.ptr r i f
 | d=>d
structure GFn (P:Program) (f:FuncId) (args:List AV) (S:GS) (res:AV) (R:GS->Prop):Prop where
 ok:z1p P f = true
 calls:∀ (w0:Start) (Pr0:Nat->Nat->Prop) (n:Nat) (μ:Nat->Option Nat) (T:Nat->AV) (H:Nat->Option Arr) (a:Act) (w:World) (vs:List Value) (r:Nat),(r < 500∨r = 1000)->SR w0 Pr0 n μ ⟨T,H⟩ a w->gsIn T H r S->args.length = vs.length ->
  (∀ (j:Nat) (d:AV) (v:Value),args[j]? = some d->vs[j]? = some v->TR (PrOf w0 Pr0 μ H) μ H w (bkA r d) v) ->
  Calls P f vs.toArray w fun e w'=>∃ v μ' S',R S'∧e = .returned v∧SR w0 Pr0 n μ' (zcw ⟨T,H⟩ r S') a w'∧VR (PrOf w0 Pr0 μ' (zcw ⟨T,H⟩ r S').H) w' res v
inductive XOp where
 | op (k:List Nat) (r:ROp)
 | nilck (dst:Nat) (x:IOpd) (g:Option (Nat × Bool))
 | mkclo (dst:Nat) (f:FuncId) (x:IOpd)
 | mcall (dst:Nat) (f:IOpd) (xs:List IOpd)
 | mkmap (dst:Nat) (ty:TypeId)
 | mlook (dst:Nat) (ok:Bool) (m k:IOpd) (z:AV) (g:Option (Nat × Bool))
 | mupd (m k x:IOpd)
 | wcall (dst:Nat) (f:IOpd) (xs:List IOpd)
 | gcall (dst:Nat) (f:IOpd) (xs:List IOpd)
def St.mval (σ:St):AV->Option (AV × List Nat)
 | .ptr r i f=>some (.ptr r i f,[])
 | v=>σ.byval [] v
def St.mvals (σ:St):List AV->Option (List AV × List Nat)
 | []=>some ([],[])
 | v :: l=>match σ.mval v with
  | some (d,f)=>match σ.mvals l with
   | some (ds,fs)=>some (d :: ds,f ++ fs)
   | none=>none
  | none=>none
def St.wval (σ:St):AV->Option (AV × List Nat)
 | .rs r off len=>some (.rs r off len,[])
 | v=>σ.mval v
def St.wvals (σ:St):List AV->Option (List AV × List Nat)
 | []=>some ([],[])
 | v :: l=>match σ.wval v with
  | some (d,f)=>match σ.wvals l with
   | some (ds,fs)=>some (d :: ds,f ++ fs)
   | none=>none
  | none=>none
def zcg (r:ROp):List Nat:=if r.io.pure then [] else r.dst.toList
def zc7 (σ:St) (d:Nat) (x:IOpd) (K:St->Prop):Prop:=match σ.get x with
 | .ptr r i f=>(σ.H r).isSome = true∧K (σ.set d (.ptr r i f))
 | .rp cs=>K (σ.set d (.rp cs))
 | _=>False
def z1j (P:Program) (C:FuncId->List AV->AV->Prop):XOp->St->(St->Prop)->Prop
 | .op k r,σ,K=>z0f C [r] (σ.kills k) K
 | .nilck d x g,σ,K=>z1g σ g (fun σ=>zc7 σ d x K) (fun σ=>K (σ.set d (.tup [])))
 | .mkclo d f x,σ,K=>match σ.get x with
  | .ptr r 0 0=>(σ.H r).isSome = true∧K (σ.set d (.clom f r))
  | _=>False
 | .mcall d fx xs,σ,K=>match σ.mvals (xs.map σ.get) with
  | some (ds,fz)=>match σ.get fx with
   | .clo f [] []=>∃ r H',MFn P f ds (σ.fzs fz).H r H'∧K ⟨upd σ.T d r,H'⟩
   | .clom f q=>((σ.fzs fz).H q).isSome = true∧∃ r H',MFn P f (ds ++ [.ptr q 0 0]) (σ.fzs fz).H r H'∧K ⟨upd σ.T d r,H'⟩
   | _=>False
  | none=>False
 | .mkmap d ty,σ,K=>K ((σ.kill d).made d (.mp d []) (some ⟨1,ty,[],0⟩))
 | .mlook d ok m k z g,σ,K=>z1g σ g (fun σ=>zca σ d ok m k z K) (fun σ=>K (σ.set d (.tup [])))
 | .mupd m k x,σ,K=>z9v σ m k x K
 | .wcall d fx xs,σ,K=>match σ.wvals (xs.map σ.get) with
  | some (ds,fz)=>match σ.get fx with
   | .clo f [] []=>∃ r H',MFn P f ds (σ.fzs fz).H r H'∧K ⟨upd σ.T d r,H'⟩
   | _=>False
  | none=>False
 | .gcall d fx xs,σ,K=>match σ.byvals [] (xs.map σ.get) with
  | some (ds,fz)=>match σ.get fx with
   | .clom f r=>(r < 500∨r = 1000)∧∃ S res R,GFn P f (ds ++ [.ptr 1000 0 0]) S res R∧gsIn (σ.fzs fz).T (σ.fzs fz).H r S∧∀ S',R S'->K ⟨upd (zcw (σ.fzs fz) r S').T d res,(zcw (σ.fzs fz) r S').H⟩
   | _=>False
  | none=>False
def z13 (P:Program) (C:FuncId->List AV->AV->Prop):List XOp->St->(St->Prop)->Prop
 | [],σ,K=>K σ
 | x :: l,σ,K=>z1j P C x σ fun σ'=>z13 P C l σ' K
section
variable {pv:Bool} {P:Program} {w0:Start} {Pr0:Nat->Nat->Prop} {n:Nat} {μ:Nat->Option Nat} {σ:St} {a:Act} {w:World}
theorem mval_TR (h:SR w0 Pr0 n μ σ a w) {d d':AV} {f g:List Nat} {v:Value} (hm:σ.mval d = some (d',f)) (ht:TR (PrOf w0 Pr0 μ σ.H) μ σ.H w d v) (hg:∀ s,s ∈ f->s ∈ g):TR (PrOf w0 Pr0 μ (σ.fzs g).H) μ (σ.fzs g).H w d' v:=by
 have hby:σ.byval [] d = some (d',f)->TR (PrOf w0 Pr0 μ (σ.fzs g).H) μ (σ.fzs g).H w d' v:=fun e =>
  TR.of_VR (h.byval e ht (SR.fzs h) (fun s arr hs=>let ⟨a',q1,q2,q3⟩:=z7j (l:=g) hs; ⟨a',q1,q2,fun hm=>q3 (hg s hm)⟩))
 cases d with
 | ptr r i f'=>cases hm; exact TR.fzs g h ht
 | _=>exact hby hm
theorem zq6 (h:SR w0 Pr0 n μ σ a w):∀ {l ds:List AV} {f g:List Nat} {vs:List Value},σ.mvals l = some (ds,f)->(∀ s,s ∈ f->s ∈ g)->l.length = vs.length->(∀ (j:Nat) (d:AV) (v:Value),l[j]? = some d->vs[j]? = some v->TR (PrOf w0 Pr0 μ σ.H) μ σ.H w d v) ->
  ds.length = vs.length∧∀ (j:Nat) (d:AV) (v:Value),ds[j]? = some d->vs[j]? = some v->TR (PrOf w0 Pr0 μ (σ.fzs g).H) μ (σ.fzs g).H w d v
 | [],ds,f,g,vs,hm,hg,hl,ht=>by
  cases hm
  exact ⟨hl,fun j d v hj=>by simp at hj⟩
 | v0 :: l,ds,f,g,[],hm,hg,hl,ht=>by simp at hl
 | v0 :: l,ds,f,g,u :: vs,hm,hg,hl,ht=>by
  simp only [St.mvals] at hm
  split at hm
  ·rename_i d0 f0 h0
   split at hm
   ·rename_i ds0 fs0 h1
    cases hm
    obtain ⟨k1,k2⟩:=zq6 h h1 (g:=g) (fun s hs=>hg s (List.mem_append.2 (.inr hs))) (by simpa using hl) (fun j d v hj hv=>ht (j + 1) d v (by simpa using hj) (by simpa using hv))
    refine ⟨by simp [k1],fun j d v hj hv=>?_⟩
    cases j with
    | zero=>cases hj; cases hv; exact mval_TR h h0 (ht 0 v0 u rfl rfl) (fun s hs=>hg s (List.mem_append.2 (.inl hs)))
    | succ j=>exact k2 j d v (by simpa using hj) (by simpa using hv)
   ·cases hm
  ·cases hm
theorem za0 {o:Oper} {c:Call} {f:Operand} {fx:IOpd} {xs:List IOpd} {dst:Nat} (ho:o.op = .call c) (hc:c.callee = .value f) (hf:z02 f = some fx) (hxs:z0k c.args.toList = some xs) (hdst:o.dst = some dst) (hn:dst < n)
  (h:SR w0 Pr0 n μ σ a w) {K:St->Prop} {C:FuncId->List AV->AV->Prop} (hE:z1j P C (.mcall dst fx xs) σ K) {Q:Exit->Act->World->Prop} :
  o.wp P a w (fun a' w'=>∃ μ' σ',K σ'∧SR w0 Pr0 n μ' σ' a' w') Q:=by
 simp only [z1j] at hE
 have tf:=h.get hf
 split at hE
 ·rename_i ds fz hm
  obtain ⟨l1,t1⟩:=h.gets hxs
  have hS:SR w0 Pr0 n μ (σ.fzs fz) a w:=SR.fzs h
  obtain ⟨l2,b2⟩:=zq6 h hm (g:=fz) (fun s hs=>hs) l1 t1
  have eT:(⟨σ.T,(σ.fzs fz).H⟩:St) = σ.fzs fz:=by rw [← z4i fz σ]
  have hS2:SR w0 Pr0 n μ ⟨σ.T,(σ.fzs fz).H⟩ a w:=by rw [eT]; exact hS
  -- the call itself
  have fin:∀ {g:FuncId} {es:List AV} {vs:List Value} {r:AV} {H':Nat->Option Arr},MFn P g es (σ.fzs fz).H r H'->K ⟨upd σ.T dst r,H'⟩->(execOp a.eval o).run P w = .ok (.enter g vs.toArray) w->es.length = vs.length ->
    (∀ (j:Nat) (d:AV) (v:Value),es[j]? = some d->vs[j]? = some v->TR (PrOf w0 Pr0 μ (σ.fzs fz).H) μ (σ.fzs fz).H w d v)->o.wp P a w (fun a' w'=>∃ μ' σ',K σ'∧SR w0 Pr0 n μ' σ' a' w') Q:=by
   intro g es vs r H' hM hK hrun hl ht
   unfold Oper.wp
   rw [hrun,Oper.upon_enter]
   refine (hM.calls w0 Pr0 n μ σ.T a w vs hS2 hl ht).mono ?_
   rintro e w' ⟨v,μ',rfl,hS',hv⟩
   show ∃ μ' σ',K σ'∧SR w0 Pr0 n μ' σ' (a.put o.dst v) w'
   rw [hdst]
   exact ⟨μ',_,hK,hS'.put hn (TR.of_VR hv)⟩
  split at hE
  ·rename_i g e1
   obtain ⟨r,H',hM,hK⟩:=hE
   rw [e1] at tf
   have tf':VR (PrOf w0 Pr0 μ σ.H) w (.clo g [] []) (a.eval f):=tf
   generalize hvf:a.eval f = vf at tf'
   cases tf' with
   | clo _ _ _ lf lc hf1 hc1 r1 r2 =>
    obtain rfl:lf = []:=List.length_eq_zero_iff.1 hf1.symm
    obtain rfl:lc = []:=List.length_eq_zero_iff.1 hc1.symm
    refine fin hM hK (vs:=c.args.toList.map a.eval) ?_ l2 b2
    simp only [execOp,ho,resolve,hc,hvf,Deferred.ofValue]
    simp only [Sem.run_bind,Sem.run_pure,Result.andThen_ok,invoke]
    have e:([]:List Value).toArray ++ Array.map a.eval c.args ++ ([]:List Value).toArray = (c.args.toList.map a.eval).toArray:=by
     apply Array.ext'; simp
    rw [e]
    exact z2r hM.ok
  ·rename_i g q e1
   obtain ⟨hq,r,H',hM,hK⟩:=hE
   rw [e1] at tf
   obtain ⟨arr,harr⟩:=Option.isSome_iff_exists.1 hq
   have tf2:=TR.fzs fz h tf
   obtain ⟨b,hb,hvf⟩:=tf2 arr harr
   refine fin hM hK (vs:=c.args.toList.map a.eval ++ [.pointer (some ⟨b,0,none⟩)]) ?_ (by simp [l2]) ?_
   ·simp only [execOp,ho,resolve,hc,hvf,Deferred.ofValue]
    simp only [Sem.run_bind,Sem.run_pure,Result.andThen_ok,invoke]
    have e:#[] ++ Array.map a.eval c.args ++ #[Value.pointer (some ⟨b,0,none⟩)] = (c.args.toList.map a.eval ++ [Value.pointer (some ⟨b,0,none⟩)]).toArray:=by
     apply Array.ext'; simp
    rw [e]
    exact z2r hM.ok
   ·intro j d v hj hv
    rcases Nat.lt_or_ge j ds.length with h1 | h1
    ·rw [List.getElem?_append_left h1] at hj
     rw [List.getElem?_append_left (by omega)] at hv
     exact b2 j d v hj hv
    ·rw [List.getElem?_append_right h1] at hj
     rw [List.getElem?_append_right (by omega)] at hv
     have:j - ds.length = 0:=by
      have:=(List.getElem?_eq_some_iff.1 hj).1
      simp at this; omega
     rw [this] at hj
     rw [show j - (List.map a.eval c.args.toList).length = 0 by omega] at hv
     cases hj; cases hv
     intro arr2 ha2
     refine ⟨b,hb,?_⟩
     simp
  ·exact hE.elim
 ·exact hE.elim
theorem wval_TR (h:SR w0 Pr0 n μ σ a w) {d d':AV} {f g:List Nat} {v:Value} (hm:σ.wval d = some (d',f)) (ht:TR (PrOf w0 Pr0 μ σ.H) μ σ.H w d v) (hg:∀ s,s ∈ f->s ∈ g):TR (PrOf w0 Pr0 μ (σ.fzs g).H) μ (σ.fzs g).H w d' v:=by
 cases d with
 | rs r off len=>cases hm; exact TR.fzs g h ht
 | _=>refine mval_TR h ?_ ht hg; exact hm
theorem zmn (h:SR w0 Pr0 n μ σ a w):∀ {l ds:List AV} {f g:List Nat} {vs:List Value},σ.wvals l = some (ds,f)->(∀ s,s ∈ f->s ∈ g)->l.length = vs.length->(∀ (j:Nat) (d:AV) (v:Value),l[j]? = some d->vs[j]? = some v->TR (PrOf w0 Pr0 μ σ.H) μ σ.H w d v) ->
  ds.length = vs.length∧∀ (j:Nat) (d:AV) (v:Value),ds[j]? = some d->vs[j]? = some v->TR (PrOf w0 Pr0 μ (σ.fzs g).H) μ (σ.fzs g).H w d v
 | [],ds,f,g,vs,hm,hg,hl,ht=>by
  cases hm
  exact ⟨hl,fun j d v hj=>by simp at hj⟩
 | v0 :: l,ds,f,g,[],hm,hg,hl,ht=>by simp at hl
 | v0 :: l,ds,f,g,u :: vs,hm,hg,hl,ht=>by
  simp only [St.wvals] at hm
  split at hm
  ·rename_i d0 f0 h0
   split at hm
   ·rename_i ds0 fs0 h1
    cases hm
    obtain ⟨k1,k2⟩:=zmn h h1 (g:=g) (fun s hs=>hg s (List.mem_append.2 (.inr hs))) (by simpa using hl) (fun j d v hj hv=>ht (j + 1) d v (by simpa using hj) (by simpa using hv))
    refine ⟨by simp [k1],fun j d v hj hv=>?_⟩
    cases j with
    | zero=>cases hj; cases hv; exact wval_TR h h0 (ht 0 v0 u rfl rfl) (fun s hs=>hg s (List.mem_append.2 (.inl hs)))
    | succ j=>exact k2 j d v (by simpa using hj) (by simpa using hv)
   ·cases hm
  ·cases hm
theorem z8m {o:Oper} {c:Call} {f:Operand} {fx:IOpd} {xs:List IOpd} {dst:Nat} (ho:o.op = .call c) (hc:c.callee = .value f) (hf:z02 f = some fx) (hxs:z0k c.args.toList = some xs) (hdst:o.dst = some dst) (hn:dst < n)
  (h:SR w0 Pr0 n μ σ a w) {K:St->Prop} {C:FuncId->List AV->AV->Prop} (hE:z1j P C (.wcall dst fx xs) σ K) {Q:Exit->Act->World->Prop} :
  o.wp P a w (fun a' w'=>∃ μ' σ',K σ'∧SR w0 Pr0 n μ' σ' a' w') Q:=by
 simp only [z1j] at hE
 have tf:=h.get hf
 split at hE
 ·rename_i ds fz hm
  obtain ⟨l1,t1⟩:=h.gets hxs
  have hS:SR w0 Pr0 n μ (σ.fzs fz) a w:=SR.fzs h
  obtain ⟨l2,b2⟩:=zmn h hm (g:=fz) (fun s hs=>hs) l1 t1
  have eT:(⟨σ.T,(σ.fzs fz).H⟩:St) = σ.fzs fz:=by rw [← z4i fz σ]
  have hS2:SR w0 Pr0 n μ ⟨σ.T,(σ.fzs fz).H⟩ a w:=by rw [eT]; exact hS
  -- the call itself
  have fin:∀ {g:FuncId} {es:List AV} {vs:List Value} {r:AV} {H':Nat->Option Arr},MFn P g es (σ.fzs fz).H r H'->K ⟨upd σ.T dst r,H'⟩->(execOp a.eval o).run P w = .ok (.enter g vs.toArray) w->es.length = vs.length ->
    (∀ (j:Nat) (d:AV) (v:Value),es[j]? = some d->vs[j]? = some v->TR (PrOf w0 Pr0 μ (σ.fzs fz).H) μ (σ.fzs fz).H w d v)->o.wp P a w (fun a' w'=>∃ μ' σ',K σ'∧SR w0 Pr0 n μ' σ' a' w') Q:=by
   intro g es vs r H' hM hK hrun hl ht
   unfold Oper.wp
   rw [hrun,Oper.upon_enter]
   refine (hM.calls w0 Pr0 n μ σ.T a w vs hS2 hl ht).mono ?_
   rintro e w' ⟨v,μ',rfl,hS',hv⟩
   show ∃ μ' σ',K σ'∧SR w0 Pr0 n μ' σ' (a.put o.dst v) w'
   rw [hdst]
   exact ⟨μ',_,hK,hS'.put hn (TR.of_VR hv)⟩
  split at hE
  ·rename_i g e1
   obtain ⟨r,H',hM,hK⟩:=hE
   rw [e1] at tf
   have tf':VR (PrOf w0 Pr0 μ σ.H) w (.clo g [] []) (a.eval f):=tf
   generalize hvf:a.eval f = vf at tf'
   cases tf' with
   | clo _ _ _ lf lc hf1 hc1 r1 r2 =>
    obtain rfl:lf = []:=List.length_eq_zero_iff.1 hf1.symm
    obtain rfl:lc = []:=List.length_eq_zero_iff.1 hc1.symm
    refine fin hM hK (vs:=c.args.toList.map a.eval) ?_ l2 b2
    simp only [execOp,ho,resolve,hc,hvf,Deferred.ofValue]
    simp only [Sem.run_bind,Sem.run_pure,Result.andThen_ok,invoke]
    have e:([]:List Value).toArray ++ Array.map a.eval c.args ++ ([]:List Value).toArray = (c.args.toList.map a.eval).toArray:=by
     apply Array.ext'; simp
    rw [e]
    exact z2r hM.ok
  ·exact hE.elim
 ·exact hE.elim
theorem zag {o:Oper} {c:Call} {f:Operand} {fx:IOpd} {xs:List IOpd} {dst:Nat} (ho:o.op = .call c) (hc:c.callee = .value f) (hf:z02 f = some fx) (hxs:z0k c.args.toList = some xs) (hdst:o.dst = some dst) (hn:dst < n)
  (h:SR w0 Pr0 n μ σ a w) {K:St->Prop} {C:FuncId->List AV->AV->Prop} (hE:z1j P C (.gcall dst fx xs) σ K) {Q:Exit->Act->World->Prop} :
  o.wp P a w (fun a' w'=>∃ μ' σ',K σ'∧SR w0 Pr0 n μ' σ' a' w') Q:=by
 simp only [z1j] at hE
 have tf:=h.get hf
 split at hE
 ·rename_i ds fz hm
  obtain ⟨l1,t1⟩:=h.gets hxs
  have hS:SR w0 Pr0 n μ (σ.fzs fz) a w:=SR.fzs h
  obtain ⟨l2,b2⟩:=h.byvals hS hm l1 t1 z1x
  split at hE
  ·rename_i g q e1
   obtain ⟨hr,S,res,R,hG,hgs,hK⟩:=hE
   rw [e1] at tf
   have tf2:=TR.fzs fz h tf
   obtain ⟨b,hb,hvf⟩:=tf2 S.box hgs.1
   have hrun:(execOp a.eval o).run P w = .ok (.enter g (c.args.toList.map a.eval ++ [Value.pointer (some ⟨b,0,none⟩)]).toArray) w:=by
    simp only [execOp,ho,resolve,hc,hvf,Deferred.ofValue]
    simp only [Sem.run_bind,Sem.run_pure,Result.andThen_ok,invoke]
    have e:#[] ++ Array.map a.eval c.args ++ #[Value.pointer (some ⟨b,0,none⟩)] = (c.args.toList.map a.eval ++ [Value.pointer (some ⟨b,0,none⟩)]).toArray:=by
     apply Array.ext'; simp
    rw [e]
    exact z2r hG.ok
   unfold Oper.wp
   rw [hrun,Oper.upon_enter]
   refine (hG.calls w0 Pr0 n μ (σ.fzs fz).T (σ.fzs fz).H a w _ q hr hS hgs (by simp [l2]) (fun j d v hj hv=>?_)).mono ?_
   ·rcases Nat.lt_or_ge j ds.length with h1 | h1
    ·rw [List.getElem?_append_left h1] at hj
     rw [List.getElem?_append_left (by omega)] at hv
     have:=b2 j d v hj hv
     have hnm:bkA q d = d:=by
      cases d with
      | ptr r i f=>exact absurd this (by intro h; cases h)
      | _=>rfl
     rw [hnm]
     exact TR.of_VR this
    ·rw [List.getElem?_append_right h1] at hj
     rw [List.getElem?_append_right (by omega)] at hv
     have:j - ds.length = 0:=by
      have:=(List.getElem?_eq_some_iff.1 hj).1
      simp at this; omega
     rw [this] at hj
     rw [show j - (List.map a.eval c.args.toList).length = 0 by omega] at hv
     cases hj; cases hv
     intro arr2 ha2
     refine ⟨b,hb,?_⟩
     simp
   ·rintro e w' ⟨v,μ',S',hR,rfl,hS',hv⟩
    show ∃ μ' σ',K σ'∧SR w0 Pr0 n μ' σ' (a.put o.dst v) w'
    rw [hdst]
    exact ⟨μ',_,hK S' hR,hS'.put hn (TR.of_VR hv)⟩
  ·exact hE.elim
 ·exact hE.elim
theorem z9t {o:Oper} {x:Operand} {ix:IOpd} {dst:Nat} (ho:o.op = .nilCheck x) (hx:z02 x = some ix) (hdst:o.dst = some dst) (hn:dst < n)
  (h:SR w0 Pr0 n μ σ a w) {K:St->Prop} (hE:zc7 σ dst ix K) {Q:Exit->Act->World->Prop} :
  o.wp P a w (fun a' w'=>∃ μ' σ',K σ'∧SR w0 Pr0 n μ' σ' a' w') Q:=by
 unfold zc7 at hE
 have tx:=h.get hx
 split at hE
 ·rename_i r i f e1
  obtain ⟨hs,hK⟩:=hE
  rw [e1] at tx
  obtain ⟨arr,harr⟩:=Option.isSome_iff_exists.1 hs
  have tx':=tx
  obtain ⟨g,hg,hv⟩:=tx arr harr
  have hrun:(execOp a.eval o).run P w = .ok (.value (a.eval x)) w:=by
   simp only [execOp,ho,hv]
   rfl
  unfold Oper.wp
  rw [hrun,Oper.upon_value,hdst]
  exact ⟨μ,_,hK,h.put hn tx'⟩
 ·rename_i cs e1
  rw [e1] at tx
  have tx':VR (PrOf w0 Pr0 μ σ.H) w (.rp cs) (a.eval x):=tx
  obtain ⟨b,off,hv⟩:∃ b off,a.eval x = .pointer (some ⟨b,off,none⟩):=by
   generalize a.eval x = v at tx'
   cases tx' with
   | rp _ b off u hb hc h=>exact ⟨b,off,rfl⟩
  have hrun:(execOp a.eval o).run P w = .ok (.value (a.eval x)) w:=by
   simp only [execOp,ho,hv]
   rfl
  unfold Oper.wp
  rw [hrun,Oper.upon_value,hdst]
  exact ⟨μ,_,hE,h.put hn tx⟩
 ·exact hE.elim
theorem z9y {o:Oper} {f:FuncId} {first caps:Array Operand} {x:Operand} {ix:IOpd} {dst:Nat} (ho:o.op = .makeFunc (.func f) first caps) (h1:first.toList = []) (h2:caps.toList = [x]) (hx:z02 x = some ix) (hdst:o.dst = some dst) (hn:dst < n)
  (h:SR w0 Pr0 n μ σ a w) {K:St->Prop} {C:FuncId->List AV->AV->Prop} (hE:z1j P C (.mkclo dst f ix) σ K) {Q:Exit->Act->World->Prop} :
  o.wp P a w (fun a' w'=>∃ μ' σ',K σ'∧SR w0 Pr0 n μ' σ' a' w') Q:=by
 simp only [z1j] at hE
 have tx:=h.get hx
 split at hE
 ·rename_i r e1
  obtain ⟨hs,hK⟩:=hE
  rw [e1] at tx
  obtain rfl:first = #[]:=by apply Array.ext'; simpa using h1
  obtain rfl:caps = #[x]:=by apply Array.ext'; simpa using h2
  have hrun:(execOp a.eval o).run P w = .ok (.value (.func (.func f) #[] #[a.eval x])) w:=by
   simp only [execOp,ho,Instr.makeFunc]
   simp
  unfold Oper.wp
  rw [hrun,Oper.upon_value,hdst]
  refine ⟨μ,_,hK,h.put hn ?_⟩
  intro arr harr
  obtain ⟨g,hg,hv⟩:=tx arr harr
  refine ⟨g,hg,?_⟩
  rw [hv]; simp
 ·exact hE.elim
def IsX (pv:Bool) (P:Program) (ops:Array Oper) (n:Nat) (o:Oper):XOp->Prop
 | .op k r=>IsOp pv P ops n o r∧k = zcg r
 | .nilck d ix gd=>(match o.guard with
  | none=>gd = none
  | some (j,want)=>∃ t,(ops[j]?).bind (·.dst) = some t∧t < n∧gd = some (t,want))∧o.dst = some d∧d < n∧∃ x,o.op = .nilCheck x∧z02 x = some ix
 | .mkclo d f ix=>o.guard = none∧o.dst = some d∧d < n∧∃ first caps x,o.op = .makeFunc (.func f) first caps∧first.toList = []∧caps.toList = [x]∧z02 x = some ix
 | .mcall d fx xs=>o.guard = none∧o.dst = some d∧d < n∧∃ c f,o.op = .call c∧c.callee = .value f∧z02 f = some fx∧z0k c.args.toList = some xs
 | .wcall d fx xs=>o.guard = none∧o.dst = some d∧d < n∧∃ c f,o.op = .call c∧c.callee = .value f∧z02 f = some fx∧z0k c.args.toList = some xs
 | .gcall d fx xs=>o.guard = none∧o.dst = some d∧d < n∧∃ c f,o.op = .call c∧c.callee = .value f∧z02 f = some fx∧z0k c.args.toList = some xs
 | .mkmap d ty=>o.guard = none∧o.dst = some d∧d < n∧o.op = .makeMap ty none
 | .mlook d ok m k z gd=>(match o.guard with
  | none=>gd = none
  | some (j,want)=>∃ t,(ops[j]?).bind (·.dst) = some t∧t < n∧gd = some (t,want))∧o.dst = some d∧d < n∧∃ t kt et x ix i zv,o.op = .lookup t x ix ok∧P.underlying t = some (.map kt et)∧P.underlying kt = some (.int .i64)∧P.info? et = some i∧i.zero = some zv∧z1h zv = some z∧z02 x = some m∧z02 ix = some k
 | .mupd m k x=>o.guard = none∧o.dst = none∧∃ t kt et y iy v,o.op = .mapUpdate t y iy v∧P.underlying t = some (.map kt et)∧P.underlying kt = some (.int .i64)∧z02 y = some m∧z02 iy = some k∧z02 v = some x
theorem za7 {ops:Array Oper} {o:Oper} {r:ROp} (hi:IsOp pv P ops n o r) (h:SR w0 Pr0 n μ σ a w):∃ μ',SR w0 Pr0 n μ' (σ.kills (zcg r)) a w∧z0w [r] (σ.kills (zcg r)):=by
 unfold zcg
 cases hp:r.io.pure with
 | true =>
  refine ⟨μ,h,fun x hx hx2=>?_⟩
  simp at hx; subst hx; rw [hp] at hx2; cases hx2
 | false =>
  simp only [Bool.false_eq_true,if_false]
  cases hd:r.dst with
  | none =>
   refine ⟨μ,h,fun x hx hx2 d hd'=>?_⟩
   simp at hx; subst hx; rw [hd] at hd'; cases hd'
  | some d =>
   have hlt:d < n:=hi.lt d (by rw [← hi.dst,hd])
   refine ⟨_,h.kill d (Nat.lt_of_lt_of_le hlt h.small),fun x hx hx2 d' hd'=>?_⟩
   simp at hx; subst hx
   rw [hd] at hd'; cases hd'
   refine ⟨z03 _ _ _,fun t=>?_⟩
   show (if (σ.T t).name = some d then keepV σ.H (σ.T t) else σ.T t).name ≠ some d
   split
   ·rw [z38]; intro e; cases e
   ·rename_i h; exact h
theorem z3k {ops:Array Oper} {Q:Exit->Act->World->Prop} {K:St->Prop} (hQ:∀ μ σ' a w,K σ'->SR w0 Pr0 n μ σ' a w->Q .normal a w):∀ (xs:List XOp) (k:Nat) {μ:Nat->Option Nat} {σ:St} {a:Act} {w:World},
  (∀ (j:Nat) (x:XOp),xs[j]? = some x->∃ o,ops[k + j]? = some o∧IsX pv P ops n o x)->SR w0 Pr0 n μ σ a w->z13 P (AFn P) xs σ K->wpOps P ops Q (List.range' k xs.length) a w
 | [],k,μ,σ,a,w,_,hS,hE=>by
  simp only [List.length_nil,List.range'_zero,wpOps]
  exact hQ μ σ a w hE hS
 | x :: xs,q0,μ,σ,a,w,hi,hS,hE=>by
  obtain ⟨o,ho,hio⟩:=hi 0 x rfl
  simp only [Nat.add_zero] at ho
  have hi':∀ (j:Nat) (r:XOp),xs[j]? = some r->∃ o,ops[q0 + 1 + j]? = some o∧IsX pv P ops n o r:=fun j q hq=>by
   obtain ⟨o',h1,h2⟩:=hi (j + 1) q hq
   exact ⟨o',by rw [show q0 + 1 + j = q0 + (j + 1) by omega]; exact h1,h2⟩
  rw [List.length_cons,List.range'_succ,wpOps_cons]
  unfold wpOp
  rw [ho]
  simp only
  simp only [z13] at hE
  have plain:o.guard = none->(o.wp P a w (fun a' w'=>∃ μ' σ',z13 P (AFn P) xs σ' K∧SR w0 Pr0 n μ' σ' a' w') Q)->(if Region.wanted o (yielded ops a.tmps) = true then o.wp P a w (wpOps P ops Q (List.range' (q0 + 1) xs.length)) Q∨(o.asks P a w∧LetsOut Q) else wpOps P ops Q (List.range' (q0 + 1) xs.length) (a.put o.dst undef) w):=by
   intro hg hw
   rw [if_pos (by simp [Region.wanted,hg])]
   left
   refine Oper.wp_mono ?_ hw
   rintro a' w' ⟨μ',σ2,hK,hS2⟩
   exact z3k hQ xs (q0 + 1) hi' hS2 hK
  cases x with
  | nilck d ix gd =>
   obtain ⟨hg,hd,hn,x,h1,h2⟩:=hio
   simp only [z1j] at hE
   rcases z2p hg hS hE with ⟨hw,σ',hy,hS',hσ⟩ | ⟨hw,σ',hy,hS',hσ⟩
   ·rw [if_pos hw]
    left
    refine Oper.wp_mono ?_ (z9t h1 h2 hd hn hS' hy)
    rintro a' w' ⟨μ',σ2,hK,hS2⟩
    exact z3k hQ xs (q0 + 1) hi' hS2 hK
   ·rw [if_neg (by rw [hw]; simp)]
    rw [hd]
    exact z3k hQ xs (q0 + 1) hi' (hS'.put hn (TR.of_VR (.tup [] [] rfl (fun j c v h=>by simp at h)))) hy
  | mkmap d ty =>
   obtain ⟨hg,hd,hn,h1⟩:=hio
   have hn':d < 1000:=Nat.lt_of_lt_of_le hn hS.small
   have hSk:=hS.kill d hn'
   refine plain hg (z9x (K:=fun σ'=>z13 P (AFn P) xs σ' K) h1 hd hn hSk (z03 _ _ _) (fun s e=>?_) (ty:=ty) hE)
   have e:(if (σ.T s).name = some d then keepV σ.H (σ.T s) else σ.T s).name = some d:=e
   split at e
   ·rw [z38] at e; cases e
   ·rename_i hne; exact hne e
  | mlook d ok m k z gd =>
   obtain ⟨hg,hd,hn,t,kt,et,y,iy,i,zv,h1,h2,h3,h4,h5,h6,h7,h8⟩:=hio
   simp only [z1j] at hE
   rcases z2p hg hS hE with ⟨hw,σ',hy,hS',hσ⟩ | ⟨hw,σ',hy,hS',hσ⟩
   ·rw [if_pos hw]
    left
    refine Oper.wp_mono ?_ (z9w h1 h2 h3 h4 h5 h6 h7 h8 hd hn hS' hy)
    rintro a' w' ⟨μ',σ2,hK,hS2⟩
    exact z3k hQ xs (q0 + 1) hi' hS2 hK
   ·rw [if_neg (by rw [hw]; simp)]
    rw [hd]
    exact z3k hQ xs (q0 + 1) hi' (hS'.put hn (TR.of_VR (.tup [] [] rfl (fun j c v h=>by simp at h)))) hy
  | mupd m k x =>
   obtain ⟨hg,hd,t,kt,et,y,iy,v,h1,h2,h3,h4,h5,h6⟩:=hio
   exact plain hg (zc9 (K:=fun σ'=>z13 P (AFn P) xs σ' K) h1 h2 h3 h4 h5 h6 hd hS hE)
  | mkclo d f ix =>
   obtain ⟨hg,hd,hn,first,caps,x,h1,h2,h3,h4⟩:=hio
   exact plain hg (z9y h1 h2 h3 h4 hd hn hS hE)
  | mcall d fx ys =>
   obtain ⟨hg,hd,hn,c,f,h1,h2,h3,h4⟩:=hio
   exact plain hg (za0 h1 h2 h3 h4 hd hn hS hE)
  | wcall d fx ys =>
   obtain ⟨hg,hd,hn,c,f,h1,h2,h3,h4⟩:=hio
   exact plain hg (z8m h1 h2 h3 h4 hd hn hS hE)
  | gcall d fx ys =>
   obtain ⟨hg,hd,hn,c,f,h1,h2,h3,h4⟩:=hio
   exact plain hg (zag h1 h2 h3 h4 hd hn hS hE)
  | op k0 r =>
   obtain ⟨hio,rfl⟩:=hio
   obtain ⟨μ1,hS1,hF1⟩:=za7 hio hS
   simp only [z1j,z0f] at hE
   rcases z43 hio hS1 hE with ⟨hw,σ',hy,hS',hσ⟩ | ⟨hw,σ',hy,hS',hσ⟩
   ·rw [if_pos hw]
    left
    refine Oper.wp_mono ?_ (z55 hio hS' (z0w.guard hF1 hσ) hy)
    rintro a' w' ⟨μ',σ2,hK,hS2⟩
    exact z3k hQ xs (q0 + 1) hi' hS2 hK
   ·rw [if_neg (by rw [hw]; simp)]
    exact z3k hQ xs (q0 + 1) hi' (z3t hio hS') hy
end
end Go.Proofs.YtlhblpbfhfhlpaaGreatDoor
end
