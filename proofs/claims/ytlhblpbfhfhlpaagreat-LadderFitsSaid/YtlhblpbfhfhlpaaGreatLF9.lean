/-
  Part 9 of a proof: SqH, SqJ.
-/
import Derived.Test.YtlhblpbfhfhlpaaGreatLF8
set_option linter.unusedVariables false
set_option linter.unusedSimpArgs false
section
namespace Go.Proofs.YtlhblpbfhfhlpaaGreat
open Go.RowKit
theorem maxS_comm (a b:ByteArray):maxS a b = maxS b a:=by
 unfold maxS
 cases h:lt a b <;> cases h2:lt b a
 ·have:=kp.less_total _ _ h h2
  rw [ByteArray.toList_eq,ByteArray.toList_eq] at this
  simp only [Bool.false_eq_true,if_false]
  cases a; cases b; congr 1; exact Array.ext' this
 ·simp
 ·simp
 ·rw [show lt b a = false from kp.less_asymm _ _ h] at h2; cases h2
theorem minS_comm (a b:ByteArray):minS a b = minS b a:=by
 unfold minS
 cases h:lt a b <;> cases h2:lt b a
 ·have:=kp.less_total _ _ h h2
  rw [ByteArray.toList_eq,ByteArray.toList_eq] at this
  simp only [Bool.false_eq_true,if_false]
  cases a; cases b; congr 1; exact Array.ext' this
 ·simp
 ·simp
 ·rw [show lt b a = false from kp.less_asymm _ _ h] at h2; cases h2
theorem zxt (a b:Spn):a.meet b = b.meet a:=by
 unfold Spn.meet Spn.cut
 rw [maxS_comm a.lo b.lo,minS_comm a.hi b.hi,Bool.and_comm a.op b.op]
 cases a.op <;> cases b.op <;> rfl
theorem zbn:∀ a b:List UInt8,Op.bytesLess a b = true->Op.bytesLess b (a ++ [0]) = false
 | _,[],h=>by rw [kp.less_nil] at h; cases h
 | [],y :: ys,_=>by
  simp only [List.nil_append,kp.less_cons,kp.less_nil,Bool.and_false,Bool.or_false,decide_eq_false_iff_not]
  simp [UInt8.lt_iff_toNat_lt]
 | x :: xs,y :: ys,h=>by
  simp only [kp.less_cons,Bool.or_eq_true,decide_eq_true_eq,Bool.and_eq_true,beq_iff_eq] at h
  simp only [List.cons_append,kp.less_cons,Bool.or_eq_false_iff,decide_eq_false_iff_not,Bool.and_eq_false_iff,beq_eq_false_iff_ne]
  rcases h with h | ⟨rfl,h⟩
  ·exact ⟨fun h'=>kp.u8_lt_irrefl _ (kp.u8_lt_trans h h'),.inl (fun e=>by subst e; exact kp.u8_lt_irrefl _ h)⟩
  ·exact ⟨kp.u8_lt_irrefl _,.inr (zbn xs ys h)⟩
theorem zbl (a:ByteArray):(a ++ (⟨#[0]⟩:ByteArray)).toList = a.toList ++ [0]:=by
 rw [ByteArray.toList_eq,ByteArray.toList_eq,ByteArray.data_append,Array.toList_append]
theorem z6k:Spn.none.empty = true:=by decide +kernel
theorem zim {a b:ByteArray} (h:(z2i a).touch (z2i b) = true):a = b:=by
 have key:∀ x y:ByteArray,lt x y = true->(z2i x).meet (z2i y) = Spn.none:=by
  intro x y hxy
  have h1:lt y (x ++ ⟨#[0]⟩) = false:=by
   unfold lt; rw [zbl]; exact zbn _ _ hxy
  have h2:maxS x y = y:=by unfold maxS; rw [if_pos hxy]
  unfold Spn.meet Spn.norm
  have:((z2i x).cut (z2i y)).empty = true:=by
   unfold Spn.cut Spn.empty z2i
   simp only [h2,Bool.and_false,Bool.not_false,Bool.true_and,Bool.false_eq_true,if_false,Bool.not_eq_true']
   unfold minS
   split
   ·rename_i h3
    cases h4:lt y (y ++ ⟨#[0]⟩) with
    | false=>rfl
    | true =>
     have:=kp.less_trans _ _ _ h4 h3
     rw [show Op.bytesLess y.toList (x ++ ⟨#[0]⟩).toList = false from h1] at this; cases this
   ·exact h1
  rw [if_pos this]
 cases h1:lt a b with
 | true=>unfold Spn.touch at h; rw [key a b h1,z6k] at h; cases h
 | false =>
  cases h2:lt b a with
  | true=>unfold Spn.touch at h; rw [zxt,key b a h2,z6k] at h; cases h
  | false =>
   have:=kp.less_total _ _ h1 h2
   rw [ByteArray.toList_eq,ByteArray.toList_eq] at this
   cases a; cases b; congr 1; exact Array.ext' this
theorem z6u {p:Nat->Bool}:∀ {f j:Nat},z1x p f j = none->∀ k,j≤k->k < j + f->p k = false
 | 0,j,_,k,h1,h2=>by omega
 | f + 1,j,h,k,h1,h2=>by
  simp only [z1x] at h
  by_cases hp:p j = true
  ·rw [if_pos hp] at h; cases h
  ·rw [if_neg hp] at h
   by_cases e:k = j
   ·subst e; simpa using hp
   ·exact z6u h k (by omega) (by omega)
theorem y1c {l:List Msg} {i:Nat} {m:Msg} (hm:l[i]? = some m) (h:z43 l i = none) {k:Nat} {x:Msg} (hk:i + 1≤k) (hx:l[k]? = some x):x.span.touch m.span = false:=by
 unfold z43 at h
 rw [hm] at h
 have hl:=(List.getElem?_eq_some_iff.1 hx).1
 have:=z6u h k hk (by omega)
 simpa [hx] using this
theorem z5w {l:List Msg} {i j:Nat} {m x:Msg} (hm:l[i]? = some m) (h:z43 l i = some j) (hx:l[j]? = some x):x.span.touch m.span = true:=by
 unfold z43 at h
 rw [hm] at h
 have:=(z4d h).2.2
 simpa [hx] using this
theorem on_kind (m:Msg) (k:ByteArray):(m.on k).kind ≠ 4:=by
 unfold Msg.on Eff.none
 split
 ·split
  ·rename_i h; simp only; omega
  ·split <;> simp
 ·simp
theorem thenC_kind {a b:Eff} (ha:a.kind ≠ 4) (hb:b.kind ≠ 4):(a.thenC b).kind ≠ 4:=by
 unfold Eff.thenC
 split
 ·exact ha
 ·split
  ·exact hb
  ·simp only; split <;> omega
theorem zjb {m x:Msg} (h1:m.kind ≠ 4) (h2:x.kind = 2) (ht:x.span.touch m.span = true):(z3b m x).2 = true∧(z3b m x).1.span = x.span∧(z3b m x).1.kind ≠ 4∧(z3b m x).1.hi = x.hi:=by
 have hx:x.span = z2i x.key:=by unfold Msg.span; rw [if_neg (by omega)]
 have hm:m.span = z2i m.key:=by unfold Msg.span; rw [if_neg h1]
 rw [hx,hm] at ht
 have hk:=zim ht
 have hj:z3b m x = ({ x with kind:=((m.on m.key).thenC (x.on x.key)).kind,val:=((m.on m.key).thenC (x.on x.key)).val },true):=by
  unfold z3b
  rw [if_neg (by omega),if_neg (by intro h; rcases h with h | h | h; exact h1 h; omega; exact h hk.symm)]
 rw [hj]
 have hne:=thenC_kind (on_kind m m.key) (on_kind x x.key)
 refine ⟨rfl,?_,hne,rfl⟩
 show Msg.span _ = _
 unfold Msg.span
 simp only
 rw [if_neg hne,if_neg (by omega)]
def Bd (m:Msg):Prop:=m.key.size≤281474976710656∧m.hi.size≤281474976710656∧m.val.size≤4611686018427387903
structure SQ (i:Nat) (rest out:List Msg):Prop where
 pair:onceP out
 ahead:∀ m,m ∈ out->m.kind ≠ 4->∀ k x,i≤k->rest[k]? = some x->x.span.touch m.span = false
 bdR:∀ m,m ∈ rest->Bd m
 bdO:∀ m,m ∈ out->Bd m
 len:out.length≤i
theorem SQ.skip {i:Nat} {rest out:List Msg} (h:SQ i rest out):SQ (i + 1) rest out:=⟨h.pair,fun m hm h4 k x hk hx=>h.ahead m hm h4 k x (by omega) hx,h.bdR,h.bdO,by have:=h.len; omega⟩
theorem SQ.add {i:Nat} {rest out:List Msg} (h:SQ i rest out) {m:Msg} (hm:rest[i]? = some m) (hn:m.kind ≠ 4->z43 rest i = none):SQ (i + 1) rest (out ++ [m]):=by
 refine ⟨fun p q a x hpq hp hq h4=>?_,fun a ha h4 k x hk hx=>?_,h.bdR,fun a ha=>?_,by rw [List.length_append]; have:=h.len; simp; omega⟩
 ·have hql:=(List.getElem?_eq_some_iff.1 hq).1
  rw [List.length_append] at hql
  simp at hql
  have hpl:p < out.length:=by omega
  rw [List.getElem?_append_left hpl] at hp
  rcases Nat.lt_or_ge q out.length with h1 | h1
  ·rw [List.getElem?_append_left h1] at hq
   exact h.pair p q a x hpq hp hq h4
  ·rw [List.getElem?_append_right h1] at hq
   have:q = out.length:=by omega
   subst this
   simp at hq
   subst hq
   have:=h.ahead a (List.mem_of_getElem? hp) h4 i m (Nat.le_refl _) hm
   unfold Spn.touch at this
   rw [zxt] at this
   simpa using this
 ·rcases List.mem_append.1 ha with ha | ha
  ·exact h.ahead a ha h4 k x (by omega) hx
  ·simp at ha; subst ha
   exact y1c hm (hn h4) hk hx
 ·rcases List.mem_append.1 ha with ha | ha
  ·exact h.bdO a ha
  ·simp at ha; subst ha
   exact h.bdR a (List.mem_of_getElem? hm)
end Go.Proofs.YtlhblpbfhfhlpaaGreat
end
section
namespace Go.Proofs.YtlhblpbfhfhlpaaGreat
open Go.RowKit
theorem lt_eq {a b:ByteArray} (h1:lt a b = false) (h2:lt b a = false):a = b:=by
 have:=kp.less_total _ _ h1 h2
 rw [ByteArray.toList_eq,ByteArray.toList_eq] at this
 cases a; cases b; congr 1; exact Array.ext' this
theorem lt_tr {a b c:ByteArray} (h1:lt a b = true) (h2:lt b c = true):lt a c = true:=kp.less_trans _ _ _ h1 h2
theorem lt_ir (a:ByteArray):lt a a = false:=kp.less_irrefl _
theorem le_lt {a b c:ByteArray} (h1:lt b a = false) (h2:lt b c = true):lt a c = true:=by
 cases h:lt a b with
 | true=>exact lt_tr h h2
 | false=>rw [lt_eq h h1]; exact h2
theorem lt_le {a b c:ByteArray} (h1:lt a b = true) (h2:lt c b = false):lt a c = true:=by
 cases h:lt b c with
 | true=>exact lt_tr h1 h
 | false=>rw [lt_eq h2 h]; exact h1
theorem lt_max (x a b:ByteArray):lt x (maxS a b) = (lt x a || lt x b):=by
 unfold maxS
 split
 ·rename_i h
  cases h1:lt x a with
  | false=>simp
  | true=>rw [lt_tr h1 h]; rfl
 ·rename_i h
  cases h1:lt x b with
  | false=>simp
  | true=>rw [lt_le h1 (by simpa using h)]; rfl
theorem lt_min (x a b:ByteArray):lt x (minS a b) = (lt x a && lt x b):=by
 unfold minS
 split
 ·rename_i h
  cases h1:lt x b with
  | false=>simp
  | true=>rw [lt_tr h1 h]; rfl
 ·rename_i h
  cases h1:lt x a with
  | false=>simp
  | true=>rw [lt_le h1 (by simpa using h)]; rfl
theorem zxz:∀ a:List UInt8,Op.bytesLess a (a ++ [0]) = true
 | []=>kp.nil_less _ _
 | x :: xs=>by
  simp only [List.cons_append,kp.less_cons,zxz xs]
  simp
theorem lt_next (k:ByteArray):lt k (k ++ ⟨#[0]⟩) = true:=by
 unfold lt; rw [zbl]; exact zxz _
theorem z3u (k x:ByteArray):(z2i k).has x = decide (x = k):=by
 unfold Spn.has z2i
 simp only [Bool.false_or]
 by_cases h:x = k
 ·subst h; simp [lt_ir,lt_next]
 ·rw [decide_eq_false h]
  cases h1:lt x k with
  | true=>rfl
  | false =>
   cases h2:lt k x with
   | false=>exact absurd (lt_eq h1 h2) h
   | true =>
    have:lt x (k ++ ⟨#[0]⟩) = false:=by unfold lt; rw [zbl]; exact zbn _ _ h2
    simp [this]
theorem z60 {s:Spn} {x:ByteArray} (h:s.has x = true):s.empty = false:=by
 unfold Spn.has at h
 unfold Spn.empty
 simp only [Bool.and_eq_true,Bool.not_eq_true',Bool.or_eq_true] at h
 rcases h with ⟨h1,h2 | h2⟩
 ·rw [h2]; rfl
 ·rw [le_lt h1 h2]; simp
theorem none_has (x:ByteArray):Spn.none.has x = false:=by
 cases h:Spn.none.has x with
 | false=>rfl
 | true=>have:=z60 h; rw [z6k] at this; cases this
theorem y6n (s:Spn) (x:ByteArray):s.norm.has x = s.has x:=by
 unfold Spn.norm
 split
 ·rename_i h
  rw [none_has]
  cases h2:s.has x with
  | false=>rfl
  | true=>rw [z60 h2] at h; cases h
 ·split
  ·rename_i h h2
   simp [Spn.has,h2]
  ·rfl
theorem cut_has (a b:Spn) (x:ByteArray):(a.cut b).has x = (a.has x && b.has x):=by
 unfold Spn.has Spn.cut
 simp only [lt_max]
 cases ha:a.op <;> cases hb:b.op <;> simp [lt_min] <;> cases lt x a.lo <;> cases lt x b.lo <;> simp
theorem zrv (a b:Spn) (x:ByteArray):(a.meet b).has x = (a.has x && b.has x):=by
 unfold Spn.meet
 rw [y6n,cut_has]
theorem norm_norm (s:Spn):s.norm.norm = s.norm:=by
 unfold Spn.norm
 by_cases h:s.empty = true
 ·rw [if_pos h,if_pos z6k]
 ·rw [if_neg h]
  by_cases h2:s.op = true
  ·rw [if_pos h2]
   simp [Spn.empty]
  ·rw [if_neg h2,if_neg h,if_neg h2]
theorem meet_norm (a b:Spn):(a.meet b).norm = a.meet b:=norm_norm _
theorem within_eq (a b:Spn):a.within b = decide (a.meet b = a.norm):=by unfold Spn.within; rw [meet_norm]
theorem within_has {a b:Spn} {x:ByteArray} (h:a.within b = true) (hx:a.has x = true):b.has x = true:=by
 rw [within_eq,decide_eq_true_eq] at h
 have:=zrv a b x
 rw [h,y6n,hx] at this
 simpa using this.symm
theorem zsu {s:Spn} {k:ByteArray}:s.touch (z2i k) = s.has k:=by
 unfold Spn.touch
 cases h:s.has k with
 | true =>
  have:(s.meet (z2i k)).has k = true:=by rw [zrv,h,z3u]; simp
  rw [z60 this]; rfl
 | false =>
  rw [← has_lo,Bool.not_not,zrv,z3u]
  cases h2:s.has (s.meet (z2i k)).lo with
  | false=>rfl
  | true =>
   have:(s.meet (z2i k)).lo ≠ k:=fun e=>by rw [e,h] at h2; cases h2
   simp [this]
theorem bext {a b:ByteArray} (h:a.data.toList = b.data.toList):a = b:=by
 cases a; cases b; congr 1; exact Array.ext' h
theorem z2p (s:ByteArray):(z3q s).data.toList = s.data.toList.drop (s.data.toList.length - 16):=by
 unfold z3q
 have e:s.size = s.data.toList.length:=by rw [Array.length_toList]; rfl
 rw [ByteArray.data_extract,Array.toList_extract,e,List.extract_eq_take_drop,List.take_of_length_le (by rw [List.length_drop]; omega)]
theorem tail16_l (s t:ByteArray):z3q (z3q s ++ t) = z3q (s ++ t):=by
 apply bext
 rw [z2p,z2p,ByteArray.data_append,Array.toList_append,z2p,ByteArray.data_append,Array.toList_append]
 generalize s.data.toList = a
 generalize t.data.toList = b
 simp only [List.length_append,List.length_drop,List.drop_append,List.drop_drop]
 congr 2 <;> omega
theorem tail16_r (s t:ByteArray):z3q (s ++ z3q t) = z3q (s ++ t):=by
 apply bext
 rw [z2p,z2p,ByteArray.data_append,Array.toList_append,z2p,ByteArray.data_append,Array.toList_append]
 generalize s.data.toList = a
 generalize t.data.toList = b
 simp only [List.length_append,List.length_drop,List.drop_append,List.drop_drop]
 by_cases h:b.length≤16
 ·rw [show b.length - 16 = 0 by omega]; simp
 ·rw [List.drop_eq_nil_of_le (by omega:a.length≤_),List.drop_eq_nil_of_le (by omega:a.length≤_)]
  congr 2; omega
theorem z5f (e:Eff):e.thenR Eff.none = e:=by simp [Eff.thenR,Eff.none]
theorem zku (e b:Eff) (h0:b.kind ≠ 0) (h2:b.kind ≠ 2):e.thenR b = b:=by simp [Eff.thenR,h0,h2]
theorem then_assoc (e a b:Eff) (hb:b.kind = 2):(e.thenR a).thenR b = e.thenR (a.thenR b):=by
 by_cases ha:a.kind = 0
 ·rw [show e.thenR a = e by simp [Eff.thenR,ha],show a.thenR b = b by simp [Eff.thenR,ha,hb]]
 ·have h1:a.thenR b = ⟨if a.kind = 2 then 2 else 1,z3q (a.val ++ b.val)⟩:=by simp [Eff.thenR,ha,hb]
  by_cases ha2:a.kind = 2
  ·by_cases he:e.kind = 0
   ·rw [show e.thenR a = a by simp [Eff.thenR,he,ha2],h1]
    simp [Eff.thenR,he,ha2]
   ·rw [h1]
    simp only [Eff.thenR,ha2,he,hb]
    by_cases he2:e.kind = 2 <;> simp [he2,tail16_l,tail16_r,ByteArray.append_assoc]
  ·rw [show e.thenR a = a by simp [Eff.thenR,ha,ha2],h1]
   simp [Eff.thenR,ha2]
theorem on_del (m:Msg) (k:ByteArray):(m.on k).kind = 3->(m.on k).val = ⟨#[]⟩:=by
 unfold Msg.on Eff.none
 split
 ·split
  ·rename_i h; intro h3; simp only at h3; omega
  ·split <;> simp
 ·simp
theorem on_thenC (m:Msg) (k:ByteArray) (b:Eff):(m.on k).thenC b = (m.on k).thenR b:=then_same b (on_del m k)
theorem zp9 {m:Msg} {x:ByteArray} (h:m.span.has x = false):m.on x = Eff.none:=by simp [Msg.on,h]
theorem z2c {m:Msg} (h:m.kind ≠ 4):m.span = z2i m.key:=by simp [Msg.span,h]
def z2o (x:ByteArray) (e:Eff) (l:List Msg):Eff:=l.foldl (fun e m=>e.thenR (m.on x)) e
theorem z1e (x:ByteArray) (e:Eff) (m:Msg) (l:List Msg):z2o x e (m :: l) = z2o x (e.thenR (m.on x)) l:=rfl
theorem zdo (x:ByteArray) (e:Eff) (a b:List Msg):z2o x e (a ++ b) = z2o x (z2o x e a) b:=by simp [z2o]
theorem zc7 {x:ByteArray}:∀ {l:List Msg} {b:Msg},b ∈ l->(b.on x).kind ≠ 0->(b.on x).kind ≠ 2->∀ e e',z2o x e l = z2o x e' l
 | [],b,h,_,_,_,_=>by cases h
 | m :: l,b,h,h0,h2,e,e'=>by
  rw [z1e,z1e]
  rcases List.mem_cons.1 h with rfl | h
  ·rw [zku _ _ h0 h2,zku _ _ h0 h2]
  ·exact zc7 h h0 h2 _ _
theorem zyl {x:ByteArray} {b:Msg}:∀ {l:List Msg} {q:Nat} {a:Msg},l[q]? = some a->b.on x = a.on x->∀ e,z2o x e (l.set q b) = z2o x e l
 | [],q,a,h,_,_=>by simp at h
 | m :: l,0,a,h,hb,e=>by
  simp at h; subst h
  rw [List.set_cons_zero,z1e,z1e,hb]
 | m :: l,q + 1,a,h,hb,e=>by
  rw [List.set_cons_succ,z1e,z1e]
  exact zyl (by simpa using h) hb _
theorem y7p {x:ByteArray} {b:Msg} {M:Eff}:∀ {l:List Msg} {q:Nat} {a:Msg},l[q]? = some a->(∀ p z,p < q->l[p]? = some z->z.on x = Eff.none)->b.on x = M.thenR (a.on x)->(a.on x).kind = 2->∀ e,z2o x (e.thenR M) l = z2o x e (l.set q b)
 | [],q,a,h,_,_,_,_=>by simp at h
 | m :: l,0,a,h,_,hb,h2,e=>by
  simp at h; subst h
  rw [List.set_cons_zero,z1e,z1e,hb,then_assoc _ _ _ h2]
 | m :: l,q + 1,a,h,hp,hb,h2,e=>by
  rw [List.set_cons_succ,z1e,z1e,hp 0 m (by omega) rfl,z5f,z5f]
  exact y7p (by simpa using h) (fun p z hpq hz=>hp (p + 1) z (by omega) (by simpa using hz)) hb h2 _
def Msg.size (m:Msg):Nat:=if m.kind = 4 then 36 else 4 + m.key.size + m.val.size
def z38 (l:List Msg):Nat:=(l.map Msg.size).sum
theorem z2d (m:Msg) (l:List Msg):z38 (m :: l) = m.size + z38 l:=by simp [z38]
theorem z5o (a b:List Msg):z38 (a ++ b) = z38 a + z38 b:=by simp [z38]
theorem zt3 {b:Msg}:∀ {l:List Msg} {q:Nat} {a:Msg},l[q]? = some a->z38 (l.set q b) + a.size = z38 l + b.size
 | [],q,a,h=>by simp at h
 | m :: l,0,a,h=>by
  simp at h; subst h
  rw [List.set_cons_zero,z2d,z2d]; omega
 | m :: l,q + 1,a,h=>by
  rw [List.set_cons_succ,z2d,z2d]
  have:=zt3 (b:=b) (l:=l) (q:=q) (a:=a) (by simpa using h)
  omega
theorem z65 {p:Nat->Bool}:∀ {f j k:Nat},z1x p f j = some k->∀ i,j≤i->i < k->p i = false
 | 0,j,k,h,i,_,_=>by simp [z1x] at h
 | f + 1,j,k,h,i,h1,h2=>by
  simp only [z1x] at h
  by_cases hp:p j = true
  ·rw [if_pos hp] at h; cases h; omega
  ·rw [if_neg hp] at h
   by_cases e:i = j
   ·subst e; simpa using hp
   ·exact z65 h i (by omega) h2
theorem nextOf_mid {l:List Msg} {i j:Nat} {m:Msg} (hm:l[i]? = some m) (h:z43 l i = some j) {k:Nat} {x:Msg} (h1:i < k) (h2:k < j) (hx:l[k]? = some x):x.span.touch m.span = false:=by
 unfold z43 at h
 rw [hm] at h
 have:=z65 h k (by omega) h2
 simpa [hx] using this
theorem zjc {m x:Msg} (h1:m.kind ≠ 4) (h2:x.kind = 2) (ht:x.span.touch m.span = true):m.key = x.key∧z3b m x = ({ x with kind:=((m.on m.key).thenR (x.on x.key)).kind,val:=((m.on m.key).thenR (x.on x.key)).val },true):=by
 rw [z2c h1,z2c (by omega:x.kind ≠ 4)] at ht
 have hk:=zim ht
 refine ⟨hk.symm,?_⟩
 unfold z3b
 rw [if_neg (by omega),if_neg (by intro h; rcases h with h | h | h; exact h1 h; omega; exact h hk.symm),on_thenC]
theorem y1a {x:Msg} (h2:x.kind = 2):x.on x.key = ⟨2,x.val⟩:=by
 have:x.span.has x.key = true:=by rw [z2c (by omega:x.kind ≠ 4),z3u]; simp
 simp [Msg.on,this,h2]
theorem z8p (a:Eff) (v:ByteArray):(a.thenR ⟨2,v⟩).kind = 1∨(a.thenR ⟨2,v⟩).kind = 2:=by
 unfold Eff.thenR
 by_cases h:a.kind = 0
 ·simp [h]
 ·by_cases h2:a.kind = 2 <;> simp [h,h2]
theorem join_on {m x:Msg} (h1:m.kind ≠ 4) (h2:x.kind = 2) (ht:x.span.touch m.span = true):(z3b m x).1.on x.key = (m.on x.key).thenR (x.on x.key)∧∀ y,y ≠ x.key->(z3b m x).1.on y = x.on y:=by
 obtain ⟨hk,hj⟩:=zjc h1 h2 ht
 obtain ⟨_,hs,_,_⟩:=zjb h1 h2 ht
 have hxs:=z2c (m:=x) (by omega)
 refine ⟨?_,fun y hy=>?_⟩
 ·have hh:(z3b m x).1.span.has x.key = true:=by rw [hs,hxs,z3u]; simp
  unfold Msg.on
  rw [if_pos hh]
  change (if (z3b m x).1.kind = 1∨(z3b m x).1.kind = 2 then (⟨(z3b m x).1.kind,(z3b m x).1.val⟩:Eff) else _) = _
  rw [hj]
  rw [if_pos (by rw [y1a h2]; exact z8p _ _),hk]
  rfl
 ·have hh:x.span.has y = false:=by rw [hxs,z3u]; simp [hy]
  rw [zp9 hh,zp9 (by rw [hs]; exact hh)]
structure SK (f:ByteArray->Eff) (st:List Int) (n:Nat) (i:Nat) (rest out:List Msg):Prop where
 on:∀ y,z2o y Eff.none (out ++ rest.drop i) = f y
 wip:∀ a,a ∈ out->a.kind = 4->∀ k x,i≤k->rest[k]? = some x->x.kind = 4->a.span.within x.span = false
 pair:∀ (p q:Nat) (a x:Msg),p < q->out[p]? = some a->out[q]? = some x->a.kind = 4->x.kind = 4->a.span.within x.span = false
 size:z38 (out ++ rest.drop i)≤n
 stamps:((out ++ rest.drop i).map Msg.stamp).Sublist st
 right:∀ m,m ∈ out ++ rest.drop i->m.right = true
theorem right_kind {m:Msg} (h:m.right = true):m.kind = 1∨m.kind = 2∨m.kind = 3∨m.kind = 4:=by
 unfold Msg.right at h
 by_cases h4:m.kind = 4
 ·omega
 ·rw [if_neg h4] at h
  simp only [Bool.and_eq_true,Bool.or_eq_true,beq_iff_eq] at h
  omega
theorem dead_fold {rest:List Msg} {i:Nat} {m:Msg} (hm:rest[i]? = some m) (hr:∀ x,x ∈ rest.drop i->x.right = true) (hd:dead rest i = true) (y:ByteArray) (e:Eff) :
  z2o y (e.thenR (m.on y)) (rest.drop (i + 1)) = z2o y e (rest.drop (i + 1)):=by
 unfold dead at hd
 rw [hm] at hd
 simp only at hd
 by_cases h4:m.kind = 4
 ·rw [if_pos h4] at hd
  unfold cov at hd
  rw [hm] at hd
  simp only [List.any_eq_true,Bool.and_eq_true,beq_iff_eq] at hd
  obtain ⟨b,hb,hb4,hw⟩:=hd
  cases hy:m.span.has y with
  | false=>rw [zp9 hy,z5f]
  | true =>
   have hby:=within_has hw hy
   have:b.on y = ⟨3,⟨#[]⟩⟩:=by simp [Msg.on,hby,hb4]
   exact zc7 hb (by rw [this]; simp) (by rw [this]; simp) _ _
 ·rw [if_neg h4] at hd
  cases hn:z43 rest i with
  | none=>rw [hn] at hd; cases hd
  | some j =>
   obtain ⟨hij,x,hx⟩:=ziu hn
   rw [hn] at hd
   simp only [hx,Option.any_some,bne_iff_ne,ne_eq] at hd
   have ht:=z5w hm hn hx
   rw [z2c h4,zsu] at ht
   have hxm:x ∈ rest.drop (i + 1):=List.mem_of_getElem? (by rw [List.getElem?_drop,show i + 1 + (j - (i + 1)) = j by omega]; exact hx)
   have hxr:=hr x (by rw [List.drop_eq_getElem_cons (List.getElem?_eq_some_iff.1 hm).1]; exact List.mem_cons_of_mem _ hxm)
   by_cases hy:y = m.key
   ·subst hy
    have hk:=right_kind hxr
    have:x.on m.key = if x.kind = 1 then ⟨1,x.val⟩ else ⟨3,⟨#[]⟩⟩:=by
     unfold Msg.on
     rw [if_pos ht]
     rcases hk with h | h | h | h
     ·simp [h]
     ·exact absurd h hd
     ·simp [h]
     ·simp [h]
    exact zc7 hxm (by rw [this]; split <;> simp) (by rw [this]; split <;> simp) _ _
   ·rw [zp9 (by rw [z2c h4,z3u]; simp [hy]),z5f]
theorem zk5 {α:Type} {l:List α} {i:Nat} {m:α} (h:l[i]? = some m):l.drop i = m :: l.drop (i + 1):=by
 rw [List.drop_eq_getElem_cons (List.getElem?_eq_some_iff.1 h).1]
 congr 1
 exact (List.getElem?_eq_some_iff.1 h).2
theorem SK.skip {f:ByteArray->Eff} {st:List Int} {n i:Nat} {rest out:List Msg} (h:SK f st n i rest out) {m:Msg} (hm:rest[i]? = some m) (hd:dead rest i = true):SK f st n (i + 1) rest out:=by
 have hc:=zk5 hm
 refine ⟨fun y=>?_,fun a ha h4 k x hk hx=>h.wip a ha h4 k x (by omega) hx,h.pair,?_,?_,?_⟩
 ·rw [← h.on y,zdo,zdo,hc,z1e]
  exact (dead_fold hm (fun x hx=>h.right x (List.mem_append_right _ hx)) hd y _).symm
 ·refine Nat.le_trans ?_ h.size
  rw [z5o,z5o,hc,z2d]; omega
 ·refine List.Sublist.trans (List.Sublist.map _ ?_) h.stamps
  rw [hc]
  exact List.Sublist.append_left (List.sublist_cons_self _ _) _
 ·intro x hx
  refine h.right x ?_
  rw [hc]
  rcases List.mem_append.1 hx with hx | hx
  ·exact List.mem_append_left _ hx
  ·exact List.mem_append_right _ (List.mem_cons_of_mem _ hx)
theorem SK.add {f:ByteArray->Eff} {st:List Int} {n i:Nat} {rest out:List Msg} (h:SK f st n i rest out) {m:Msg} (hm:rest[i]? = some m) (hd:¬ dead rest i = true):SK f st n (i + 1) rest (out ++ [m]):=by
 have hc:=zk5 hm
 have he:out ++ [m] ++ rest.drop (i + 1) = out ++ rest.drop i:=by rw [List.append_assoc,hc]; rfl
 have hw:m.kind = 4->∀ k x,i + 1≤k->rest[k]? = some x->x.kind = 4->m.span.within x.span = false:=by
  intro h4 k x hk hx hx4
  unfold dead cov at hd
  rw [hm] at hd
  simp only [if_pos h4,List.any_eq_true,Bool.and_eq_true,beq_iff_eq] at hd
  cases hwi:m.span.within x.span with
  | false=>rfl
  | true =>
   exact absurd ⟨x,List.mem_of_getElem? (by rw [List.getElem?_drop,show i + 1 + (k - (i + 1)) = k by omega]; exact hx),hx4,hwi⟩ hd
 refine ⟨fun y=>by rw [he]; exact h.on y,fun a ha h4 k x hk hx hx4=>?_,fun p q a x hpq hp hq h4 hx4=>?_,by rw [he]; exact h.size,by rw [he]; exact h.stamps,by rw [he]; exact h.right⟩
 ·rcases List.mem_append.1 ha with ha | ha
  ·exact h.wip a ha h4 k x (by omega) hx hx4
  ·simp at ha; subst ha
   exact hw h4 k x hk hx hx4
 ·have hql:=(List.getElem?_eq_some_iff.1 hq).1
  rw [List.length_append] at hql
  simp at hql
  have hpl:p < out.length:=by omega
  rw [List.getElem?_append_left hpl] at hp
  rcases Nat.lt_or_ge q out.length with h1 | h1
  ·rw [List.getElem?_append_left h1] at hq
   exact h.pair p q a x hpq hp hq h4 hx4
  ·rw [List.getElem?_append_right h1] at hq
   have:q = out.length:=by omega
   subst this
   simp at hq
   subst hq
   exact h.wip a (List.mem_of_getElem? hp) h4 i m (Nat.le_refl _) hm hx4
theorem zd2 {b:Msg}:∀ {l:List Msg} {q:Nat} {a:Msg},l[q]? = some a->b.stamp = a.stamp->(l.set q b).map Msg.stamp = l.map Msg.stamp
 | [],q,a,h,_=>by simp at h
 | m :: l,0,a,h,hb=>by simp at h; subst h; simp [hb]
 | m :: l,q + 1,a,h,hb=>by
  rw [List.set_cons_succ,List.map_cons,List.map_cons,zd2 (by simpa using h) hb]
theorem zqe (a:Eff) (v:ByteArray):(a.thenR ⟨2,v⟩).val.size≤a.val.size + v.size:=by
 unfold Eff.thenR
 by_cases h:a.kind = 0
 ·simp [h]
 ·simp only [h,ne_eq,not_true_eq_false,or_self,if_false,show ¬ ((2:Int) = 0) by omega]
  have:(z3q (a.val ++ v)).size≤(a.val ++ v).size:=by unfold z3q; rw [ByteArray.size_extract]; omega
  rw [ByteArray.size_append] at this
  exact this
theorem ze0 (a:Eff) (v:ByteArray) (hv:v.size≤16):(a.thenR ⟨2,v⟩).val.size≤16:=by
 unfold Eff.thenR
 by_cases h:a.kind = 0
 ·simp [h,hv]
 ·simp only [h,ne_eq,not_true_eq_false,or_self,if_false,show ¬ ((2:Int) = 0) by omega]
  exact zzh _
theorem join_more {m x:Msg} (h1:m.kind ≠ 4) (h2:x.kind = 2) (ht:x.span.touch m.span = true):(z3b m x).1.stamp = x.stamp∧(z3b m x).1.size≤m.size + x.size∧(x.right = true->(z3b m x).1.right = true):=by
 obtain ⟨hk,hj⟩:=zjc h1 h2 ht
 rw [hj,hk,y1a h2]
 have e1:=z8p (m.on x.key) x.val
 have e2:=zqe (m.on x.key) x.val
 have e3:=on_size m x.key
 refine ⟨rfl,?_,fun hr=>?_⟩
 ·unfold Msg.size
  simp only
  rw [if_neg (by omega),if_neg h1,if_neg (by omega)]
  omega
 ·have e4:=ze0 (m.on x.key) x.val
  unfold Msg.right at hr ⊢
  simp only at hr ⊢
  rw [if_neg (by omega)] at hr
  rw [if_neg (by omega)]
  simp only [Bool.and_eq_true,decide_eq_true_eq] at hr
  simp only [Bool.and_eq_true,decide_eq_true_eq]
  refine ⟨⟨⟨⟨hr.1.1.1.1,hr.1.1.1.2⟩,e4 hr.1.1.2⟩,hr.1.2⟩,hr.2.1,?_⟩
  rcases e1 with e | e <;> rw [e] <;> rfl
theorem SK.join {f:ByteArray->Eff} {st:List Int} {n i:Nat} {rest out:List Msg} (h:SK f st n i rest out) {m x:Msg} {j:Nat} (hm:rest[i]? = some m) (hn:z43 rest i = some j) (hx:rest[j]? = some x) (h4:m.kind ≠ 4) (h2:x.kind = 2):SK f st n (i + 1) (rest.set j (z3b m x).1) out:=by
 have hc:=zk5 hm
 have hij:=(ziu hn).1
 have ht:=z5w hm hn hx
 obtain ⟨j1,j2,j3,j4⟩:=zjb h4 h2 ht
 obtain ⟨k1,k2,k3⟩:=join_more h4 h2 ht
 obtain ⟨o1,o2⟩:=join_on h4 h2 ht
 obtain ⟨hk,_⟩:=zjc h4 h2 ht
 have hq:(rest.drop (i + 1))[j - (i + 1)]? = some x:=by rw [List.getElem?_drop,show i + 1 + (j - (i + 1)) = j by omega]; exact hx
 have hs:(rest.set j (z3b m x).1).drop (i + 1) = (rest.drop (i + 1)).set (j - (i + 1)) (z3b m x).1:=by
  rw [List.drop_set,if_neg (by omega)]
 have hxr:=h.right x (by rw [hc]; exact List.mem_append_right _ (List.mem_cons_of_mem _ (List.mem_of_getElem? hq)))
 refine ⟨fun y=>?_,fun a ha ha4 k z hk' hz hz4=>?_,h.pair,?_,?_,?_⟩
 ·rw [← h.on y,zdo,zdo,hc,z1e,hs]
  by_cases hy:y = x.key
  ·subst hy
   refine (y7p hq (fun p z hp hz=>?_) o1 (by rw [y1a h2]) _).symm
   rw [List.getElem?_drop] at hz
   have:=nextOf_mid hm hn (by omega) (by omega) hz
   rw [z2c h4,hk,zsu] at this
   exact zp9 this
  ·rw [zp9 (m:=m) (by rw [z2c h4,z3u,hk]; simp [hy]),z5f]
   exact zyl hq (o2 y hy) _
 ·rw [List.getElem?_set] at hz
  split at hz
  ·split at hz
   ·cases hz; exact absurd hz4 j3
   ·cases hz
  ·exact h.wip a ha ha4 k z (by omega) hz hz4
 ·refine Nat.le_trans ?_ h.size
  rw [z5o,z5o,hc,z2d,hs]
  have:=zt3 (b:=(z3b m x).1) hq
  omega
 ·refine List.Sublist.trans ?_ h.stamps
  rw [hs,List.map_append,List.map_append,zd2 hq k1,hc]
  exact List.Sublist.append_left (List.Sublist.map _ (List.sublist_cons_self _ _)) _
 ·intro z hz
  rw [hs] at hz
  rcases List.mem_append.1 hz with hz | hz
  ·exact h.right z (List.mem_append_left _ hz)
  ·rcases List.mem_or_eq_of_mem_set hz with hz | hz
   ·exact h.right z (by rw [hc]; exact List.mem_append_right _ (List.mem_cons_of_mem _ hz))
   ·subst hz; exact k3 hxr
theorem z4e {f:ByteArray->Eff} {st:List Int} {n:Nat}:∀ (g i:Nat) (rest out:List Msg),SK f st n i rest out->i + g = rest.length->∃ rest',rest'.length = rest.length∧SK f st n rest.length rest' (sqGo g i rest out)
 | 0,i,rest,out,h,hf=>⟨rest,rfl,by rw [← hf]; exact h⟩
 | g + 1,i,rest,out,h,hf=>by
  obtain ⟨m,hm⟩:∃ m,rest[i]? = some m:=⟨_,List.getElem?_eq_getElem (by omega)⟩
  simp only [sqGo,hm]
  by_cases hd:dead rest i = true
  ·rw [if_pos hd]
   exact z4e g (i + 1) rest out (h.skip hm hd) (by omega)
  ·rw [if_neg hd]
   cases hx:z43 rest i with
   | none =>
    simp only
    exact z4e g (i + 1) rest _ (h.add hm hd) (by omega)
   | some j =>
    obtain ⟨hij,x,hxj⟩:=ziu hx
    simp only [hxj]
    by_cases h4:m.kind = 4
    ·rw [if_pos h4]
     exact z4e g (i + 1) rest _ (h.add hm hd) (by omega)
    ·rw [if_neg h4]
     have hk:x.kind = 2:=by
      unfold dead at hd
      simp only [hm,hx,hxj,if_neg h4] at hd
      simpa using hd
     rw [if_pos (zjb h4 hk (z5w hm hx hxj)).1]
     have:=z4e g (i + 1) (rest.set j (z3b m x).1) out (h.join hm hx hxj h4 hk) (by rw [List.length_set]; omega)
     rw [List.length_set] at this
     exact this
theorem z8m:∀ l:List Msg,z2b l = true ↔ (∀ m,m ∈ l->m.right = true)∧(l.map Msg.stamp).Pairwise (· < ·)
 | []=>by simp [z2b]
 | [m]=>by simp [z2b]
 | m :: x :: l=>by
  have ih:=z8m (x :: l)
  rw [z2b]
  simp only [Bool.and_eq_true,decide_eq_true_eq,ih,List.map_cons,List.pairwise_cons,List.mem_cons,forall_eq_or_imp]
  refine ⟨fun ⟨⟨h1,h2⟩,⟨h3,h4⟩,h5,h6⟩=>⟨⟨h1,h3,h4⟩,⟨h2,fun a ha=>Int.lt_trans h2 (h5 a ha)⟩,h5,h6⟩,fun ⟨⟨h1,h3,h4⟩,⟨h2,_⟩,h5,h6⟩=>⟨⟨h1,h2⟩,⟨h3,h4⟩,h5,h6⟩⟩
theorem keeps (l:List Msg) (h:z2b l = true):(∀ y,z2o y Eff.none (z8s l) = z2o y Eff.none l)∧z38 (z8s l)≤z38 l∧z2b (z8s l) = true ∧
  ∀ (p q:Nat) (a x:Msg),p < q->(z8s l)[p]? = some a->(z8s l)[q]? = some x->a.kind = 4->x.kind = 4->a.span.within x.span = false:=by
 obtain ⟨h1,h2⟩:=(z8m l).1 h
 obtain ⟨rest',hl,hk⟩:=z4e (f:=fun y=>z2o y Eff.none l) (st:=l.map Msg.stamp) (n:=z38 l) l.length 0 l [] ⟨fun y=>rfl,(fun a ha=>by cases ha),(fun p q a x _ hp=>by simp at hp),Nat.le_refl _,List.Sublist.refl _,h1⟩ (by omega)
 have hd:rest'.drop l.length = []:=List.drop_eq_nil_of_le (by omega)
 obtain ⟨k1,_,k3,k4,k5,k6⟩:=hk
 rw [hd,List.append_nil] at k4 k5 k6
 refine ⟨fun y=>by have:=k1 y; rw [hd,List.append_nil] at this; exact this,k4,(z8m _).2 ⟨k6,h2.sublist k5⟩,k3⟩
end Go.Proofs.YtlhblpbfhfhlpaaGreat
end
