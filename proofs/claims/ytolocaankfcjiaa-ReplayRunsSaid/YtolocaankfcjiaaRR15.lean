/-
  Part 15 of a proof: HsF.
-/
import Derived.Test.YtolocaankfcjiaaRR14
set_option linter.unusedVariables false
set_option linter.unusedSimpArgs false
section
/-
 The least one first,again and again,is the stable order: the plain law.
-/
namespace Go.Proofs.Ytolocaankfcjiaa
open Go.RowKit
section
variable {α:Type} (key:α->Int) (ok:α->Bool)
/-- the least one,the first of its like,comes first -/
theorem srt_min {A B:List α} {x:α} (h1:∀ a,a ∈ A->key x < key a) (h2:∀ b,b ∈ B->key x≤key b):srt key (A ++ [x] ++ B) = x :: srt key (A ++ B):=by
 refine (zdi key (l:=A ++ [x] ++ B) (r:=x :: srt key (A ++ B)) ⟨fun y hy=>?_,z2k key _⟩ ?_).symm
 ·rcases List.mem_append.1 ((Stab.mem (z1p key (A ++ B))).1 hy) with q | q
  ·exact Int.le_of_lt (h1 y q)
  ·exact h2 y q
 ·refine Stab.trans (Y:=[x] ++ (A ++ B)) ?_ (Stab.app (X:=[x]) (X':=[x]) (Stab.refl key _) (z1p key _))
  rw [← List.append_assoc]
  refine Stab.app (Stab.swap (A:=A) (B:=[x]) fun a ha b hb=>?_) (Stab.refl key _)
  rw [List.mem_singleton.1 hb]; exact h1 a ha
/-- what is left: what counts and is not marked -/
def remG:List α->List Bool->List α
 | e :: l,b :: bs=>(if ok e && !b then [e] else []) ++ remG l bs
 | _,_=>[]
theorem zj6:∀ l:List α,remG ok l (List.replicate l.length false) = l.filter ok
 | []=>rfl
 | e :: l=>by
  show (if ok e && !false then [e] else []) ++ remG ok l (List.replicate l.length false) = _
  rw [zj6 l,List.filter_cons]
  cases ok e <;> rfl
theorem zpq:∀ {l:List α} {bs:List Bool} {j:Nat} {e:α} {b:Bool},l[j]? = some e->bs[j]? = some b ->
  remG ok l bs = remG ok (l.take j) (bs.take j) ++ (if ok e && !b then [e] else []) ++ remG ok (l.drop (j + 1)) (bs.drop (j + 1))
 | x :: l,c :: bs,0,e,b,h1,h2=>by cases h1; cases h2; simp [remG]
 | x :: l,c :: bs,j + 1,e,b,h1,h2=>by
  have:=zpq (l:=l) (bs:=bs) (j:=j) (by simpa using h1) (by simpa using h2)
  simp only [List.take_succ_cons,List.drop_succ_cons,remG]
  rw [this]; simp
theorem zsr:∀ {l:List α} {bs:List Bool} {j:Nat} {e:α} {b:Bool},l[j]? = some e->bs[j]? = some b ->
  remG ok l (bs.set j true) = remG ok (l.take j) (bs.take j) ++ remG ok (l.drop (j + 1)) (bs.drop (j + 1))
 | x :: l,c :: bs,0,e,b,h1,h2=>by cases h1; cases h2; simp [remG]
 | x :: l,c :: bs,j + 1,e,b,h1,h2=>by
  have:=zsr (l:=l) (bs:=bs) (j:=j) (by simpa using h1) (by simpa using h2)
  simp only [List.take_succ_cons,List.drop_succ_cons,remG,List.set_cons_succ]
  rw [this]; simp
/-- the first of the least among the first i -/
def Best (l:List α) (bs:List Bool) (i:Nat) (best:Int):Prop :=
 (best = -1∧remG ok (l.take i) (bs.take i) = [])∨∃ (p:Nat) (x:α),best = (p:Int)∧p < i∧l[p]? = some x∧bs[p]? = some false∧ok x = true ∧
  (∀ a,a ∈ remG ok (l.take p) (bs.take p)->key x < key a)∧∀ b,b ∈ remG ok ((l.take i).drop (p + 1)) ((bs.take i).drop (p + 1))->key x≤key b
theorem zbb:∀ {l:List α} {bs:List Bool} {e:α} {b:Bool},l.length = bs.length->remG ok (l ++ [e]) (bs ++ [b]) = remG ok l bs ++ (if ok e && !b then [e] else [])
 | [],[],e,b,_=>by simp [remG]
 | x :: l,c :: bs,e,b,h=>by
  show (if ok x && !c then [x] else []) ++ remG ok (l ++ [e]) (bs ++ [b]) = _
  rw [zbb (by simpa using h),remG,List.append_assoc]
theorem Best.skip {key:α->Int} {ok:α->Bool} {l:List α} {bs:List Bool} {i:Nat} {best:Int} {e:α} {b:Bool} (hl:l.length = bs.length) (h:Best key ok l bs i best) (he:l[i]? = some e) (hb:bs[i]? = some b)
  (hs:(ok e && !b) = false∨∃ (p:Nat) (x:α),best = (p:Int)∧l[p]? = some x∧key x≤key e):Best key ok l bs (i + 1) best:=by
 have hil:=(List.getElem?_eq_some_iff.1 he).1
 have e1:l.take (i + 1) = l.take i ++ [e]:=by rw [List.take_add_one,he]; rfl
 have e2:bs.take (i + 1) = bs.take i ++ [b]:=by rw [List.take_add_one,hb]; rfl
 rcases h with ⟨h1,h2⟩ | ⟨p,x,h1,h2,h3,h4,h5,h6,h7⟩
 ·rcases hs with hs | ⟨p,x,g1,_⟩
  ·refine .inl ⟨h1,?_⟩
   rw [e1,e2,zbb ok (by rw [List.length_take,List.length_take,hl]),h2,hs]; rfl
  ·omega
 ·refine .inr ⟨p,x,h1,by omega,h3,h4,h5,h6,fun z hz=>?_⟩
  rw [e1,e2,List.drop_append_of_le_length (by rw [List.length_take]; omega),List.drop_append_of_le_length (by rw [List.length_take]; omega),zbb ok (by rw [List.length_drop,List.length_drop,List.length_take,List.length_take,hl])] at hz
  rcases List.mem_append.1 hz with q | q
  ·exact h7 z q
  ·rcases hs with hs | ⟨p',x',g1,g2,g3⟩
   ·rw [hs] at q; cases q
   ·have:p' = p:=by omega
    subst this
    rw [h3] at g2; cases g2
    split at q
    ·rw [List.mem_singleton.1 q]; exact g3
    ·cases q
theorem Best.take {key:α->Int} {ok:α->Bool} {l:List α} {bs:List Bool} {i:Nat} {best:Int} {e:α} (hl:l.length = bs.length) (h:Best key ok l bs i best) (he:l[i]? = some e) (hb:bs[i]? = some false) (ho:ok e = true)
  (hs:best = -1∨∃ (p:Nat) (x:α),best = (p:Int)∧l[p]? = some x∧key e < key x):Best key ok l bs (i + 1) (i:Int):=by
 have hil:=(List.getElem?_eq_some_iff.1 he).1
 refine .inr ⟨i,e,rfl,by omega,he,hb,ho,fun a ha=>?_,fun b hb'=>?_⟩
 ·rcases h with ⟨h1,h2⟩ | ⟨p,x,h1,h2,h3,h4,h5,h6,h7⟩
  ·rw [h2] at ha; cases ha
  ·rcases hs with hs | ⟨p',x',g1,g2,g3⟩
   ·omega
   ·have:p' = p:=by omega
    subst this
    rw [h3] at g2; cases g2
    have hp:(l.take i)[p']? = some x:=by rw [List.getElem?_take,if_pos h2]; exact h3
    have hq:(bs.take i)[p']? = some false:=by rw [List.getElem?_take,if_pos h2]; exact h4
    rw [zpq ok hp hq,List.take_take,List.take_take,Nat.min_eq_left (by omega)] at ha
    rcases List.mem_append.1 ha with q | q
    ·rcases List.mem_append.1 q with q | q
     ·have:=h6 a q; omega
     ·rw [h5] at q
      rw [List.mem_singleton.1 q]; exact g3
    ·have:=h7 a q; omega
 ·rw [List.drop_eq_nil_of_le (by rw [List.length_take]; omega)] at hb'
  cases hb'
/-- when all are looked at: there is none,or the first of the least goes -/
theorem Best.done {key:α->Int} {ok:α->Bool} {l:List α} {bs:List Bool} {best:Int} (hl:l.length = bs.length) (h:Best key ok l bs l.length best) :
  (best = -1∧srt key (remG ok l bs) = [])∨∃ (p:Nat) (x:α),best = (p:Int)∧p < l.length∧l[p]? = some x∧bs[p]? = some false∧srt key (remG ok l bs) = x :: srt key (remG ok l (bs.set p true)):=by
 rcases h with ⟨h1,h2⟩ | ⟨p,x,h1,h2,h3,h4,h5,h6,h7⟩
 ·rw [List.take_of_length_le (Nat.le_refl _),List.take_of_length_le (by omega)] at h2
  exact .inl ⟨h1,by rw [h2]; rfl⟩
 ·rw [List.take_of_length_le (Nat.le_refl _),List.take_of_length_le (by omega)] at h7
  refine .inr ⟨p,x,h1,h2,h3,h4,?_⟩
  rw [zpq ok h3 h4,zsr ok h3 h4,h5]
  exact srt_min key h6 h7
end
end Go.Proofs.Ytolocaankfcjiaa
end
