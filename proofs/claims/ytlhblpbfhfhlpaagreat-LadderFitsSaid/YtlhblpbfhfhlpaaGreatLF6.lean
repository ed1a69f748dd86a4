/-
  Part 6 of a proof: AmO, AmP.
-/
import Derived.Test.YtlhblpbfhfhlpaaGreatLF5
set_option linter.unusedVariables false
set_option linter.unusedSimpArgs false
section
namespace Go.Proofs.YtlhblpbfhfhlpaaGreat
open Go.RowKit
inductive SameX:Exit->XK->Prop
 | normal:SameX .normal .normal
 | exit (id:Nat):SameX (.exit id) (.exit id)
 | ret:SameX .ret .ret
def Post (w0:Start) (Pr0:Nat->Nat->Prop) (n:Nat) (Q:XK->St->Prop):Exit->Act->World->Prop :=
 fun e a w=>∃ x μ σ,SameX e x∧Q x σ∧SR w0 Pr0 n μ σ a w
theorem zy2 {F:(XK->St->Prop)->St->Prop} (hF:∀ (Q Q':XK->St->Prop),(∀ e σ,Q e σ->Q' e σ)->∀ σ,F Q σ->F Q' σ) {Q Q':XK->St->Prop} (h:∀ e σ,Q e σ->Q' e σ):∀ n σ,iter F Q n σ->iter F Q' n σ
 | 0,_,h=>h.elim
 | n + 1,σ,hi=>by
  refine hF _ _ (fun e σ hq=>?_) σ hi
  cases e with
  | normal=>exact zy2 hF h n σ hq
  | exit id=>exact h _ _ hq
  | ret=>exact h _ _ hq
theorem z1v {σ:St} {dst:Option Nat} {K K':St->Prop} (h:∀ σ,K σ->K' σ) {io:IOp} (hE:z13 σ dst K io):z13 σ dst K' io:=by
 cases io with
 | store z p x =>
  simp only [z13] at hE ⊢
  split at hE
  ·split at hE
   ·split at hE
    ·split at hE
     ·obtain ⟨a1,a2,a3,a4,hK⟩:=hE
      exact ⟨a1,a2,a3,a4,h _ hK⟩
     ·exact hE.elim
    ·exact hE.elim
   ·exact hE.elim
  ·exact hE.elim
 | append z ty bytes x y =>
  simp only [z13] at hE ⊢
  split at hE
  ·split at hE
   ·obtain ⟨a0,a1,a2,a3,a4,a5,hK,hK2⟩:=hE
    exact ⟨a0,a1,a2,a3,a4,a5,h _ hK,fun q=>h _ (hK2 q)⟩
   ·exact hE.elim
  ·exact hE.elim
 | nileq neq x =>
  simp only [z13] at hE ⊢
  split at hE
  ·exact ⟨fun e=>h _ (hE.1 e),h _ hE.2⟩
  ·exact ⟨hE.1,fun e=>h _ (hE.2.1 e),h _ hE.2.2⟩
  ·exact hE.elim
 | copy z x y =>
  simp only [z13] at hE ⊢
  split at hE
  ·split at hE
   ·obtain ⟨a1,a2,a3,a4,a5,hK⟩:=hE
    exact ⟨a1,a2,a3,a4,a5,h _ hK⟩
   ·exact hE.elim
  ·exact hE.elim
 | storep z p x =>
  simp only [z13] at hE ⊢
  split at hE
  ·split at hE
   ·split at hE
    ·obtain ⟨a1,a2,a3,a4,hK⟩:=hE
     exact ⟨a1,a2,a3,a4,fun u hu=>h _ (hK u hu)⟩
    ·exact hE.elim
   ·exact hE.elim
  ·split at hE
   ·split at hE
    ·obtain ⟨a1,a2,a3,hK⟩:=hE
     exact ⟨a1,a2,a3,h _ hK⟩
    ·exact hE.elim
   ·exact hE.elim
  ·exact hE.elim
 | _=>exact hE.elim
theorem z3o {C:FuncId->List AV->AV->Prop} {dst:Nat} {hid:List Nat} {σ:St} {K K':AV->Option Arr->List Nat->Prop} (h:∀ v s f,K v s f->K' v s f) {io:IOp} (hE:z0y C dst hid σ K io):z0y C dst hid σ K' io:=by
 obtain ⟨v,s,fz,h1,_,h2⟩:=zju hE
 exact h2 σ K' (Alike.refl _ _ _) (h _ _ _ h1)
theorem z56 {σ:St} {g:Option (Nat × Bool)} {y y' n n':St->Prop} (hy:∀ σ,y σ->y' σ) (hn:∀ σ,n σ->n' σ) (h:z1i σ g y n):z1i σ g y' n':=by
 unfold z1i at h ⊢
 cases g with
 | none=>exact hy _ h
 | some g =>
  obtain ⟨t,w⟩:=g
  simp only at h ⊢
  split at h
  ·exact ⟨fun e=>hy _ (h.1 e),fun e=>hn _ (h.2 e)⟩
  ·exact hn _ h
  ·exact h.elim
theorem z19 {C:FuncId->List AV->AV->Prop} {K K':St->Prop} (h:∀ σ,K σ->K' σ):∀ {l:List ROp} {σ:St},z0j C l σ K->z0j C l σ K'
 | [],_,hE=>h _ hE
 | r :: l,σ,hE=>by
  simp only [z0j] at hE ⊢
  refine z56 (fun σ hs=>?_) (fun σ hs=>z19 h hs) hE
  unfold z8r at hs ⊢
  split at hs
  ·rename_i hm; rw [if_pos hm]; exact z1v (fun σ=>z19 h) hs
  ·rename_i hm
   rw [if_neg hm]
   cases hd:r.dst with
   | none=>rw [hd] at hs; exact hs.elim
   | some dst=>rw [hd] at hs; exact z3o (fun v s f hk=>⟨hk.1,z19 h hk.2⟩) hs
theorem zpv {F0 hid wr:List Nat} {σ:St} {K K':Nat->Arr->Prop} (h:∀ r a,K r a->K' r a) {io:IOp} (hE:zyp F0 hid wr σ K io):zyp F0 hid wr σ K' io:=by
 cases io with
 | store z p x =>
  simp only [zyp] at hE ⊢
  split at hE
  ·obtain ⟨a1,a2,a3,hE⟩:=hE
   refine ⟨a1,a2,a3,?_⟩
   split at hE
   ·obtain ⟨a4,hE⟩:=hE
    refine ⟨a4,?_⟩
    split at hE
    ·split at hE
     ·exact ⟨hE.1,hE.2.1,hE.2.2.1,hE.2.2.2.1,h _ _ hE.2.2.2.2⟩
     ·exact hE.elim
    ·exact hE.elim
   ·exact hE.elim
  ·exact hE.elim
 | _=>exact hE.elim
theorem z0i {C:FuncId->List AV->AV->Prop} {F0:List Nat} {K K':St->Prop} (h:∀ σ,K σ->K' σ):∀ {l:List ROp} {σ:St},z0q C F0 l σ K->z0q C F0 l σ K'
 | [],_,hE=>h _ hE
 | r :: l,σ,hE=>by
  simp only [z0q] at hE ⊢
  refine z56 (fun σ hs=>?_) (fun σ hs=>?_) hE
  ·cases hd:r.dst with
   | none=>rw [hd] at hs; exact zpv (fun r a hk=>z0i h hk) hs
   | some dst=>rw [hd] at hs; exact z3o (fun v s f hk=>⟨hk.1,hk.2.1,z0i h hk.2.2⟩) hs
  ·cases hd:r.dst with
   | none=>rw [hd] at hs; exact z0i h hs
   | some dst=>rw [hd] at hs; exact z0i h hs
theorem zpu {P:Program} {C:FuncId->List AV->AV->Prop} {K K':St->Prop} (h:∀ σ,K σ->K' σ) {x:XOp} {σ:St} (hE:z1k P C x σ K):z1k P C x σ K':=by
 cases x with
 | op k r=>exact z19 h hE
 | nilck d x g =>
  simp only [z1k] at hE ⊢
  refine z56 (fun σ hs=>?_) (fun σ hs=>h _ hs) hE
  unfold zpa at hs ⊢
  split at hs
  ·exact ⟨hs.1,h _ hs.2⟩
  ·exact h _ hs
  ·exact hs.elim
 | mkclo d f x =>
  simp only [z1k] at hE ⊢
  split at hE
  ·exact ⟨hE.1,h _ hE.2⟩
  ·exact hE.elim
 | mkmap d ty=>exact h _ hE
 | mlook d ok m k z g =>
  simp only [z1k] at hE ⊢
  refine z56 (fun σ hs=>?_) (fun σ hs=>h _ hs) hE
  unfold zpc at hs ⊢
  split at hs
  ·exact h _ hs
  ·exact hs.elim
 | mupd m k x =>
  simp only [z1k] at hE ⊢
  unfold ziw at hE ⊢
  split at hE
  ·exact ⟨hE.1,hE.2.1,h _ hE.2.2⟩
  ·exact hE.elim
 | mcall d fx xs =>
  simp only [z1k] at hE ⊢
  split at hE
  ·split at hE
   ·obtain ⟨r,H',h1,h2⟩:=hE
    exact ⟨r,H',h1,h _ h2⟩
   ·obtain ⟨h0,r,H',h1,h2⟩:=hE
    exact ⟨h0,r,H',h1,h _ h2⟩
   ·exact hE.elim
  ·exact hE.elim
 | wcall d fx xs =>
  simp only [z1k] at hE ⊢
  split at hE
  ·split at hE
   ·obtain ⟨r,H',h1,h2⟩:=hE
    exact ⟨r,H',h1,h _ h2⟩
   ·exact hE.elim
  ·exact hE.elim
 | gcall d fx xs =>
  simp only [z1k] at hE ⊢
  split at hE
  ·split at hE
   ·obtain ⟨h0,S,res,R,h1,h2,h3⟩:=hE
    exact ⟨h0,S,res,R,h1,h2,fun S' hR=>h _ (h3 S' hR)⟩
   ·exact hE.elim
  ·exact hE.elim
theorem z3x {P:Program} {C:FuncId->List AV->AV->Prop} {K K':St->Prop} (h:∀ σ,K σ->K' σ):∀ {l:List XOp} {σ:St},z12 P C l σ K->z12 P C l σ K'
 | [],_,hE=>h _ hE
 | x :: l,σ,hE=>zpu (fun σ=>z3x h) hE
theorem zps {K K':St->Prop} (h:∀ σ,K σ->K' σ):∀ {l:List GIni} {σ:St},z93 l σ K->z93 l σ K'
 | [],σ,hE=>h _ hE
 | g :: l,σ,hE=>⟨hE.1,hE.2.1,zps h hE.2.2⟩
theorem z3k {C:FuncId->List AV->AV->Prop}:∀ (c:IR) {Q Q':XK->St->Prop},(∀ e σ,Q e σ->Q' e σ)->∀ σ,awp C c Q σ->awp C c Q' σ
 | .gini l,Q,Q',h,σ,hE=>zps (h .normal) hE
 | .skip,Q,Q',h,σ,hE=>h _ _ hE
 | .reg g,Q,Q',h,σ,hE=>by
  simp only [awp,z3y] at hE ⊢
  split at hE
  ·rename_i hd; rw [if_pos hd]; exact z0i (fun σ=>z19 (h .normal)) hE
  ·rename_i hd; rw [if_neg hd]; exact z19 (h .normal) hE
 | .regw g s,Q,Q',h,σ,hE=>by
  simp only [awp,z6o] at hE ⊢
  split at hE
  ·refine ⟨hE.1,?_⟩
   have hE:=hE.2
   simp only [z3y] at hE ⊢
   split at hE
   ·rename_i hd; rw [if_pos hd]; exact z0i (fun σ=>z19 (h .normal)) hE
   ·rename_i hd; rw [if_neg hd]; exact z19 (h .normal) hE
  ·exact hE.elim
 | .regd P g l,Q,Q',h,σ,hE=>by
  simp only [awp,z95] at hE ⊢
  exact z0i (fun σ=>z3x (h .normal)) hE
 | .regp P g z s0 tp tv l,Q,Q',h,σ,hE=>by
  simp only [awp,z94] at hE ⊢
  refine z0i (fun σ hs=>?_) hE
  unfold zjt at hs ⊢
  split at hs
  ·exact ⟨hs.1,hs.2.1,z1v (fun σ=>z3x (h .normal)) hs.2.2⟩
  ·exact hs.elim
 | .regm P g lt mo ko vo l,Q,Q',h,σ,hE=>by
  simp only [awp,zdr] at hE ⊢
  refine z0i (fun σ hs=>⟨hs.1,hs.2.1,?_⟩) hE
  have hs:=hs.2.2
  unfold ziw at hs ⊢
  split at hs
  ·exact ⟨hs.1,hs.2.1,z3x (h .normal) hs.2.2⟩
  ·exact hs.elim
 | .regx P l,Q,Q',h,σ,hE=>z3x (h .normal) hE
 | .seq x y,Q,Q',h,σ,hE=>by
  simp only [awp] at hE ⊢
  refine z3k x (fun e σ hq=>?_) σ hE
  cases e with
  | normal=>exact z3k y h σ hq
  | exit id=>exact h _ _ hq
  | ret=>exact h _ _ hq
 | .cond c x y,Q,Q',h,σ,hE=>by
  simp only [awp] at hE ⊢
  split at hE
  ·exact ⟨fun e=>z3k x h σ (hE.1 e),fun e=>z3k y h σ (hE.2 e)⟩
  ·exact hE.elim
 | .block id b,Q,Q',h,σ,hE=>by
  simp only [awp] at hE ⊢
  refine z3k b (fun e σ hq=>?_) σ hE
  cases e with
  | normal=>exact h _ _ hq
  | exit j =>
   simp only [z5c] at hq ⊢
   split at hq
   ·rename_i e; rw [if_pos e]; exact h _ _ hq
   ·rename_i e; rw [if_neg e]; exact h _ _ hq
  | ret=>exact h _ _ hq
 | .loop b,Q,Q',h,σ,hE=>by
  simp only [awp] at hE ⊢
  obtain ⟨k,hk⟩:=hE
  exact ⟨k,zy2 (fun Q Q' h'=>z3k b h') h k σ hk⟩
 | .exit id,Q,Q',h,σ,hE=>h _ _ hE
 | .ret,Q,Q',h,σ,hE=>h _ _ hE
section
variable {pv:Bool} {P:Program} {w0:Start} {Pr0:Nat->Nat->Prop} {n:Nat}
theorem z3n {a:Act} {w:World}:∀ {l:List GIni} {μ:Nat->Option Nat} {σ:St} {K:St->Prop},SR w0 Pr0 n μ σ a w->z93 l σ K->∃ μ' σ',K σ'∧SR w0 Pr0 n μ' σ' a w
 | [],μ,σ,K,h,hE=>⟨μ,σ,hE,h⟩
 | g :: l,μ,σ,K,h,hE=>by
  obtain ⟨h1,h2,hE⟩:=hE
  have hk:=h.kill g.q h1
  obtain ⟨hA,hμ⟩:=hk.adoptNil h1 (z03 _ _ _) (fun t e=>by
   have e:(if (σ.T t).name = some g.q then keepV σ.H (σ.T t) else σ.T t).name = some g.q:=e
   split at e
   ·rw [z3m] at e; cases e
   ·rename_i hne; exact hne e) (z:=g.z) (ty:=g.ty) h2
  exact z3n (SR.ghost hA (t:=vt g.r g.j) (d:=.vrs g.q 0 0 (.slice none 0 0)) (fun v arr ha=>.inl ⟨hμ,rfl,rfl,rfl⟩)) hE
theorem z2g (hm:P.follows .mixedOrders = true) {hint:Nat->List Nat}:∀ (c:Code) {ir:IR},comp pv P n hint c = some ir->∀ {Q:XK->St->Prop} {μ:Nat->Option Nat} {σ:St} {a:Act} {w:World},SR w0 Pr0 n μ σ a w->awp (AFn P) ir Q σ->c.wp P (Post w0 Pr0 n Q) a w
 | .skip,ir,hc,Q,μ,σ,a,w,hS,hE=>by
  cases hc
  exact wp_skip ⟨.normal,μ,σ,.normal,hE,hS⟩
 | .region id ops draw,ir,hc,Q,μ,σ,a,w,hS,hE=>by
  simp only [comp] at hc
  split at hc
  ·rename_i hd
   split at hc
   case h_2=>cases hc; exact (show False from hE).elim
   rename_i l hl
   cases hc
   have hdraw:draw = false:=by
    cases draw with
    | false=>rfl
    | true=>simp at hd
   subst hdraw
   unfold zkj at hE
   split at hE
   ·split at hE
    ·exact zba hl hS hE (fun μ' σ' a' w' hk hS'=>⟨.normal,μ',σ',.normal,hk,hS'⟩)
    ·simp only [awp,z2h] at hE
     exact zba hl hS hE (fun μ' σ' a' w' hk hS'=>let ⟨μ2,σ2,k1,k2⟩:=z3n hS' hk; ⟨.normal,μ2,σ2,.normal,k1,k2⟩)
   ·exact zba hl hS hE (fun μ' σ' a' w' hk hS'=>⟨.normal,μ',σ',.normal,hk,hS'⟩)
  ·split at hc
   ·rename_i p hp
    cases hc
    unfold zkj at hE
    split at hE
    ·split at hE
     ·exact zbb hm hp hS hE (fun μ' σ' a' w' hk hS'=>⟨.normal,μ',σ',.normal,hk,hS'⟩)
     ·simp only [awp,z2h] at hE
      exact zbb hm hp hS hE (fun μ' σ' a' w' hk hS'=>let ⟨μ2,σ2,k1,k2⟩:=z3n hS' hk; ⟨.normal,μ2,σ2,.normal,k1,k2⟩)
    ·exact zbb hm hp hS hE (fun μ' σ' a' w' hk hS'=>⟨.normal,μ',σ',.normal,hk,hS'⟩)
   split at hc
   ·rename_i g hg
    cases hc
    unfold zkj at hE
    split at hE
    ·split at hE
     ·exact z5q hm hg hS hE (fun μ' σ' a' w' hk hS'=>⟨.normal,μ',σ',.normal,hk,hS'⟩)
     ·simp only [awp] at hE
      exact z5q hm hg hS hE (fun μ' σ' a' w' hk hS'=>let ⟨μ2,σ2,k1,k2⟩:=z3n hS' hk; ⟨.normal,μ2,σ2,.normal,k1,k2⟩)
    ·exact z5q hm hg hS hE (fun μ' σ' a' w' hk hS'=>⟨.normal,μ',σ',.normal,hk,hS'⟩)
   split at hc
   ·rename_i p hp
    cases hc
    unfold zkj at hE
    split at hE
    ·split at hE
     ·exact zbd hm hp hS hE (fun μ' σ' a' w' hk hS'=>⟨.normal,μ',σ',.normal,hk,hS'⟩)
     ·simp only [awp,z2h] at hE
      exact zbd hm hp hS hE (fun μ' σ' a' w' hk hS'=>let ⟨μ2,σ2,k1,k2⟩:=z3n hS' hk; ⟨.normal,μ2,σ2,.normal,k1,k2⟩)
    ·exact zbd hm hp hS hE (fun μ' σ' a' w' hk hS'=>⟨.normal,μ',σ',.normal,hk,hS'⟩)
   ·split at hc
    case h_2=>cases hc; exact (show False from hE).elim
    rename_i p hp
    cases hc
    unfold zkj at hE
    split at hE
    ·split at hE
     ·exact zbc hm hp hS hE (fun μ' σ' a' w' hk hS'=>⟨.normal,μ',σ',.normal,hk,hS'⟩)
     ·simp only [awp,z2h] at hE
      exact zbc hm hp hS hE (fun μ' σ' a' w' hk hS'=>let ⟨μ2,σ2,k1,k2⟩:=z3n hS' hk; ⟨.normal,μ2,σ2,.normal,k1,k2⟩)
    ·exact zbc hm hp hS hE (fun μ' σ' a' w' hk hS'=>⟨.normal,μ',σ',.normal,hk,hS'⟩)
 | .seq x y,ir,hc,Q,μ,σ,a,w,hS,hE=>by
  simp only [comp] at hc
  split at hc
  ·rename_i ix iy hx hy
   cases hc
   refine wp_seq (wp_mono (z2g hm x hx hS hE) ?_)
   rintro e a' w' ⟨k,μ',σ',hs,hq,hS'⟩
   cases hs with
   | normal=>exact z2g hm y hy hS' hq
   | exit id=>exact ⟨_,μ',σ',.exit id,hq,hS'⟩
   | ret=>exact ⟨_,μ',σ',.ret,hq,hS'⟩
  ·cases hc
 | .cond c x y,ir,hc,Q,μ,σ,a,w,hS,hE=>by
  simp only [comp] at hc
  split at hc
  ·rename_i ic ix iy h1 hx hy
   cases hc
   simp only [awp] at hE
   have tc:=hS.get h1
   split at hE
   ·rename_i b e
    rw [e] at tc
    cases b with
    | true=>exact wp_cond_true tc.bool (z2g hm x hx hS (hE.1 rfl))
    | false=>exact wp_cond_false tc.bool (z2g hm y hy hS (hE.2 rfl))
   ·exact hE.elim
  ·cases hc
 | .block id b,ir,hc,Q,μ,σ,a,w,hS,hE=>by
  simp only [comp,Option.map_eq_some_iff] at hc
  obtain ⟨ib,hb,rfl⟩:=hc
  refine wp_block (wp_mono (z2g hm b hb hS hE) ?_)
  rintro e a' w' ⟨k,μ',σ',hs,hq,hS'⟩
  cases hs with
  | normal=>exact ⟨_,μ',σ',.normal,hq,hS'⟩
  | exit j =>
   simp only [z5c] at hq
   by_cases e:j = id
   ·subst e
    rw [if_pos rfl] at hq
    simp only [Exit.inBlock,if_true]
    exact ⟨_,μ',σ',.normal,hq,hS'⟩
   ·rw [if_neg e] at hq
    simp only [Exit.inBlock,if_neg e]
    exact ⟨_,μ',σ',.exit j,hq,hS'⟩
  | ret=>exact ⟨_,μ',σ',.ret,hq,hS'⟩
 | .loop b,ir,hc,Q,μ,σ,a,w,hS,hE=>by
  simp only [comp,Option.map_eq_some_iff] at hc
  obtain ⟨ib,hb,rfl⟩:=hc
  simp only [awp] at hE
  obtain ⟨k,hk⟩:=hE
  refine wp_loop_rounds k ?_
  have key:∀ (k:Nat) {μ:Nat->Option Nat} {σ:St} {a:Act} {w:World},SR w0 Pr0 n μ σ a w->iter (awp (AFn P) ib) Q k σ->Code.rounds P b (Post w0 Pr0 n Q) k a w:=by
   intro k
   induction k with
   | zero=>intro μ σ a w _ h; exact h.elim
   | succ k ih =>
    intro μ σ a w hS hi
    rw [rounds_succ]
    refine wp_mono (z2g hm b hb hS hi) ?_
    rintro e a' w' ⟨x,μ',σ',hs,hq,hS'⟩
    cases hs with
    | normal=>exact ih hS' hq
    | exit j=>exact ⟨_,μ',σ',.exit j,hq,hS'⟩
    | ret=>exact ⟨_,μ',σ',.ret,hq,hS'⟩
  exact key k hS hk
 | .exit id,ir,hc,Q,μ,σ,a,w,hS,hE=>by
  cases hc
  exact wp_exit ⟨_,μ,σ,.exit id,hE,hS⟩
 | .ret,ir,hc,Q,μ,σ,a,w,hS,hE=>by
  cases hc
  exact wp_ret ⟨_,μ,σ,.ret,hE,hS⟩
 | .rangeFunc ..,ir,hc,Q,μ,σ,a,w,hS,hE=>by cases hc
 | .scope ..,ir,hc,Q,μ,σ,a,w,hS,hE=>by cases hc
 | .label ..,ir,hc,Q,μ,σ,a,w,hS,hE=>by cases hc
 | .goto ..,ir,hc,Q,μ,σ,a,w,hS,hE=>by cases hc
 | .refuse ..,ir,hc,Q,μ,σ,a,w,hS,hE=>by cases hc
end
inductive RDesc where
 | tmp (t:Nat)
 | cell (p z:Nat) (agg:Bool)
def z1b (P:Program):List ResultVar->Option (List RDesc)
 | []=>some []
 | .tmp t :: l=>(z1b P l).map (.tmp t :: ·)
 | .cell p t :: l=>match tyOf P t,z1b P l with
  | some (z,agg),some l=>if agg || z == 1 then some (.cell p z agg :: l) else none
  | _,_=>none
def resV (σ:St) (d:RDesc) (K:AV->List Nat->Prop):Prop :=
 match d with
 | .tmp t=>match σ.byval [] (σ.T t) with
  | some (v,fz)=>K v fz
  | none=>False
 | .cell p z agg=>z05 [] σ K (.load z agg (.t p))
def resVs (σ:St):List RDesc->(List AV->List Nat->Prop)->Prop
 | [],K=>K [] []
 | d :: l,K=>resV σ d fun v f=>resVs σ l fun vs fs=>K (v :: vs) (f ++ fs)
def retV (ds:List RDesc) (r:AV) (σ:St):Prop :=
 match ds with
 | [.tmp t]=>(match r with
  | .own z ty l=>(match σ.T t with
   | .rs x 0 len=>(match σ.H x with
    | some arr=>arr.prot = 0∧arr.z = z∧arr.ty = ty∧len = arr.cells.length∧l = arr.cells
    | none=>False)
   | _=>False)
  | .mv es=>(match σ.T t with
   | .mp x es'=>(σ.H x).isSome = true∧es' = es
   | .mv es'=>es' = es
   | _=>False)
  | r=>resV σ (.tmp t) fun v _=>r = v)
 | [d]=>(match r with
  | .own ..=>False
  | r=>resV σ d fun v _=>r = v)
 | ds=>resVs σ ds fun vs _=>r = .tup vs
def z0b (args:List AV):St:=⟨fun t=>args.getD t .und,fun _=>none⟩
def endQ (ds:List RDesc) (r:AV):XK->St->Prop
 | .ret,σ=>retV ds r σ
 | .normal,σ=>retV ds r σ
 | .exit _,_=>False
structure FnIR (P:Program) (f:FuncId) where
 n:Nat
 body:IR
 res:List RDesc
structure FnIR.Ok (P:Program) (f:FuncId) (F:FnIR P f):Prop where
 ok:zd5 P f = true
 body:∃ pv fn c hint,P.funcs[f]? = some fn∧fn.body = some c∧fn.ntmps = F.n∧comp pv P F.n hint c = some F.body∧z1b P fn.results.toList = some F.res
section
variable {pv:Bool} {P:Program} {w0:Start} {Pr0:Nat->Nat->Prop} {n:Nat} {μ:Nat->Option Nat} {σ:St} {a:Act} {w:World}
theorem frozenKept (h:SR w0 Pr0 n μ σ a w) {σ':St} {f:List Nat} (hf:∀ s arr,σ.H s = some arr->∃ arr',σ'.H s = some arr'∧Frozen arr arr'∧(s ∈ f->arr'.prot = arr.cells.length)):Kept (PrOf w0 Pr0 μ σ.H) (PrOf w0 Pr0 μ σ'.H) w w:=by
 refine ⟨Nat.le_refl _,fun b o _ hp=>⟨hp.1,fun s hs=>?_⟩,fun _ _ _ _=>rfl,fun _ _ _ _ _ h=>h⟩
 obtain ⟨arr,q1,q2⟩:=hp.2 s hs
 obtain ⟨arr',p1,p2,_⟩:=hf s arr q1
 refine ⟨arr',p1,?_⟩
 rw [p2.z]
 rcases p2.prot with e | e <;> rw [e]
 ·exact q2
 ·exact Nat.lt_of_lt_of_le q2 (Nat.mul_le_mul_right _ (h.obj s arr q1).2.1)
def ztt (tmps:Array Value):ResultVar->Sem Value
 | .tmp t=>pure (tmps.getD t undef)
 | .cell p t=>do loadVar t (← asAddr (tmps.getD p undef))
theorem zb9 {rv:ResultVar} {d:RDesc} (hd:∃ l,z1b P [rv] = some (d :: l)) (h:SR w0 Pr0 n μ σ a w) {K:AV->List Nat->Prop} (hE:resV σ d K) :
  ∃ v fz u,K v fz∧(ztt a.tmps rv).run P w = .ok u w∧∀ σ',SR w0 Pr0 n μ σ' a w->(∀ s arr,σ.H s = some arr->∃ arr',σ'.H s = some arr'∧Frozen arr arr'∧(s ∈ fz->arr'.prot = arr.cells.length))->VR (PrOf w0 Pr0 μ σ'.H) w v u:=by
 obtain ⟨l,hd⟩:=hd
 cases rv with
 | tmp t =>
  simp only [z1b,Option.map_some,Option.some.injEq,List.cons.injEq] at hd
  obtain ⟨rfl,_⟩:=hd
  simp only [resV] at hE
  split at hE
  ·rename_i v fz hbv
   exact ⟨v,fz,_,hE,rfl,fun σ' hS' hf=>h.byval hbv (h.tmp t) hS' hf⟩
  ·exact hE.elim
 | cell p t =>
  simp only [z1b] at hd
  split at hd
  ·rename_i z agg l' ht hl
   split at hd
   ·rename_i hz
    simp only [Option.some.injEq,List.cons.injEq] at hd
    obtain ⟨rfl,_⟩:=hd
    simp only [resV] at hE
    obtain ⟨v,u,ad,hK,had,hrun,hv⟩:=zxy (P:=P) (x:=.tmp p) (ix:=.t p) ht hz rfl h hE
    have hev:a.eval (.tmp p) = a.tmps.getD p undef:=by simp [Act.eval,Array.getD_eq_getD_getElem?]
    rw [hev] at had hrun
    rw [had] at hrun
    refine ⟨v,[],u,hK,?_,fun σ' hS' hf=>hv.kept (frozenKept h hf)⟩
    simp only [ztt,Sem.run_bind,had,asAddr,Sem.run_pure,Result.andThen_ok]
    simpa [Instr.loadAt,Instr.sureAddr] using hrun
   ·cases hd
  ·cases hd
theorem z0s {rv:ResultVar} {l:List ResultVar} {ds:List RDesc} (h:z1b P (rv :: l) = some ds):∃ d ds',ds = d :: ds'∧z1b P [rv] = some [d]∧z1b P l = some ds':=by
 cases rv with
 | tmp t =>
  simp only [z1b,Option.map_eq_some_iff] at h
  obtain ⟨ds',h1,rfl⟩:=h
  exact ⟨_,ds',rfl,rfl,h1⟩
 | cell p t =>
  simp only [z1b] at h ⊢
  split at h
  ·rename_i z agg l' h1 h2
   split at h
   ·rename_i hz
    cases h
    refine ⟨.cell p z agg,l',rfl,?_,h2⟩
    rw [h1]; simp only; rw [if_pos hz]
   ·cases h
  ·cases h
theorem z81 (h:SR w0 Pr0 n μ σ a w):∀ {l:List ResultVar} {ds:List RDesc},z1b P l = some ds->∀ {K:List AV->List Nat->Prop},resVs σ ds K ->
  ∃ (vs:List AV) (fs:List Nat) (us:List Value),K vs fs∧vs.length = us.length∧l.length = us.length∧(∀ (j:Nat) (rv:ResultVar) (u:Value),l[j]? = some rv->us[j]? = some u->(ztt a.tmps rv).run P w = .ok u w) ∧
   ∀ σ',SR w0 Pr0 n μ σ' a w->(∀ s arr,σ.H s = some arr->∃ arr',σ'.H s = some arr'∧Frozen arr arr'∧(s ∈ fs->arr'.prot = arr.cells.length))->∀ (j:Nat) (v:AV) (u:Value),vs[j]? = some v->us[j]? = some u->VR (PrOf w0 Pr0 μ σ'.H) w v u
 | [],ds,hc,K,hE=>by
  cases hc
  exact ⟨[],[],[],hE,rfl,rfl,(fun j rv u hj=>by simp at hj),(fun σ' _ _ j v u hj=>by simp at hj)⟩
 | rv :: l,ds,hc,K,hE=>by
  obtain ⟨d,ds',rfl,h1,h2⟩:=z0s hc
  simp only [resVs] at hE
  obtain ⟨v,fz,u,hK,hrun,hv⟩:=zb9 ⟨[],h1⟩ h hE
  obtain ⟨vs,fs,us,hK2,hl,hl2,hrun2,hvs⟩:=z81 h h2 hK
  refine ⟨v :: vs,fz ++ fs,u :: us,hK2,by simp [hl],by simp [hl2],fun j rv' u' hj hu=>?_,fun σ' hS' hf j v' u' hj hu=>?_⟩
  ·cases j with
   | zero=>cases hj; cases hu; exact hrun
   | succ j=>exact hrun2 j rv' u' (by simpa using hj) (by simpa using hu)
  ·cases j with
   | zero =>
    cases hj; cases hu
    exact hv σ' hS' (fun s arr hs=>let ⟨a',q1,q2,q3⟩:=hf s arr hs; ⟨a',q1,q2,fun hm=>q3 (List.mem_append.2 (.inl hm))⟩)
   | succ j=>exact hvs σ' hS' (fun s arr hs=>let ⟨a',q1,q2,q3⟩:=hf s arr hs; ⟨a',q1,q2,fun hm=>q3 (List.mem_append.2 (.inr hm))⟩) j v' u' (by simpa using hj) (by simpa using hu)
def z2k:List Value->Value
 | [u]=>u
 | us=>.tuple us.toArray
theorem z2t {fn:Func} {rv:List ResultVar} {us:List Value} {tmps:Array Value} (hr:fn.results.toList = rv) (hlen:rv.length≤3) (hl:rv.length = us.length) (h:∀ (j:Nat) (r:ResultVar) (u:Value),rv[j]? = some r->us[j]? = some u->(ztt tmps r).run P w = .ok u w) :
  (results fn tmps).run P w = .ok (z2k us) w:=by
 have hres:fn.results = rv.toArray:=by apply Array.ext'; simpa using hr
 have e:results fn tmps = (do
   let vs ← fn.results.mapM (ztt tmps)
   pure (if h:vs.size = 1 then vs[0] else .tuple vs)):=rfl
 rw [e,hres]
 clear e hres hr
 match rv,us,hlen,hl,h with
 | [],[],_,_,h=>simp [z2k]
 | [r1],[u1],_,_,h =>
  have h1:=h 0 r1 u1 rfl rfl
  simp [h1,z2k]
 | [r1,r2],[u1,u2],_,_,h =>
  have h1:=h 0 r1 u1 rfl rfl
  have h2:=h 1 r2 u2 rfl rfl
  simp [h1,h2,z2k]
 | [r1,r2,r3],[u1,u2,u3],_,_,h =>
  have h1:=h 0 r1 u1 rfl rfl
  have h2:=h 1 r2 u2 rfl rfl
  have h3:=h 2 r3 u3 rfl rfl
  simp [h1,h2,h3,z2k]
theorem z91 (h:SR w0 Pr0 n μ σ a w):Kept (PrOf w0 Pr0 μ σ.H) (fun b o=>Pr0 b o∨w0.w.heap.size≤b) w w:=by
 refine ⟨Nat.le_refl _,fun b o _ hp=>?_,fun _ _ _ _=>rfl,fun _ _ _ _ _ h=>h⟩
 rcases Nat.lt_or_ge b w0.w.heap.size with h1 | h1
 ·exact .inl (hp.1 h1)
 ·exact .inr h1
theorem ztd {fn:Func} {ds:List RDesc} (hc:z1b P fn.results.toList = some ds) (hlen:fn.results.size≤3) (h:SR w0 Pr0 n μ σ a w) {r:AV} (hE:retV ds r σ) :
  ∃ v,(results fn a.tmps).run P w = .ok v w∧Below w0.w.heap.size w0.w w∧RR (fun b o=>Pr0 b o∨w0.w.heap.size≤b) w0.w.heap.size w r v:=by
 obtain ⟨rv,hrv⟩:∃ rv,fn.results.toList = rv:=⟨_,rfl⟩
 rw [hrv] at hc
 have hlen':rv.length≤3:=by rw [← hrv]; simpa using hlen
 -- one result,by itself
 have one:∀ {d:RDesc},ds = [d]->(∀ z ty l,r ≠ .own z ty l)->resV σ d (fun v _=>r = v)->∃ v,(results fn a.tmps).run P w = .ok v w∧Below w0.w.heap.size w0.w w∧RR (fun b o=>Pr0 b o∨w0.w.heap.size≤b) w0.w.heap.size w r v:=by
  intro d hd hno hE1
  clear hE
  subst hd
  match rv,hc with
  | [r1],hc =>
   obtain ⟨v,fz,u,hK,hrun,hv⟩:=zb9 ⟨[],hc⟩ h hE1
   subst hK
   have hS':SR w0 Pr0 n μ (σ.fzs fz) a w:=SR.fzs h
   have hV:=(hv _ hS' z1g).kept (z91 hS')
   refine ⟨u,?_,h.below,?_⟩
   ·have:=z2t (P:=P) (w:=w) (us:=[u]) (tmps:=a.tmps) hrv (by simp) rfl (fun j r u' hj hu=>by
     cases j with
     | zero=>cases hj; cases hu; exact hrun
     | succ j=>simp at hj)
    simpa [z2k] using this
   ·cases r with
    | own z ty l=>exact absurd rfl (hno z ty l)
    | _=>exact hV
  | [],hc=>cases hc
  | r1 :: r2 :: l,hc =>
   obtain ⟨d1,ds',e,_,h2⟩:=z0s hc
   obtain ⟨d2,ds2,e2,_,_⟩:=z0s h2
   subst e2; cases e
 unfold retV at hE
 split at hE
 ·rename_i t
  split at hE
  ·rename_i z ty l
   split at hE
   ·rename_i x len e
    split at hE
    ·rename_i arr ha
     obtain ⟨e1,e2,e3,e4,e5⟩:=hE
     subst e2; subst e3; subst e5; subst e4
     match rv,hc with
     | [r1],hc =>
      have hr1:r1 = .tmp t:=by
       cases r1 with
       | tmp t'=>simp only [z1b,Option.map_some,Option.some.injEq,List.cons.injEq,RDesc.tmp.injEq] at hc; rw [hc.1]
       | cell p t' =>
        simp only [z1b] at hc
        split at hc
        ·split at hc
         ·cases hc
         ·cases hc
        ·cases hc
      subst hr1
      have hres:=z2t (P:=P) (w:=w) (us:=[a.tmps.getD t undef]) (tmps:=a.tmps) hrv (by simp) rfl (fun j r u' hj hu=>by
       cases j with
       | zero=>cases hj; cases hu; rfl
       | succ j=>simp at hj)
      have ht:=h.tmp t
      rw [e] at ht
      obtain ⟨o1,o2,o3,o4⟩:=h.obj x arr ha
      refine ⟨a.tmps.getD t undef,by simpa [z2k] using hres,h.below,o1,o3,?_⟩
      rcases ht arr ha with ⟨m1,m2,m3,m4⟩ | ⟨g,cap,cs,m1,m2,m3,m4,m5,m6,m7⟩
      ·exact .inl ⟨List.length_eq_zero_iff.1 m4,m2⟩
      ·rw [m1] at o4
       rcases o4 with ⟨_,ms,c,q⟩ | ⟨cs',f1,f2,f3⟩
       ·rw [m3] at q; cases q
       rw [m3] at f1; cases f1
       refine .inr ⟨g,cap,cs,m2.exact0 (Nat.zero_mul _),(h.range x g m1).1,m3,by rw [Nat.zero_add] at m4; exact m4,m6,m7,fun i d j c hi hj=>?_⟩
       obtain ⟨u,q1,q2⟩:=f3 i d j c hi hj
       refine ⟨u,q1,q2.kept ⟨Nat.le_refl _,fun b o hlt hp=>⟨?_,fun eb=>?_⟩,fun _ _ _ _=>rfl,fun _ _ _ _ _ h=>h⟩⟩
       ·exact (z91 h).pr b o hlt hp
       ·subst eb
        obtain ⟨ar,p1,p2⟩:=hp.2 x m1
        rw [ha] at p1; cases p1
        rw [e1,Nat.zero_mul] at p2; omega
     | [],hc=>cases hc
     | r1 :: r2 :: l,hc =>
      obtain ⟨d1,ds',e,_,h2⟩:=z0s hc
      obtain ⟨d2,ds2,e2,_,_⟩:=z0s h2
      subst e2; cases e
    ·exact hE.elim
   ·exact hE.elim
  ·rename_i es
   match rv,hc with
   | [r1],hc =>
    have hr1:r1 = .tmp t:=by
     cases r1 with
     | tmp t'=>simp only [z1b,Option.map_some,Option.some.injEq,List.cons.injEq,RDesc.tmp.injEq] at hc; rw [hc.1]
     | cell p t' =>
      simp only [z1b] at hc
      split at hc
      ·split at hc
       ·cases hc
       ·cases hc
      ·cases hc
    subst hr1
    have hres:=z2t (P:=P) (w:=w) (us:=[a.tmps.getD t undef]) (tmps:=a.tmps) hrv (by simp) rfl (fun j r u' hj hu=>by
     cases j with
     | zero=>cases hj; cases hu; rfl
     | succ j=>simp at hj)
    have ht:=h.tmp t
    refine ⟨a.tmps.getD t undef,by simpa [z2k] using hres,h.below,?_⟩
    show VR _ w (.mv es) (a.tmps.getD t undef)
    split at hE
    ·rename_i x es' e
     obtain ⟨hs,rfl⟩:=hE
     rw [e] at ht
     obtain ⟨arr,ha⟩:=Option.isSome_iff_exists.1 hs
     obtain ⟨g,ms,c,q1,q2,q3,q4⟩:=ht arr ha
     rw [q2]
     exact .mv es' g ms c (h.range x g q1).2 (.inr (h.range x g q1).1) q3 q4.len q4.st q4.key (fun i e m h1 h2=>(q4.val i e m h1 h2).kept (z91 h))
    ·rename_i es' e
     subst hE
     rw [e] at ht
     have ht':VR (PrOf w0 Pr0 μ σ.H) w (.mv es') (a.tmps.getD t undef):=ht
     exact ht'.kept (z91 h)
    ·exact hE.elim
   | [],hc=>cases hc
   | r1 :: r2 :: l,hc =>
    obtain ⟨d1,ds',e,_,h2⟩:=z0s hc
    obtain ⟨d2,ds2,e2,_,_⟩:=z0s h2
    subst e2; cases e
  ·rename_i hno2 hno3
   exact one rfl (fun z ty l q=>hno2 z ty l q) hE
 ·rename_i d hnt
  split at hE
  ·exact hE.elim
  ·rename_i hno
   exact one rfl (fun z ty l q=>hno z ty l q) hE
 ·rename_i hn1 hn2
  obtain ⟨vs,fs,us,hK,hl1,hl2,hrun,hv⟩:=z81 h hc hE
  subst hK
  have hS':SR w0 Pr0 n μ (σ.fzs fs) a w:=SR.fzs h
  have hres:=z2t (P:=P) (w:=w) (us:=us) (tmps:=a.tmps) hrv hlen' hl2 hrun
  have hnot1:us.length ≠ 1:=by
   intro e
   rw [← hl2] at e
   match rv,hc,e with
   | [r1],hc,_ =>
    obtain ⟨d1,ds',e1,_,h2⟩:=z0s hc
    cases h2
    exact hn2 d1 e1
  have htup:z2k us = .tuple us.toArray:=by
   match us,hnot1 with
   | [],_=>rfl
   | _ :: _ :: _,_=>rfl
  rw [htup] at hres
  exact ⟨_,hres,h.below,.tup vs us hl1 fun j c v hc' hv'=>(hv _ hS' z1g j c v hc' hv').kept (z91 hS')⟩
theorem AFn.of_code (hm:P.follows .mixedOrders = true) {f:FuncId} {fn:Func} {c:Code} {ir:IR} {ds:List RDesc} {hint:Nat->List Nat} (hok:zd5 P f = true) (hf:P.funcs[f]? = some fn) (hb:fn.body = some c) (hc:comp pv P fn.ntmps hint c = some ir)
  (hr:z1b P fn.results.toList = some ds) (hlen:fn.results.size≤3) {args:List AV} (hargs:args.length≤fn.ntmps) (hsm:fn.ntmps≤1000) {r:AV} (h:awp (AFn P) ir (endQ ds r) (z0b args)):AFn P f args r:=by
 refine ⟨hok,fun w Pr vs hG hPr hl hvs=>calls_of_wp hf hb ?_⟩
 have hS:SR ⟨w,fun _ _=>False⟩ Pr fn.ntmps (fun _=>none) (z0b args) { tmps:=vs.toArray ++ Array.replicate (fn.ntmps - vs.toArray.size) undef,defers:=[] } w:=by
  refine ⟨Below.refl _ _,(fun r r' g e=>by cases e),(fun r g e=>by cases e),(fun r g e=>by cases e),by simp; omega,fun t=>?_,(fun r arr e=>by cases e),rfl,hG,hsm,(fun d v hf=>hf.elim)⟩
  show TR _ _ _ _ (args.getD t .und) _
  cases ha:args[t]? with
  | none =>
   have:args.getD t .und = .und:=by rw [List.getD_eq_getElem?_getD,ha]; rfl
   rw [this]; trivial
  | some d =>
   have htl:=(List.getElem?_eq_some_iff.1 ha).1
   have hv:vs[t]? = some (vs[t]'(by omega)):=List.getElem?_eq_getElem _
   have e1:args.getD t .und = d:=by rw [List.getD_eq_getElem?_getD,ha]; rfl
   have e2:(vs.toArray ++ Array.replicate (fn.ntmps - vs.toArray.size) undef).getD t undef = vs[t]'(by omega):=by
    rw [Array.getD_eq_getD_getElem?,Array.getElem?_append_left (by simp; omega)]
    simp [hv]
   rw [e1,e2]
   exact TR.of_VR ((hvs t d _ ha hv).kept ⟨Nat.le_refl _,fun b o hlt hp=>⟨fun _=>hp,fun r e=>by cases e⟩,fun _ _ _ _=>rfl,fun _ _ _ _ _ h=>h⟩)
 refine wp_mono (z2g hm c hc hS h) ?_
 rintro e a' w' ⟨x,μ',σ',hs,hq,hS'⟩
 cases hs with
 | normal =>
  obtain ⟨v,h1,h2,h3⟩:=ztd hr hlen hS' hq
  exact ⟨hS'.defers,v,h1,v,rfl,h2,h3⟩
 | ret =>
  obtain ⟨v,h1,h2,h3⟩:=ztd hr hlen hS' hq
  exact ⟨hS'.defers,v,h1,v,rfl,h2,h3⟩
 | exit id=>exact hq.elim
def sh:AV->AV
 | .ptr r i f=>.ptr (r + 1000) i f
 | .rs r o l=>.rs (r + 1000) o l
 | .clom f r=>.clom f (r + 1000)
 | .mp r es=>.mp (r + 1000) es
 | .vrs r o l u=>.vrs (r + 1000) o l u
 | d=>d
def shH (H:Nat->Option Arr) (r:Nat):Option Arr:=if r < 1000 then none else H (r - 1000)
def zkp (args:List AV) (H:Nat->Option Arr):St:=⟨fun t=>sh (args.getD t .und),shH H⟩
def retM (ds:List RDesc) (r:AV) (H':Nat->Option Arr) (σ:St):Prop :=
 match ds with
 | [d]=>resV σ d fun v fz=>r = v∧∀ q,(σ.fzs fz).H (q + 1000) = H' q
 | ds=>resVs σ ds fun vs fz=>r = .tup vs∧∀ q,(σ.fzs fz).H (q + 1000) = H' q
def endM (ds:List RDesc) (r:AV) (H':Nat->Option Arr):XK->St->Prop
 | .ret,σ=>retM ds r H' σ
 | .normal,σ=>retM ds r H' σ
 | .exit _,_=>False
theorem sh_TR {Pr:Nat->Nat->Prop} {μ μ':Nat->Option Nat} {H H':Nat->Option Arr} {w:World} (hμ:∀ r,μ' (r + 1000) = μ r) (hH:∀ r,H' (r + 1000) = H r) {d:AV} {v:Value}:TR Pr μ' H' w (sh d) v ↔ TR Pr μ H w d v:=by
 cases d with
 | ptr r i f=>simp only [sh,TR,hμ,hH]
 | rs r o l=>simp only [sh,TR,hμ,hH]
 | clom f r=>simp only [sh,TR,hμ,hH]
 | mp r es=>simp only [sh,TR,hμ,hH]
 | vrs r o l u=>simp only [sh,TR,hμ,hH]
 | _=>exact Iff.rfl
theorem sh_name {d:AV} {r:Nat} (h:(sh d).name = some r):1000≤r:=by
 cases d with
 | ptr s i f=>simp only [sh,AV.name,Option.some.injEq] at h; omega
 | rs s o l=>simp only [sh,AV.name,Option.some.injEq] at h; omega
 | clom f s=>simp only [sh,AV.name,Option.some.injEq] at h; omega
 | mp s es=>simp only [sh,AV.name,Option.some.injEq] at h; omega
 | vrs s o l u=>simp only [sh,AV.name,Option.some.injEq] at h; omega
 | _=>cases h
theorem TR.kept' {Pr Pr':Nat->Nat->Prop} {μ:Nat->Option Nat} {H:Nat->Option Arr} {w:World} (k:Kept Pr Pr' w w) {d:AV} {v:Value} (h:TR Pr μ H w d v):TR Pr' μ H w d v :=
 h.kept k (fun r g _ cs ty hc=>⟨cs,hc,rfl⟩) (fun r g _ ms c hc=>hc)
theorem MFn.of_code (hm:P.follows .mixedOrders = true) {f:FuncId} {fn:Func} {c:Code} {ir:IR} {ds:List RDesc} {hint:Nat->List Nat} (hok:zd5 P f = true) (hf:P.funcs[f]? = some fn) (hb:fn.body = some c) (hc:comp pv P fn.ntmps hint c = some ir)
  (hr:z1b P fn.results.toList = some ds) (hlen:fn.results.size≤3) {args:List AV} (hargs:args.length≤fn.ntmps) (hsm:fn.ntmps≤1000) {r:AV} {H H':Nat->Option Arr} (h:awp (AFn P) ir (endM ds r H') (zkp args H)):MFn P f args H r H':=by
 refine ⟨hok,fun w0 Pr0 n μ T a w vs hS0 hl hvs=>calls_of_wp hf hb ?_⟩
 obtain ⟨μc,hμc⟩:∃ μc:Nat->Option Nat,μc = fun r=>if r < 1000 then none else μ (r - 1000):=⟨_,rfl⟩
 have hμ1:∀ r,μc (r + 1000) = μ r:=fun r=>by rw [hμc]; simp only []; rw [if_neg (by omega),Nat.add_sub_cancel]
 have hμ0:∀ r,r < 1000->μc r = none:=fun r hr=>by rw [hμc]; exact if_pos hr
 have hH1:∀ r,shH H (r + 1000) = H r:=fun r=>by unfold shH; rw [if_neg (by omega),Nat.add_sub_cancel]
 have hH0:∀ r,r < 1000->shH H r = none:=fun r hr=>if_pos hr
 have big:∀ {r g},μc r = some g->∃ q,r = q + 1000∧μ q = some g:=fun {r g} e=>by
  rcases Nat.lt_or_ge r 1000 with h1 | h1
  ·rw [hμ0 r h1] at e; cases e
  ·refine ⟨r - 1000,by omega,?_⟩
   rw [← hμ1,show r - 1000 + 1000 = r by omega]; exact e
 obtain ⟨w1,hw1⟩:∃ w1:Start,w1 = ⟨w0.w,fun d v=>(∃ t,d = sh (T t)∧v = a.tmps.getD t undef)∨∃ d0,d = sh d0∧w0.F d0 v⟩:=⟨_,rfl⟩
 have hw1w:w1.w = w0.w:=by rw [hw1]
 have hPr:PrOf w1 Pr0 μc (shH H) = PrOf w0 Pr0 μ H:=by
  funext b o
  unfold PrOf
  rw [hw1w]
  apply propext
  refine and_congr_right fun _=>⟨fun hp r hr=>?_,fun hp r hr=>?_⟩
  ·obtain ⟨arr,e1,e2⟩:=hp (r + 1000) (by rw [hμ1]; exact hr)
   rw [hH1] at e1
   exact ⟨arr,e1,e2⟩
  ·obtain ⟨q,rfl,hq⟩:=big hr
   obtain ⟨arr,e1,e2⟩:=hp q hq
   exact ⟨arr,by rw [hH1]; exact e1,e2⟩
 have hS:SR w1 Pr0 fn.ntmps μc (zkp args H) { tmps:=vs.toArray ++ Array.replicate (fn.ntmps - vs.toArray.size) undef,defers:=[] } w:=by
  refine ⟨by rw [hw1w]; exact hS0.below,fun r r' g e1 e2=>?_,fun r g e=>?_,fun r g e=>?_,by simp; omega,fun t=>?_,fun r arr e=>?_,rfl,by rw [hw1w]; exact hS0.glob,hsm,fun d v hf=>?_⟩
  ·obtain ⟨q,rfl,hq⟩:=big e1
   obtain ⟨q',rfl,hq'⟩:=big e2
   rw [hS0.inj q q' g hq hq']
  ·obtain ⟨q,rfl,hq⟩:=big e
   rw [hw1w]; exact hS0.range q g hq
  ·obtain ⟨q,rfl,hq⟩:=big e
   have e0:(zkp args H).H = shH H:=rfl
   rw [e0,hH1]; exact hS0.live q g hq
  ·show TR (PrOf w1 Pr0 μc (shH H)) μc (shH H) w (sh (args.getD t .und)) _
   rw [hPr,sh_TR hμ1 hH1]
   cases ha:args[t]? with
   | none =>
    have:args.getD t .und = .und:=by rw [List.getD_eq_getElem?_getD,ha]; rfl
    rw [this]; trivial
   | some d =>
    have htl:=(List.getElem?_eq_some_iff.1 ha).1
    have hv:vs[t]? = some (vs[t]'(by omega)):=List.getElem?_eq_getElem _
    have e1:args.getD t .und = d:=by rw [List.getD_eq_getElem?_getD,ha]; rfl
    have e2:(vs.toArray ++ Array.replicate (fn.ntmps - vs.toArray.size) undef).getD t undef = vs[t]'(by omega):=by
     rw [Array.getD_eq_getD_getElem?,Array.getElem?_append_left (by simp; omega)]
     simp [hv]
    rw [e1,e2]
    exact hvs t d _ ha hv
  ·have e':shH H r = some arr:=e
   rcases Nat.lt_or_ge r 1000 with h1 | h1
   ·rw [hH0 r h1] at e'; cases e'
   ·obtain ⟨q,rfl⟩:∃ q,r = q + 1000:=⟨r - 1000,by omega⟩
    rw [hH1] at e'
    obtain ⟨o1,o2,o3,o4⟩:=hS0.obj q arr e'
    refine ⟨o1,o2,o3,?_⟩
    show match μc (q + 1000) with | none=>_ | some g=>_
    rw [hμ1]
    show match μ q with | none=>arr.cells = [] | some g=>(arr.cells = []∧∃ ms c,w.heap[g]? = some (.map ms c))∨∃ cs,w.heap[g]? = some (.cells cs arr.ty (0,0))∧arr.cells.length * arr.z≤cs.size∧∀ (i:Nat) (d:AV) (j:Nat) (c:AV),arr.cells[i]? = some d->d.cells[j]? = some c->∃ u,cs[i * arr.z + j]? = some u∧VR (PrOf w1 Pr0 μc (shH H)) w c u
    rw [hPr]
    exact o4
  ·rw [hw1] at hf
   show _∧TR (PrOf w1 Pr0 μc (shH H)) μc (shH H) w d v
   rw [hPr]
   rcases hf with ⟨t,rfl,rfl⟩ | ⟨d0,rfl,hf⟩
   ·exact ⟨fun r hr=>sh_name hr,(sh_TR hμ1 hH1).2 (hS0.tmp t)⟩
   ·exact ⟨fun r hr=>sh_name hr,(sh_TR hμ1 hH1).2 (hS0.frame d0 v hf).2⟩
 refine wp_mono (z2g hm c hc hS h) ?_
 -- back to the caller
 have back:∀ {μe:Nat->Option Nat} {σe:St} {ae:Act} {we:World},SR w1 Pr0 fn.ntmps μe σe ae we->(∀ q,σe.H (q + 1000) = H' q) ->
   SR w0 Pr0 n (fun q=>μe (q + 1000)) ⟨T,H'⟩ a we∧Kept (PrOf w1 Pr0 μe σe.H) (PrOf w0 Pr0 (fun q=>μe (q + 1000)) H') we we:=by
  intro μe σe ae we hE hH'
  have k:Kept (PrOf w1 Pr0 μe σe.H) (PrOf w0 Pr0 (fun q=>μe (q + 1000)) H') we we:=by
   refine ⟨Nat.le_refl _,fun b o _ hp=>⟨by rw [← hw1w]; exact hp.1,fun r hr=>?_⟩,fun _ _ _ _=>rfl,fun _ _ _ _ _ h=>h⟩
   obtain ⟨arr,e1,e2⟩:=hp.2 (r + 1000) hr
   rw [hH'] at e1
   exact ⟨arr,e1,e2⟩
  have tr:∀ {d:AV} {v:Value},TR (PrOf w1 Pr0 μe σe.H) μe σe.H we (sh d) v->TR (PrOf w0 Pr0 (fun q=>μe (q + 1000)) H') (fun q=>μe (q + 1000)) H' we d v:=fun ht =>
   TR.kept' k ((sh_TR (fun _=>rfl) hH').1 ht)
  refine ⟨⟨by rw [← hw1w]; exact hE.below,fun r r' g e1 e2=>?_,fun r g e=>by rw [← hw1w]; exact hE.range (r + 1000) g e,fun r g e=>?_,hS0.size,fun t=>?_,fun r arr e=>?_,hS0.defers,hS0.glob,hS0.small,fun d v hf=>⟨(hS0.frame d v hf).1,?_⟩⟩,k⟩
  ·have:=hE.inj (r + 1000) (r' + 1000) g e1 e2
   omega
  ·show (H' r).isSome
   rw [← hH']; exact hE.live (r + 1000) g e
  ·exact tr (hE.frame (sh (T t)) (a.tmps.getD t undef) (by rw [hw1]; exact .inl ⟨t,rfl,rfl⟩)).2
  ·obtain ⟨o1,o2,o3,o4⟩:=hE.obj (r + 1000) arr (by rw [hH']; exact e)
   refine ⟨o1,o2,o3,?_⟩
   show match μe (r + 1000) with | none=>_ | some g=>_
   cases hr:μe (r + 1000) with
   | none=>rw [hr] at o4; exact o4
   | some g =>
    rw [hr] at o4
    rcases o4 with o4 | ⟨cs,p1,p2,p3⟩
    ·exact .inl o4
    exact .inr ⟨cs,p1,p2,fun i d j c hi hj=>let ⟨u,m1,m2⟩:=p3 i d j c hi hj; ⟨u,m1,m2.kept k⟩⟩
  ·exact tr (hE.frame (sh d) v (by rw [hw1]; exact .inr ⟨d,rfl,hf⟩)).2
 have fin:∀ {μe:Nat->Option Nat} {σe:St} {ae:Act} {we:World},SR w1 Pr0 fn.ntmps μe σe ae we->retM ds r H' σe ->
   ∃ v,(results fn ae.tmps).run P we = .ok v we∧∃ μ',SR w0 Pr0 n μ' ⟨T,H'⟩ a we∧VR (PrOf w0 Pr0 μ' H') we r v:=by
  intro μe σe ae we hE hret
  obtain ⟨rv,hrv⟩:∃ rv,fn.results.toList = rv:=⟨_,rfl⟩
  rw [hrv] at hr
  have hlen':rv.length≤3:=by rw [← hrv]; simpa using hlen
  unfold retM at hret
  split at hret
  ·rename_i d
   match rv,hr with
   | [r1],hr =>
    obtain ⟨v,fz,u,⟨hK,hq⟩,hrun,hv⟩:=zb9 ⟨[],hr⟩ hE hret
    subst hK
    have hS':SR w1 Pr0 fn.ntmps μe (σe.fzs fz) ae we:=SR.fzs hE
    obtain ⟨b1,b2⟩:=back hS' hq
    refine ⟨u,?_,_,b1,(hv _ hS' z1g).kept b2⟩
    have:=z2t (P:=P) (w:=we) (us:=[u]) (tmps:=ae.tmps) hrv (by simp) rfl (fun j r u' hj hu=>by
     cases j with
     | zero=>cases hj; cases hu; exact hrun
     | succ j=>simp at hj)
    simpa [z2k] using this
   | [],hr=>cases hr
   | r1 :: r2 :: l,hr =>
    obtain ⟨d1,ds',e,_,h2⟩:=z0s hr
    obtain ⟨d2,ds2,e2,_,_⟩:=z0s h2
    subst e2; cases e
  ·rename_i hn1
   obtain ⟨vs',fs,us,⟨hK,hq⟩,hl1,hl2,hrun,hv⟩:=z81 hE hr hret
   subst hK
   have hS':SR w1 Pr0 fn.ntmps μe (σe.fzs fs) ae we:=SR.fzs hE
   obtain ⟨b1,b2⟩:=back hS' hq
   have hres:=z2t (P:=P) (w:=we) (us:=us) (tmps:=ae.tmps) hrv hlen' hl2 hrun
   have hnot1:us.length ≠ 1:=by
    intro e
    rw [← hl2] at e
    match rv,hr,e with
    | [r1],hr,_ =>
     obtain ⟨d1,ds',e1,_,h2⟩:=z0s hr
     cases h2
     exact hn1 d1 e1
   have htup:z2k us = .tuple us.toArray:=by
    match us,hnot1 with
    | [],_=>rfl
    | _ :: _ :: _,_=>rfl
   rw [htup] at hres
   exact ⟨_,hres,_,b1,.tup vs' us hl1 fun j c v hc' hv'=>(hv _ hS' z1g j c v hc' hv').kept b2⟩
 rintro e a' w' ⟨x,μ',σ',hs,hq,hS'⟩
 cases hs with
 | normal =>
  obtain ⟨v,h1,μ2,h2,h3⟩:=fin hS' hq
  exact ⟨hS'.defers,v,h1,v,μ2,rfl,h2,h3⟩
 | ret =>
  obtain ⟨v,h1,μ2,h2,h3⟩:=fin hS' hq
  exact ⟨hS'.defers,v,h1,v,μ2,rfl,h2,h3⟩
 | exit id=>exact hq.elim
end
end Go.Proofs.YtlhblpbfhfhlpaaGreat
end
section
namespace Go.Proofs.YtlhblpbfhfhlpaaGreat
open Go.RowKit
theorem loop_inv {C:FuncId->List AV->AV->Prop} {b:IR} {Q:XK->St->Prop} (I:Nat->St->Prop) {σ:St} {k:Nat} (h0:I k σ)
  (hstep:∀ k σ,I k σ->awp C b (z2h (fun σ'=>∃ m,m < k∧I m σ') Q) σ):awp C (.loop b) Q σ:=by
 have mono:∀ (n m:Nat) (σ:St),n≤m->iter (awp C b) Q n σ->iter (awp C b) Q m σ:=by
  intro n
  induction n with
  | zero=>intro m σ _ h; exact h.elim
  | succ n ih =>
   intro m σ hm h
   cases m with
   | zero=>omega
   | succ m =>
    refine z3k b (fun e σ' hq=>?_) σ h
    cases e with
    | normal=>exact ih m σ' (by omega) hq
    | exit id=>exact hq
    | ret=>exact hq
 have key:∀ (k:Nat) (σ:St),I k σ->iter (awp C b) Q (k + 1) σ:=by
  intro k
  induction k using Nat.strongRecOn with
  | ind k ih =>
   intro σ hI
   refine z3k b (fun e σ' hq=>?_) σ (hstep k σ hI)
   cases e with
   | normal =>
    obtain ⟨m,hm,hI'⟩:=hq
    exact mono (m + 1) k σ' (by omega) (ih m hm σ' hI')
   | exit id=>exact hq
   | ret=>exact hq
 exact ⟨k + 1,key k σ h0⟩
def AV.isI:AV->Bool | .int ..=>true | _=>false
def AV.ik:AV->IntKind | .int k _=>k | _=>.i64
def AV.iv:AV->Int | .int _ n=>n | _=>0
def AV.isB:AV->Bool | .bool _=>true | _=>false
def AV.bv:AV->Bool | .bool b=>b | _=>false
def AV.isS:AV->Bool | .str _=>true | _=>false
def AV.sv:AV->ByteArray | .str s=>s | _=>⟨#[]⟩
def AV.isA:AV->Bool | .agg _=>true | _=>false
def AV.av:AV->List AV | .agg l=>l | _=>[]
def AV.isTu:AV->Bool | .tup _=>true | _=>false
def AV.tv:AV->List AV | .tup l=>l | _=>[]
def AV.isC:AV->Bool | .clo ..=>true | _=>false
def AV.cf:AV->FuncId | .clo f _ _=>f | _=>0
def AV.c1:AV->List AV | .clo _ l _=>l | _=>[]
def AV.c2:AV->List AV | .clo _ _ l=>l | _=>[]
def y8e (op:BinOp) (b:Int):Prop:=match op with
 | .quo | .rem=>b ≠ 0
 | .shl | .shr=>False
 | _=>True
def andI (k:IntKind) (a b:Int):Int:=(BitVec.ofInt k.bits a &&& BitVec.ofInt k.bits b).toNat
def orI (k:IntKind) (a b:Int):Int:=(BitVec.ofInt k.bits a ||| BitVec.ofInt k.bits b).toNat
def xorI (k:IntKind) (a b:Int):Int:=(BitVec.ofInt k.bits a ^^^ BitVec.ofInt k.bits b).toNat
def andNotI (k:IntKind) (a b:Int):Int:=(BitVec.ofInt k.bits a &&& ~~~ BitVec.ofInt k.bits b).toNat
def binIV (op:BinOp) (k:IntKind) (a b:Int):AV:=match op with
 | .add=>.int k (k.wrap (a + b))
 | .sub=>.int k (k.wrap (a - b))
 | .mul=>.int k (k.wrap (a * b))
 | .quo=>.int k (k.wrap (a.tdiv b))
 | .rem=>.int k (a.tmod b)
 | .and=>.int k (k.wrap (andI k a b))
 | .or=>.int k (k.wrap (orI k a b))
 | .xor=>.int k (k.wrap (xorI k a b))
 | .andNot=>.int k (k.wrap (andNotI k a b))
 | .eql=>.bool (a == b)
 | .neq=>.bool (a != b)
 | .lss=>.bool (decide (a < b))
 | .leq=>.bool (decide (a≤b))
 | .gtr=>.bool (decide (a > b))
 | .geq=>.bool (decide (a ≥ b))
 | _=>.und
theorem binI_ok {op:BinOp} {k:IntKind} {a b:Int} {K:AV->Prop}:binI op k a b K = (y8e op b∧K (binIV op k a b)):=by
 cases op <;> simp [binI,y8e,binIV,andI,orI,xorI,andNotI]
def y8d (op:BinOp) (x y:ByteArray):Prop:=match op with
 | .add=>x.size + y.size≤9223372036854775807
 | .eql | .neq | .lss | .leq | .gtr | .geq=>True
 | _=>False
def binSV (op:BinOp) (x y:ByteArray):AV:=match op with
 | .add=>.str (x ++ y)
 | .eql=>.bool (x.toList == y.toList)
 | .neq=>.bool (!(x.toList == y.toList))
 | .lss=>.bool (Op.bytesLess x.toList y.toList)
 | .leq=>.bool (Op.bytesLess x.toList y.toList || x.toList == y.toList)
 | .gtr=>.bool (!(Op.bytesLess x.toList y.toList || x.toList == y.toList))
 | .geq=>.bool (!(Op.bytesLess x.toList y.toList))
 | _=>.und
theorem binS_ok {op:BinOp} {a b:ByteArray} {K:AV->Prop}:binS op a b K = (y8d op a b∧K (binSV op a b)):=by
 cases op <;> simp [binS,y8d,binSV]
def z3z (agg:Bool) (z:Nat) (cs:List AV):Prop:=match agg with
 | true=>z≤cs.length
 | false=>0 < cs.length
def z3i (agg:Bool) (z:Nat) (cs:List AV):AV:=match agg with
 | true=>.agg (cs.take z)
 | false=>cs.headD .und
theorem z6a {agg:Bool} {z:Nat} {cs:List AV} {K:AV->Prop}:z3d agg z cs K = (z3z agg z cs∧K (z3i agg z cs)):=by
 cases agg
 ·cases cs <;> simp [z3d,z3z,z3i]
 ·simp [z3d,z3z,z3i]
def z0a:Option Arr->List AV | some a=>a.cells | none=>[]
def objZ:Option Arr->Nat | some a=>a.z | none=>0
def z1q:Option Arr->Nat | some a=>a.prot | none=>0
def y13 (hid:List Nat) (σ:St):AV->Prop
 | .rp _=>True
 | .ptr r i _=>hid.contains r = false∧i < (z0a (σ.H r)).length
 | _=>False
def z1u (σ:St):AV->List AV
 | .rp cs=>cs
 | .ptr r i f=>((z0a (σ.H r)).getD i .und).cells.drop f
 | _=>[]
def y1n (hid:List Nat) (σ:St):Bool->AV->Prop
 | false,.sl _=>True
 | false,.rs r _ _=>hid.contains r = false∧(σ.H r).isSome = true
 | true,.str _=>True
 | _,_=>False
def zj6:AV->AV
 | .sl l=>.int .i64 l.length
 | .rs _ _ len=>.int .i64 len
 | .str s=>.int .i64 s.size
 | _=>.und
def faOk (hid:List Nat) (σ:St):AV->Prop
 | .rp _=>True
 | .ptr r _ _=>hid.contains r = false∧(σ.H r).isSome = true
 | _=>False
def faVal (off:Nat):AV->AV
 | .rp cs=>.rp (cs.drop off)
 | .ptr r i f=>.ptr r i (f + off)
 | _=>.und
def iaOk (hid:List Nat) (σ:St) (z:Nat) (n:Int):AV->Prop
 | .sl l=>(0≤n∧n < l.length)∧(l.getD n.toNat .und).cells.length = z
 | .rs r _ len=>hid.contains r = false∧(0≤n∧n < len)∧(σ.H r).isSome = true∧objZ (σ.H r) = z
 | _=>False
def iaVal (n:Int):AV->AV
 | .sl l=>.rp (l.getD n.toNat .und).cells
 | .rs r off _=>.ptr r (off + n.toNat) 0
 | _=>.und
def z5n:AV->Nat
 | .str s=>s.size
 | .sl l=>l.length
 | .rs _ _ len=>len
 | _=>0
def bdOk (σ:St):Option IOpd->Prop
 | none=>True
 | some x=>(σ.get x).isI = true∧0≤(σ.get x).iv
def zcg (σ:St) (d:Nat):Option IOpd->Nat
 | none=>d
 | some x=>(σ.get x).iv.toNat
def zt2 (hid:List Nat) (σ:St) (z:Nat):Bool->AV->Prop
 | true,.str _=>z = 0
 | false,.sl l=>∀ d,d ∈ l->d.cells.length = z
 | false,.rs r _ _=>hid.contains r = false∧(σ.H r).isSome = true∧objZ (σ.H r) = z
 | true,.sl l=>0 < z∧∀ d,d ∈ l->d.cells.length = z
 | true,.rs r _ _=>0 < z∧hid.contains r = false∧(σ.H r).isSome = true∧objZ (σ.H r) = z
 | _,_=>False
def y0x (σ:St) (r off m h:Nat):Nat->AV
 | 0=>.rs r off h
 | 1=>.rs r (off + 1) (h - 1)
 | _ + 2=>.sl (((z0a (σ.H r)).drop (off + m)).take (h - m))
def zkx (σ:St) (lo:Nat) (m h:Nat):AV->AV
 | .str s=>.str (s.extract m h)
 | .sl l=>.sl ((l.take h).drop m)
 | .rs r off _=>y0x σ r off m h lo
 | _=>.und
def slcKV (m h:Nat):AV->AV
 | .str s=>.str (s.extract m h)
 | .sl l=>.sl ((l.take h).drop m)
 | .rs r off _=>.rs r (off + m) (h - m)
 | _=>.und
def slcFz (lo:Nat):AV->List Nat
 | .rs r _ _=>if 2≤lo then [r] else []
 | _=>[]
def byOk (hid:List Nat) (σ:St):AV->Prop
 | .rs r _ _=>hid.contains r = false∧(σ.H r).isSome = true
 | .ptr r i _=>hid.contains r = false∧i < (z0a (σ.H r)).length
 | .und=>False
 | .own ..=>False
 | .clom ..=>False
 | .mp ..=>False
 | .vrs ..=>False
 | _=>True
def z1l (σ:St):AV->AV
 | .rs r off len=>.sl (((z0a (σ.H r)).drop off).take len)
 | .ptr r i f=>.rp (((z0a (σ.H r)).getD i .und).cells.drop f)
 | v=>v
def byFz:AV->List Nat
 | .rs r _ _=>[r]
 | .ptr r _ _=>[r]
 | _=>[]
theorem z49 {hid:List Nat} {σ:St} {v:AV}:(byOk hid σ v->σ.byval hid v = some (z1l σ v,byFz v))∧(¬ byOk hid σ v->σ.byval hid v = none):=by
 cases v with
 | rs r off len =>
  simp only [byOk,St.byval,z1l,byFz]
  cases hc:hid.contains r with
  | true=>simp
  | false =>
   cases ha:σ.H r with
   | none=>simp
   | some arr=>simp [z0a]
 | ptr r i f =>
  simp only [byOk,St.byval,z1l,byFz]
  cases hc:hid.contains r with
  | true=>simp
  | false =>
   cases ha:σ.H r with
   | none=>simp [z0a]
   | some arr =>
    simp only [z0a,true_and,Bool.false_eq_true,if_false]
    rcases Nat.lt_or_ge i arr.cells.length with h | h
    ·simp [h,List.getElem?_eq_getElem h]
    ·simp [show ¬ i < arr.cells.length by omega,List.getElem?_eq_none h]
 | _=>simp [byOk,St.byval,z1l,byFz]
def z6b (hid:List Nat) (σ:St):List AV->Prop
 | []=>True
 | v :: l=>byOk hid σ v∧z6b hid σ l
def z17 (σ:St):List AV->List AV
 | []=>[]
 | v :: l=>z1l σ v :: z17 σ l
def z8k:List AV->List Nat
 | []=>[]
 | v :: l=>byFz v ++ z8k l
theorem z1s {hid:List Nat} {σ:St}:∀ {l:List AV},(z6b hid σ l->σ.byvals hid l = some (z17 σ l,z8k l))∧(¬ z6b hid σ l->σ.byvals hid l = none)
 | []=>by simp [z6b,St.byvals,z17,z8k]
 | v :: l=>by
  obtain ⟨h1,h2⟩:=z49 (hid:=hid) (σ:=σ) (v:=v)
  obtain ⟨h3,h4⟩:=z1s (hid:=hid) (σ:=σ) (l:=l)
  simp only [z6b,St.byvals,z17,z8k]
  by_cases a:byOk hid σ v
  ·rw [h1 a]
   by_cases b:z6b hid σ l
   ·rw [h3 b]; simp [a,b]
   ·rw [h4 b]; simp [a,b]
  ·rw [h2 a]; simp [a]
def mxOk (y:AV):AV->Prop
 | .int _ _=>y.isI = true
 | .str _=>y.isS = true
 | _=>False
def mxVal (isMax:Bool) (y:AV):AV->AV
 | .int k a=>.int k (if isMax then (if y.iv > a then y.iv else a) else (if y.iv < a then y.iv else a))
 | .str a=>.str (if isMax then mxS a y.sv else mnS a y.sv)
 | _=>.und
def okBld (n:Nat):List Part->List AV->Prop
 | p :: ps,v :: vs=>v.cells.length = p.z∧p.off + p.z≤n∧okBld n ps vs
 | [],[]=>True
 | _,_=>False
def zsr:List AV->List Part->List AV->List AV
 | cs,p :: ps,v :: vs=>zsr (cs.take p.off ++ v.cells ++ cs.drop (p.off + p.z)) ps vs
 | cs,_,_=>cs
theorem y7u:∀ {ps:List Part} {vs:List AV} {cs:List AV},okBld cs.length ps vs->zs9 cs ((ps.zip vs).map fun q=>(q.1.off,q.1.z,q.2)) = some (zsr cs ps vs)
 | [],[],cs,_=>rfl
 | p :: ps,v :: vs,cs,h=>by
  obtain ⟨h1,h2,h3⟩:=h
  simp only [List.zip_cons_cons,List.map_cons,zs9,zsr]
  rw [if_pos ⟨h1,h2⟩]
  refine y7u ?_
  have e:(cs.take p.off ++ v.cells ++ cs.drop (p.off + p.z)).length = cs.length:=by
   rw [List.length_append,List.length_append,List.length_take,List.length_drop,h1]; omega
  rw [e]; exact h3
 | [],_ :: _,cs,h=>h.elim
 | _ :: _,[],cs,h=>h.elim
def pvOk (σ:St) (t:Nat):AV->Prop
 | .cst u=>(match σ.T t with
  | .vrs _ _ _ u'=>u' = u
  | _=>True)
 | _=>True
def pvVal (σ:St) (t:Nat):AV->AV
 | .cst u=>(match σ.T t with
  | .vrs q off len _=>.rs q off len
  | _=>.cst u)
 | c=>c
theorem privV_ok {σ:St} {t:Nat} {c:AV} {K:AV->Prop} (h1:pvOk σ t c) (h2:K (pvVal σ t c)):zkn σ t c K:=by
 unfold zkn
 split
 ·rename_i u
  simp only [pvOk,pvVal] at h1 h2
  split
  ·rename_i e
   rw [e] at h1 h2
   exact ⟨h1,h2⟩
  ·rename_i hne
   split at h2
   ·rename_i e; exact absurd e (hne _ _ _ _)
   ·exact h2
 ·rename_i hne
  cases c <;> first | exact h2 | exact absurd rfl (hne _)
def plOk (σ:St) (hid:List Nat):Nat->List AV->Prop
 | _,[]=>True
 | t,c :: l=>(match c with
  | .cst u=>(match σ.T t with
   | .vrs q _ _ u'=>u' = u∧hid.contains q = false∧(σ.H q).isSome = true
   | _=>True)
  | _=>True)∧plOk σ hid (t + 1) l
def plV (σ:St) (t:Nat):AV->AV
 | .cst u=>(match σ.T t with
  | .vrs q off len _=>.sl (((z0a (σ.H q)).drop off).take len)
  | _=>nilV u)
 | c=>c
def plF (σ:St) (t:Nat):AV->List Nat
 | .cst _=>(match σ.T t with
  | .vrs q _ _ _=>[q]
  | _=>[])
 | _=>[]
def plVal (σ:St):Nat->List AV->List AV
 | _,[]=>[]
 | t,c :: l=>plV σ t c :: plVal σ (t + 1) l
def plFz (σ:St):Nat->List AV->List Nat
 | _,[]=>[]
 | t,c :: l=>plF σ t c ++ plFz σ (t + 1) l
theorem zdi {σ:St} {hid:List Nat}:∀ {l:List AV} {t:Nat} {K:List AV->List Nat->Prop},plOk σ hid t l->K (plVal σ t l) (plFz σ t l)->z87 σ hid t l K
 | [],t,K,h1,h2=>h2
 | c :: l,t,K,h1,h2=>by
  obtain ⟨h1,h3⟩:=h1
  simp only [plVal,plFz] at h2
  unfold z87
  split
  ·rename_i u
   simp only [plV,plF] at h1 h2
   split
   ·rename_i q off len u' e
    rw [e] at h1 h2
    obtain ⟨g1,g2,g3⟩:=h1
    refine ⟨g1,g2,?_⟩
    obtain ⟨arr,ha⟩:=Option.isSome_iff_exists.1 g3
    simp only [ha,z0a] at h2
    simp only [ha]
    exact zdi h3 h2
   ·rename_i hne
    split at h2
    ·rename_i e; exact absurd e (hne _ _ _ _)
    ·exact zdi h3 (by simpa using h2)
  ·rename_i hne
   cases c <;> first | exact zdi h3 (by simpa [plV,plF] using h2) | exact absurd rfl (hne _)
def pRt:AV->Nat
 | .ptr r _ _=>r
 | _=>0
def pOf (σ:St):AV->Nat
 | .ptr r i f=>i * objZ (σ.H r) + f
 | _=>0
def isPtr:AV->Bool
 | .ptr ..=>true
 | _=>false
def lpOk (hid:List Nat) (σ:St) (z:Nat) (v:AV):Bool->Prop
 | true=>plOk σ hid (vt (pRt v) (pOf σ v)) ((z1u σ v).take z)
 | false=>pvOk σ (vt (pRt v) (pOf σ v)) ((z1u σ v).headD .und)
def lpVal (σ:St) (z:Nat) (v:AV):Bool->AV
 | true=>.agg (plVal σ (vt (pRt v) (pOf σ v)) ((z1u σ v).take z))
 | false=>pvVal σ (vt (pRt v) (pOf σ v)) ((z1u σ v).headD .und)
def lpFz (σ:St) (z:Nat) (v:AV):Bool->List Nat
 | true=>plFz σ (vt (pRt v) (pOf σ v)) ((z1u σ v).take z)
 | false=>[]
def okV (hid:List Nat) (σ:St):IOp->Prop
 | .mv x=>True
 | .mvs x=>(σ.get x).isS = true
 | .pick c x y=>(σ.get c).isB = true
 | .bin op x y=>if (σ.get x).isI then (σ.get y).isI = true∧(σ.get x).ik = (σ.get y).ik∧y8e op (σ.get y).iv else (σ.get x).isS = true∧(σ.get y).isS = true∧y8d op (σ.get x).sv (σ.get y).sv
 | .beq _ x y=>(σ.get x).isB = true∧(σ.get y).isB = true
 | .feq _ sh x y=>(σ.get x).isA = true∧(σ.get y).isA = true∧okF (σ.get x).av (σ.get y).av sh
 | .bld zero ps=>z6b hid σ (ps.map fun p=>σ.get p.x)∧okBld zero.length ps (z17 σ (ps.map fun p=>σ.get p.x))
 | .un .not x=>(σ.get x).isB = true
 | .un .neg x=>(σ.get x).isI = true
 | .ext i x=>(σ.get x).isTu = true∧i < (σ.get x).tv.length
 | .load z agg p=>y13 hid σ (σ.get p)∧z3z agg z (z1u σ (σ.get p))
 | .faddr _ p=>faOk hid σ (σ.get p)
 | .fld off z agg x=>(σ.get x).isA = true∧z3z agg z ((σ.get x).av.drop off)
 | .iaddr z x i=>(σ.get i).isI = true∧iaOk hid σ z (σ.get i).iv (σ.get x)
 | .idx x i=>(σ.get i).isI = true∧(σ.get x).isS = true∧0≤(σ.get i).iv∧(σ.get i).iv < (σ.get x).sv.size
 | .idxA len z agg x i=>(σ.get i).isI = true∧(σ.get x).isA = true∧(0≤(σ.get i).iv∧(σ.get i).iv < len)∧z3z agg z ((σ.get x).av.drop ((σ.get i).iv.toNat * z))
 | .slc str z x lo hi=>zt2 hid σ z str (σ.get x)∧bdOk σ hi∧bdOk σ lo∧zcg σ (z5n (σ.get x)) hi≤z5n (σ.get x)∧zcg σ 0 lo≤zcg σ (z5n (σ.get x)) hi
 | .len str x=>y1n hid σ str (σ.get x)
 | .mx _ x y=>mxOk (σ.get y) (σ.get x)
 | .conv _ x=>(σ.get x).isI = true
 | .mkfn _ first caps=>z6b hid σ (first.map σ.get)∧z6b hid σ (caps.map σ.get)
 | .loadp z agg p=>match σ.get p with
  | .rp cs=>z3z agg z cs
  | v=>isPtr v = true∧y13 hid σ v∧z3z agg z (z1u σ v)∧lpOk hid σ z v agg
 | _=>False
def valV (σ:St):IOp->AV
 | .mv x=>σ.get x
 | .mvs x=>σ.get x
 | .pick c x y=>if (σ.get c).bv then σ.get x else σ.get y
 | .bin op x y=>if (σ.get x).isI then binIV op (σ.get x).ik (σ.get x).iv (σ.get y).iv else binSV op (σ.get x).sv (σ.get y).sv
 | .beq neq x y=>.bool (if neq then !((σ.get x).bv == (σ.get y).bv) else (σ.get x).bv == (σ.get y).bv)
 | .feq neq sh x y=>.bool (if neq then !(valF (σ.get x).av (σ.get y).av sh) else valF (σ.get x).av (σ.get y).av sh)
 | .bld zero ps=>.agg (zsr zero ps (z17 σ (ps.map fun p=>σ.get p.x)))
 | .un .not x=>.bool (!(σ.get x).bv)
 | .un .neg x=>.int (σ.get x).ik ((σ.get x).ik.wrap (0 - (σ.get x).iv))
 | .ext i x=>(σ.get x).tv.getD i .und
 | .load z agg p=>z3i agg z (z1u σ (σ.get p))
 | .faddr off p=>faVal off (σ.get p)
 | .fld off z agg x=>z3i agg z ((σ.get x).av.drop off)
 | .iaddr z x i=>iaVal (σ.get i).iv (σ.get x)
 | .idx x i=>.int .u8 ((σ.get x).sv.data.toList.getD (σ.get i).iv.toNat 0).toNat
 | .idxA len z agg x i=>z3i agg z ((σ.get x).av.drop ((σ.get i).iv.toNat * z))
 | .slc str z x lo hi=>if str then slcKV (zcg σ 0 lo) (zcg σ (z5n (σ.get x)) hi) (σ.get x) else zkx σ (loK lo) (zcg σ 0 lo) (zcg σ (z5n (σ.get x)) hi) (σ.get x)
 | .len _ x=>zj6 (σ.get x)
 | .mx isMax x y=>mxVal isMax (σ.get y) (σ.get x)
 | .conv k x=>.int k (k.wrap (σ.get x).iv)
 | .mkfn f first caps=>.clo f (z17 σ (first.map σ.get)) (z17 σ (caps.map σ.get))
 | .loadp z agg p=>match σ.get p with
  | .rp cs=>z3i agg z cs
  | v=>lpVal σ z v agg
 | _=>.und
def fzV (σ:St):IOp->List Nat
 | .slc str _ x lo _=>if str then [] else slcFz (loK lo) (σ.get x)
 | .mkfn _ first caps=>z8k (first.map σ.get) ++ z8k (caps.map σ.get)
 | .loadp z agg p=>match σ.get p with
  | .rp _=>[]
  | v=>lpFz σ z v agg
 | .bld _ ps=>z8k (ps.map fun p=>σ.get p.x)
 | _=>[]
theorem z5a {σ:St} {x:Option IOpd} {d:Nat} {K:Nat->Prop}:z3j σ x d K = (bdOk σ x∧K (zcg σ d x)):=by
 cases x with
 | none=>simp [z3j,bdOk,zcg]
 | some x =>
  simp only [z3j,bdOk,zcg]
  cases hx:σ.get x <;> simp [AV.isI,AV.iv]
theorem y7v {hid:List Nat} {σ:St} {K:AV->List Nat->Prop} {io:IOp} (h:okV hid σ io∧K (valV σ io) (fzV σ io)):z05 hid σ K io:=by
 obtain ⟨h1,h2⟩:=h
 cases io with
 | mv x=>exact h2
 | mvs x =>
  simp only [okV,valV,fzV,z05] at *
  cases hx:σ.get x <;> simp_all [AV.isS]
 | pick c x y =>
  simp only [okV,valV,fzV,z05] at *
  cases hc:σ.get c <;> rw [hc] at h1 h2 <;> simp [AV.isB] at h1
  rename_i b
  cases b <;> simpa [AV.bv] using h2
 | bin op x y =>
  simp only [okV,valV,fzV,z05] at *
  cases hx:σ.get x <;> rw [hx] at h1 h2 <;> simp [AV.isI,AV.isS] at h1
  ·cases hy:σ.get y <;> rw [hy] at h1 h2 <;> simp [AV.isI] at h1
   simp only [binI_ok]
   exact ⟨by simpa [AV.ik] using h1.1,by simpa [AV.iv] using h1.2,by simpa [AV.isI,AV.ik,AV.iv] using h2⟩
  ·cases hy:σ.get y <;> rw [hy] at h1 h2 <;> simp [AV.isS] at h1
   simp only [binS_ok]
   exact ⟨by simpa [AV.sv] using h1,by simpa [AV.isI,AV.sv] using h2⟩
 | beq neq x y =>
  simp only [okV,valV,fzV,z05] at *
  cases hx:σ.get x <;> rw [hx] at h1 h2 <;> simp [AV.isB] at h1
  cases hy:σ.get y <;> rw [hy] at h1 h2 <;> simp [AV.isB] at h1
  exact h2
 | feq neq sh x y =>
  simp only [okV,valV,fzV,z05] at *
  cases hx:σ.get x <;> rw [hx] at h1 h2 <;> simp only [AV.isA,Bool.false_eq_true,false_and] at h1
  cases hy:σ.get y <;> rw [hy] at h1 h2 <;> simp only [AV.isA,Bool.false_eq_true,false_and,and_false] at h1
  exact ⟨h1.2.2,h2⟩
 | bld zero ps =>
  simp only [okV,valV,fzV,z05] at *
  rw [z1s.1 h1.1]
  simp only [y7u h1.2]
  exact h2
 | un op x =>
  cases op <;> simp only [okV,valV,fzV,z05] at *
  ·cases hx:σ.get x <;> rw [hx] at h1 h2 <;> simp [AV.isI] at h1
   exact h2
  ·cases hx:σ.get x <;> rw [hx] at h1 h2 <;> simp [AV.isB] at h1
   exact h2
 | ext i x =>
  simp only [okV,valV,fzV,z05] at *
  cases hx:σ.get x <;> rw [hx] at h1 h2 <;> simp [AV.isTu,AV.tv] at h1
  rename_i vs
  simp only [AV.tv] at h2
  rw [List.getD_eq_getElem?_getD,List.getElem?_eq_getElem h1] at h2
  simp only [List.getElem?_eq_getElem h1]
  exact h2
 | load z agg p =>
  simp only [okV,valV,fzV,z05] at *
  cases hp:σ.get p <;> rw [hp] at h1 h2 <;> simp only [y13,z1u,false_and] at h1 h2 <;> try exact h1.elim
  ·simp only [z6a]; exact ⟨h1.2,h2⟩
  ·rename_i r i f
   obtain ⟨⟨g1,g2⟩,g3⟩:=h1
   refine ⟨g1,?_⟩
   cases ha:σ.H r with
   | none=>rw [ha] at g2; simp [z0a] at g2
   | some arr =>
    rw [ha] at g2 g3 h2
    simp only [z0a] at g2 g3 h2
    rw [List.getD_eq_getElem?_getD,List.getElem?_eq_getElem g2] at g3 h2
    simp only [List.getElem?_eq_getElem g2,z6a]
    exact ⟨g3,h2⟩
 | loadp z agg p =>
  simp only [okV,valV,fzV,z05] at *
  cases hp:σ.get p <;> rw [hp] at h1 h2 <;> simp only [isPtr,Bool.false_eq_true,false_and] at h1 h2
  case rp cs=>simp only [z6a]; exact ⟨h1,h2⟩
  rename_i r i f
  obtain ⟨-,h1,h3,h4⟩:=h1
  simp only [y13] at h1
  obtain ⟨g1,g2⟩:=h1
  refine ⟨g1,?_⟩
  cases ha:σ.H r with
  | none=>rw [ha] at g2; simp [z0a] at g2
  | some arr =>
   simp only [z1u,ha,z0a,lpVal,lpFz,lpOk,pRt,pOf,objZ] at g2 h2 h3 h4
   simp only [ha,z0a,List.getD_eq_getElem?_getD,List.getElem?_eq_getElem g2,Option.getD_some] at h2 h3 h4
   simp only [List.getElem?_eq_getElem g2]
   cases agg with
   | true =>
    rw [if_pos rfl]
    simp only [ha,z0a,objZ,List.getD_eq_getElem?_getD,List.getElem?_eq_getElem g2,Option.getD_some] at h2 h4
    exact ⟨h3,zdi h4 h2⟩
   | false =>
    rw [if_neg (by simp)]
    simp only [ha,z0a,objZ,List.getD_eq_getElem?_getD,List.getElem?_eq_getElem g2,Option.getD_some] at h2 h4
    simp only [z3z] at h3
    match hc:List.drop f (arr.cells[i]).cells,h3 with
    | c :: cs,_ =>
     rw [hc] at h2 h4
     exact privV_ok h4 h2
 | faddr off p =>
  simp only [okV,valV,fzV,z05] at *
  cases hp:σ.get p <;> rw [hp] at h1 h2 <;> simp only [faOk,faVal] at h1 h2 <;> try exact h1.elim
  ·exact h2
  ·rename_i r i f
   refine ⟨h1.1,?_⟩
   cases ha:σ.H r with
   | none=>rw [ha] at h1; cases h1.2
   | some arr=>exact h2
 | fld off z agg x =>
  simp only [okV,valV,fzV,z05] at *
  cases hx:σ.get x <;> rw [hx] at h1 h2 <;> simp only [AV.isA,AV.av,Bool.false_eq_true,false_and] at h1 h2
  simp only [z6a]
  exact ⟨h1.2,h2⟩
 | iaddr z x i =>
  simp only [okV,valV,fzV,z05] at *
  cases hi:σ.get i <;> rw [hi] at h1 h2 <;> simp only [AV.isI,AV.iv,Bool.false_eq_true,false_and] at h1 h2
  cases hx:σ.get x <;> rw [hx] at h1 h2 <;> simp only [iaOk,iaVal,and_false] at h1 h2
  ·exact ⟨h1.2.1,h1.2.2,h2⟩
  ·rename_i r off len
   obtain ⟨-,g1,g2,g3,g4⟩:=h1
   refine ⟨g1,g2,?_⟩
   cases ha:σ.H r with
   | none=>rw [ha] at g3; cases g3
   | some arr=>rw [ha] at g4; exact ⟨g4,h2⟩
 | idx x i =>
  simp only [okV,valV,fzV,z05] at *
  cases hi:σ.get i <;> rw [hi] at h1 h2 <;> simp only [AV.isI,AV.iv,Bool.false_eq_true,false_and] at h1 h2
  cases hx:σ.get x <;> rw [hx] at h1 h2 <;> simp only [AV.isS,AV.sv,Bool.false_eq_true,false_and,and_false] at h1 h2
  exact ⟨h1.2.2,h2⟩
 | idxA len z agg x i =>
  simp only [okV,valV,fzV,z05] at *
  cases hi:σ.get i <;> rw [hi] at h1 h2 <;> simp only [AV.isI,AV.iv,Bool.false_eq_true,false_and] at h1 h2
  cases hx:σ.get x <;> rw [hx] at h1 h2 <;> simp only [AV.isA,AV.av,Bool.false_eq_true,false_and,and_false] at h1 h2
  simp only [z6a]
  exact ⟨h1.2.2.1,h1.2.2.2,h2⟩
 | slc str z x lo hi =>
  cases str
  ·simp only [okV,valV,fzV,z05,Bool.false_eq_true,if_false] at *
   obtain ⟨g1,g2,g3,g4,g5⟩:=h1
   cases hx:σ.get x <;> rw [hx] at g1 g4 g5 h2 <;> simp only [zt2,z5n,zkx,slcFz] at g1 g4 g5 h2 <;> try exact g1.elim
   ·simp only [z5a]
    exact ⟨g2,g4,g3,g5,g1,h2⟩
   ·rename_i r off len
    refine ⟨g1.1,?_⟩
    cases ha:σ.H r with
    | none=>rw [ha] at g1; cases g1.2.1
    | some arr =>
     rw [ha] at g1
     refine ⟨g1.2.2,?_⟩
     rw [z5a]
     refine ⟨g2,g4,?_⟩
     unfold z6q
     have hk:loK lo = 0∨(loK lo = 1∧zcg σ 0 lo = 1)∨loK lo = 2:=by
      unfold loK
      split
      ·exact .inl rfl
      ·rename_i k1 n1
       split
       ·rename_i e1
        have:n1 = 1:=by simpa using e1
        subst this
        exact .inr (.inl ⟨rfl,rfl⟩)
       ·exact .inr (.inr rfl)
      ·exact .inr (.inr rfl)
     rcases hk with hk | ⟨hk,hb⟩ | hk
     ·rw [hk] at h2 ⊢
      simpa [y0x] using h2
     ·rw [hk] at h2 ⊢
      rw [hb] at g5
      exact ⟨g5,by simpa [y0x] using h2⟩
     ·rw [hk] at h2 ⊢
      simp only [z5a]
      exact ⟨g3,g5,by simpa [y0x,z0a,ha] using h2⟩
  ·simp only [okV,valV,fzV,z05,if_true] at *
   obtain ⟨g1,g2,g3,g4,g5⟩:=h1
   cases hx:σ.get x <;> rw [hx] at g1 g4 g5 h2 <;> simp only [zt2,z5n,slcKV] at g1 g4 g5 h2 <;> try exact g1.elim
   ·simp only [z5a]
    exact ⟨g1,g2,g4,g3,g5,h2⟩
   ·simp only [z5a]
    exact ⟨g1.1,g2,g4,g3,g5,g1.2,h2⟩
   ·rename_i r off len
    refine ⟨g1.1,g1.2.1,?_⟩
    cases ha:σ.H r with
    | none=>rw [ha] at g1; cases g1.2.2.1
    | some arr =>
     rw [ha] at g1
     refine ⟨g1.2.2.2,?_⟩
     rw [z5a]
     refine ⟨g2,g4,?_⟩
     simp only [z5a]
     exact ⟨g3,g5,h2⟩
 | len str x =>
  simp only [okV,valV,fzV,z05] at *
  cases str
  ·cases hx:σ.get x <;> rw [hx] at h1 h2 <;> simp only [y1n,zj6] at h1 h2 <;> try exact h1.elim
   ·exact h2
   ·rename_i r off len
    refine ⟨h1.1,?_⟩
    cases ha:σ.H r with
    | none=>rw [ha] at h1; cases h1.2
    | some arr=>exact h2
  ·cases hx:σ.get x <;> rw [hx] at h1 h2 <;> simp only [y1n,zj6] at h1 h2 <;> try exact h1.elim
   exact h2
 | mx b x y =>
  simp only [okV,valV,fzV,z05] at *
  cases hx:σ.get x <;> rw [hx] at h1 h2 <;> simp only [mxOk,Bool.false_eq_true] at h1
  ·cases hy:σ.get y <;> rw [hy] at h1 h2 <;> simp only [AV.isI,Bool.false_eq_true,and_false] at h1
   exact h2
  ·cases hy:σ.get y <;> rw [hy] at h1 h2 <;> simp only [AV.isS,Bool.false_eq_true,and_false] at h1
   exact h2
 | conv k x =>
  simp only [okV,valV,fzV,z05] at *
  cases hx:σ.get x <;> rw [hx] at h1 h2 <;> simp only [AV.isI,Bool.false_eq_true] at h1
  exact h2
 | mkfn f first caps =>
  simp only [okV,valV,fzV,z05] at *
  rw [z1s.1 h1.1,z1s.1 h1.2]
  exact h2
 | _=>exact h1.elim
end Go.Proofs.YtlhblpbfhfhlpaaGreat
end
