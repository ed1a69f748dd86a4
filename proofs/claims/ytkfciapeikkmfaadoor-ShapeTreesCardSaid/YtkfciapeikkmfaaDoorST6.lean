/-
  Part 6 of a proof: AmO, AmP, AmQ.
-/
import Derived.Test.YtkfciapeikkmfaaDoorST5
set_option linter.unusedVariables false
set_option linter.unusedSimpArgs false
section
namespace Go.Proofs.YtkfciapeikkmfaaDoor
open Go.RowKit
inductive SameX:Exit->XK->Prop
 | normal:SameX .normal .normal
 | exit (id:Nat):SameX (.exit id) (.exit id)
 | ret:SameX .ret .ret
def Post (w0:Start) (Pr0:Nat->Nat->Prop) (n:Nat) (Q:XK->St->Prop):Exit->Act->World->Prop :=
 fun e a w=>∃ x μ σ,SameX e x∧Q x σ∧SR w0 Pr0 n μ σ a w
theorem y10 {F:(XK->St->Prop)->St->Prop} (hF:∀ (Q Q':XK->St->Prop),(∀ e σ,Q e σ->Q' e σ)->∀ σ,F Q σ->F Q' σ) {Q Q':XK->St->Prop} (h:∀ e σ,Q e σ->Q' e σ):∀ n σ,iter F Q n σ->iter F Q' n σ
 | 0,_,h=>h.elim
 | n + 1,σ,hi=>by
  refine hF _ _ (fun e σ hq=>?_) σ hi
  cases e with
  | normal=>exact y10 hF h n σ hq
  | exit id=>exact h _ _ hq
  | ret=>exact h _ _ hq
theorem z25 {σ:St} {dst:Option Nat} {K K':St->Prop} (h:∀ σ,K σ->K' σ) {io:IOp} (hE:z18 σ dst K io):z18 σ dst K' io:=by
 cases io with
 | store z p x =>
  simp only [z18] at hE ⊢
  split at hE
  ·split at hE
   ·split at hE
    ·split at hE
     ·obtain ⟨a1,a2,a3,a4,hK⟩:=hE
      exact ⟨a1,a2,a3,a4,h _ hK⟩
     ·exact hE.elim
    ·exact hE.elim
   ·exact hE.elim
  ·exact hE.elim
 | append z ty bytes x y =>
  simp only [z18] at hE ⊢
  split at hE
  ·split at hE
   ·obtain ⟨a0,a1,a2,a3,a4,a5,hK,hK2⟩:=hE
    exact ⟨a0,a1,a2,a3,a4,a5,h _ hK,fun q=>h _ (hK2 q)⟩
   ·exact hE.elim
  ·exact hE.elim
 | nileq neq x =>
  simp only [z18] at hE ⊢
  split at hE
  ·exact ⟨fun e=>h _ (hE.1 e),h _ hE.2⟩
  ·exact ⟨hE.1,fun e=>h _ (hE.2.1 e),h _ hE.2.2⟩
  ·exact hE.elim
 | copy z x y =>
  simp only [z18] at hE ⊢
  split at hE
  ·split at hE
   ·obtain ⟨a1,a2,a3,a4,a5,hK⟩:=hE
    exact ⟨a1,a2,a3,a4,a5,h _ hK⟩
   ·exact hE.elim
  ·exact hE.elim
 | storep z p x =>
  simp only [z18] at hE ⊢
  split at hE
  ·split at hE
   ·split at hE
    ·obtain ⟨a1,a2,a3,a4,hK⟩:=hE
     exact ⟨a1,a2,a3,a4,fun u hu=>h _ (hK u hu)⟩
    ·exact hE.elim
   ·exact hE.elim
  ·split at hE
   ·split at hE
    ·obtain ⟨a1,a2,a3,hK⟩:=hE
     exact ⟨a1,a2,a3,h _ hK⟩
    ·exact hE.elim
   ·exact hE.elim
  ·exact hE.elim
 | _=>exact hE.elim
theorem z3n {C:FuncId->List AV->AV->Prop} {dst:Nat} {hid:List Nat} {σ:St} {K K':AV->Option Arr->List Nat->Prop} (h:∀ v s f,K v s f->K' v s f) {io:IOp} (hE:z12 C dst hid σ K io):z12 C dst hid σ K' io:=by
 obtain ⟨v,s,fz,h1,_,h2⟩:=zmf hE
 exact h2 σ K' (Alike.refl _ _ _) (h _ _ _ h1)
theorem z58 {σ:St} {g:Option (Nat × Bool)} {y y' n n':St->Prop} (hy:∀ σ,y σ->y' σ) (hn:∀ σ,n σ->n' σ) (h:z1u σ g y n):z1u σ g y' n':=by
 unfold z1u at h ⊢
 cases g with
 | none=>exact hy _ h
 | some g =>
  obtain ⟨t,w⟩:=g
  simp only at h ⊢
  split at h
  ·exact ⟨fun e=>hy _ (h.1 e),fun e=>hn _ (h.2 e)⟩
  ·exact hn _ h
  ·exact h.elim
theorem z1h {C:FuncId->List AV->AV->Prop} {K K':St->Prop} (h:∀ σ,K σ->K' σ):∀ {l:List ROp} {σ:St},z0i C l σ K->z0i C l σ K'
 | [],_,hE=>h _ hE
 | r :: l,σ,hE=>by
  simp only [z0i] at hE ⊢
  refine z58 (fun σ hs=>?_) (fun σ hs=>z1h h hs) hE
  unfold z9a at hs ⊢
  split at hs
  ·rename_i hm; rw [if_pos hm]; exact z25 (fun σ=>z1h h) hs
  ·rename_i hm
   rw [if_neg hm]
   cases hd:r.dst with
   | none=>rw [hd] at hs; exact hs.elim
   | some dst=>rw [hd] at hs; exact z3n (fun v s f hk=>⟨hk.1,z1h h hk.2⟩) hs
theorem ztu {F0 hid wr:List Nat} {σ:St} {K K':Nat->Arr->Prop} (h:∀ r a,K r a->K' r a) {io:IOp} (hE:y1q F0 hid wr σ K io):y1q F0 hid wr σ K' io:=by
 cases io with
 | store z p x =>
  simp only [y1q] at hE ⊢
  split at hE
  ·obtain ⟨a1,a2,a3,hE⟩:=hE
   refine ⟨a1,a2,a3,?_⟩
   split at hE
   ·obtain ⟨a4,hE⟩:=hE
    refine ⟨a4,?_⟩
    split at hE
    ·split at hE
     ·exact ⟨hE.1,hE.2.1,hE.2.2.1,hE.2.2.2.1,h _ _ hE.2.2.2.2⟩
     ·exact hE.elim
    ·exact hE.elim
   ·exact hE.elim
  ·exact hE.elim
 | _=>exact hE.elim
theorem z0g {C:FuncId->List AV->AV->Prop} {F0:List Nat} {K K':St->Prop} (h:∀ σ,K σ->K' σ):∀ {l:List ROp} {σ:St},z0r C F0 l σ K->z0r C F0 l σ K'
 | [],_,hE=>h _ hE
 | r :: l,σ,hE=>by
  simp only [z0r] at hE ⊢
  refine z58 (fun σ hs=>?_) (fun σ hs=>?_) hE
  ·cases hd:r.dst with
   | none=>rw [hd] at hs; exact ztu (fun r a hk=>z0g h hk) hs
   | some dst=>rw [hd] at hs; exact z3n (fun v s f hk=>⟨hk.1,hk.2.1,z0g h hk.2.2⟩) hs
  ·cases hd:r.dst with
   | none=>rw [hd] at hs; exact z0g h hs
   | some dst=>rw [hd] at hs; exact z0g h hs
theorem ztt {P:Program} {C:FuncId->List AV->AV->Prop} {K K':St->Prop} (h:∀ σ,K σ->K' σ) {x:XOp} {σ:St} (hE:z1w P C x σ K):z1w P C x σ K':=by
 cases x with
 | op k r=>exact z1h h hE
 | nilck d x g =>
  simp only [z1w] at hE ⊢
  refine z58 (fun σ hs=>?_) (fun σ hs=>h _ hs) hE
  unfold zt8 at hs ⊢
  split at hs
  ·exact ⟨hs.1,h _ hs.2⟩
  ·exact h _ hs
  ·exact hs.elim
 | mkclo d f x =>
  simp only [z1w] at hE ⊢
  split at hE
  ·exact ⟨hE.1,h _ hE.2⟩
  ·exact hE.elim
 | mkmap d ty=>exact h _ hE
 | mlook d ok m k z g =>
  simp only [z1w] at hE ⊢
  refine z58 (fun σ hs=>?_) (fun σ hs=>h _ hs) hE
  unfold zta at hs ⊢
  split at hs
  ·exact h _ hs
  ·exact hs.elim
 | mupd m k x =>
  simp only [z1w] at hE ⊢
  unfold zli at hE ⊢
  split at hE
  ·exact ⟨hE.1,hE.2.1,h _ hE.2.2⟩
  ·exact hE.elim
 | mcall d fx xs =>
  simp only [z1w] at hE ⊢
  split at hE
  ·split at hE
   ·obtain ⟨r,H',h1,h2⟩:=hE
    exact ⟨r,H',h1,h _ h2⟩
   ·obtain ⟨h0,r,H',h1,h2⟩:=hE
    exact ⟨h0,r,H',h1,h _ h2⟩
   ·exact hE.elim
  ·exact hE.elim
 | wcall d fx xs =>
  simp only [z1w] at hE ⊢
  split at hE
  ·split at hE
   ·obtain ⟨r,H',h1,h2⟩:=hE
    exact ⟨r,H',h1,h _ h2⟩
   ·exact hE.elim
  ·exact hE.elim
 | gcall d fx xs =>
  simp only [z1w] at hE ⊢
  split at hE
  ·split at hE
   ·obtain ⟨h0,S,res,R,h1,h2,h3⟩:=hE
    exact ⟨h0,S,res,R,h1,h2,fun S' hR=>h _ (h3 S' hR)⟩
   ·exact hE.elim
  ·exact hE.elim
theorem z3w {P:Program} {C:FuncId->List AV->AV->Prop} {K K':St->Prop} (h:∀ σ,K σ->K' σ):∀ {l:List XOp} {σ:St},z17 P C l σ K->z17 P C l σ K'
 | [],_,hE=>h _ hE
 | x :: l,σ,hE=>ztt (fun σ=>z3w h) hE
theorem ztr {K K':St->Prop} (h:∀ σ,K σ->K' σ):∀ {l:List GIni} {σ:St},z9s l σ K->z9s l σ K'
 | [],σ,hE=>h _ hE
 | g :: l,σ,hE=>⟨hE.1,hE.2.1,ztr h hE.2.2⟩
theorem z3i {C:FuncId->List AV->AV->Prop}:∀ (c:IR) {Q Q':XK->St->Prop},(∀ e σ,Q e σ->Q' e σ)->∀ σ,awp C c Q σ->awp C c Q' σ
 | .gini l,Q,Q',h,σ,hE=>ztr (h .normal) hE
 | .skip,Q,Q',h,σ,hE=>h _ _ hE
 | .reg g,Q,Q',h,σ,hE=>by
  simp only [awp,z3x] at hE ⊢
  split at hE
  ·rename_i hd; rw [if_pos hd]; exact z0g (fun σ=>z1h (h .normal)) hE
  ·rename_i hd; rw [if_neg hd]; exact z1h (h .normal) hE
 | .regw g s,Q,Q',h,σ,hE=>by
  simp only [awp,z6u] at hE ⊢
  split at hE
  ·refine ⟨hE.1,?_⟩
   have hE:=hE.2
   simp only [z3x] at hE ⊢
   split at hE
   ·rename_i hd; rw [if_pos hd]; exact z0g (fun σ=>z1h (h .normal)) hE
   ·rename_i hd; rw [if_neg hd]; exact z1h (h .normal) hE
  ·exact hE.elim
 | .regd P g l,Q,Q',h,σ,hE=>by
  simp only [awp,z9v] at hE ⊢
  exact z0g (fun σ=>z3w (h .normal)) hE
 | .regp P g z s0 tp tv l,Q,Q',h,σ,hE=>by
  simp only [awp,z9u] at hE ⊢
  refine z0g (fun σ hs=>?_) hE
  unfold zme at hs ⊢
  split at hs
  ·exact ⟨hs.1,hs.2.1,z25 (fun σ=>z3w (h .normal)) hs.2.2⟩
  ·exact hs.elim
 | .regm P g lt mo ko vo l,Q,Q',h,σ,hE=>by
  simp only [awp,zfk] at hE ⊢
  refine z0g (fun σ hs=>⟨hs.1,hs.2.1,?_⟩) hE
  have hs:=hs.2.2
  unfold zli at hs ⊢
  split at hs
  ·exact ⟨hs.1,hs.2.1,z3w (h .normal) hs.2.2⟩
  ·exact hs.elim
 | .regx P l,Q,Q',h,σ,hE=>z3w (h .normal) hE
 | .seq x y,Q,Q',h,σ,hE=>by
  simp only [awp] at hE ⊢
  refine z3i x (fun e σ hq=>?_) σ hE
  cases e with
  | normal=>exact z3i y h σ hq
  | exit id=>exact h _ _ hq
  | ret=>exact h _ _ hq
 | .cond c x y,Q,Q',h,σ,hE=>by
  simp only [awp] at hE ⊢
  split at hE
  ·exact ⟨fun e=>z3i x h σ (hE.1 e),fun e=>z3i y h σ (hE.2 e)⟩
  ·exact hE.elim
 | .block id b,Q,Q',h,σ,hE=>by
  simp only [awp] at hE ⊢
  refine z3i b (fun e σ hq=>?_) σ hE
  cases e with
  | normal=>exact h _ _ hq
  | exit j =>
   simp only [z5f] at hq ⊢
   split at hq
   ·rename_i e; rw [if_pos e]; exact h _ _ hq
   ·rename_i e; rw [if_neg e]; exact h _ _ hq
  | ret=>exact h _ _ hq
 | .loop b,Q,Q',h,σ,hE=>by
  simp only [awp] at hE ⊢
  obtain ⟨k,hk⟩:=hE
  exact ⟨k,y10 (fun Q Q' h'=>z3i b h') h k σ hk⟩
 | .exit id,Q,Q',h,σ,hE=>h _ _ hE
 | .ret,Q,Q',h,σ,hE=>h _ _ hE
section
variable {pv:Bool} {P:Program} {w0:Start} {Pr0:Nat->Nat->Prop} {n:Nat}
theorem z3m {a:Act} {w:World}:∀ {l:List GIni} {μ:Nat->Option Nat} {σ:St} {K:St->Prop},SR w0 Pr0 n μ σ a w->z9s l σ K->∃ μ' σ',K σ'∧SR w0 Pr0 n μ' σ' a w
 | [],μ,σ,K,h,hE=>⟨μ,σ,hE,h⟩
 | g :: l,μ,σ,K,h,hE=>by
  obtain ⟨h1,h2,hE⟩:=hE
  have hk:=h.kill g.q h1
  obtain ⟨hA,hμ⟩:=hk.adoptNil h1 (z03 _ _ _) (fun t e=>by
   have e:(if (σ.T t).name = some g.q then keepV σ.H (σ.T t) else σ.T t).name = some g.q:=e
   split at e
   ·rw [z3l] at e; cases e
   ·rename_i hne; exact hne e) (z:=g.z) (ty:=g.ty) h2
  exact z3m (SR.ghost hA (t:=vt g.r g.j) (d:=.vrs g.q 0 0 (.slice none 0 0)) (fun v arr ha=>.inl ⟨hμ,rfl,rfl,rfl⟩)) hE
theorem z2w (hm:P.follows .mixedOrders = true) {hint:Nat->List Nat}:∀ (c:Code) {ir:IR},comp pv P n hint c = some ir->∀ {Q:XK->St->Prop} {μ:Nat->Option Nat} {σ:St} {a:Act} {w:World},SR w0 Pr0 n μ σ a w->awp (AFn P) ir Q σ->c.wp P (Post w0 Pr0 n Q) a w
 | .skip,ir,hc,Q,μ,σ,a,w,hS,hE=>by
  cases hc
  exact wp_skip ⟨.normal,μ,σ,.normal,hE,hS⟩
 | .region id ops draw,ir,hc,Q,μ,σ,a,w,hS,hE=>by
  simp only [comp] at hc
  split at hc
  ·rename_i hd
   obtain ⟨l,hl,rfl⟩:=Option.map_eq_some_iff.1 hc
   have hdraw:draw = false:=by
    cases draw with
    | false=>rfl
    | true=>simp at hd
   subst hdraw
   unfold zmz at hE
   split at hE
   ·split at hE
    ·exact zcy hl hS hE (fun μ' σ' a' w' hk hS'=>⟨.normal,μ',σ',.normal,hk,hS'⟩)
    ·simp only [awp,z30] at hE
     exact zcy hl hS hE (fun μ' σ' a' w' hk hS'=>let ⟨μ2,σ2,k1,k2⟩:=z3m hS' hk; ⟨.normal,μ2,σ2,.normal,k1,k2⟩)
   ·exact zcy hl hS hE (fun μ' σ' a' w' hk hS'=>⟨.normal,μ',σ',.normal,hk,hS'⟩)
  ·split at hc
   ·rename_i p hp
    cases hc
    unfold zmz at hE
    split at hE
    ·split at hE
     ·exact zcz hm hp hS hE (fun μ' σ' a' w' hk hS'=>⟨.normal,μ',σ',.normal,hk,hS'⟩)
     ·simp only [awp,z30] at hE
      exact zcz hm hp hS hE (fun μ' σ' a' w' hk hS'=>let ⟨μ2,σ2,k1,k2⟩:=z3m hS' hk; ⟨.normal,μ2,σ2,.normal,k1,k2⟩)
    ·exact zcz hm hp hS hE (fun μ' σ' a' w' hk hS'=>⟨.normal,μ',σ',.normal,hk,hS'⟩)
   split at hc
   ·rename_i g hg
    cases hc
    unfold zmz at hE
    split at hE
    ·split at hE
     ·exact z61 hm hg hS hE (fun μ' σ' a' w' hk hS'=>⟨.normal,μ',σ',.normal,hk,hS'⟩)
     ·simp only [awp] at hE
      exact z61 hm hg hS hE (fun μ' σ' a' w' hk hS'=>let ⟨μ2,σ2,k1,k2⟩:=z3m hS' hk; ⟨.normal,μ2,σ2,.normal,k1,k2⟩)
    ·exact z61 hm hg hS hE (fun μ' σ' a' w' hk hS'=>⟨.normal,μ',σ',.normal,hk,hS'⟩)
   split at hc
   ·rename_i p hp
    cases hc
    unfold zmz at hE
    split at hE
    ·split at hE
     ·exact zd1 hm hp hS hE (fun μ' σ' a' w' hk hS'=>⟨.normal,μ',σ',.normal,hk,hS'⟩)
     ·simp only [awp,z30] at hE
      exact zd1 hm hp hS hE (fun μ' σ' a' w' hk hS'=>let ⟨μ2,σ2,k1,k2⟩:=z3m hS' hk; ⟨.normal,μ2,σ2,.normal,k1,k2⟩)
    ·exact zd1 hm hp hS hE (fun μ' σ' a' w' hk hS'=>⟨.normal,μ',σ',.normal,hk,hS'⟩)
   ·obtain ⟨p,hp,rfl⟩:=Option.map_eq_some_iff.1 hc
    unfold zmz at hE
    split at hE
    ·split at hE
     ·exact zd0 hm hp hS hE (fun μ' σ' a' w' hk hS'=>⟨.normal,μ',σ',.normal,hk,hS'⟩)
     ·simp only [awp,z30] at hE
      exact zd0 hm hp hS hE (fun μ' σ' a' w' hk hS'=>let ⟨μ2,σ2,k1,k2⟩:=z3m hS' hk; ⟨.normal,μ2,σ2,.normal,k1,k2⟩)
    ·exact zd0 hm hp hS hE (fun μ' σ' a' w' hk hS'=>⟨.normal,μ',σ',.normal,hk,hS'⟩)
 | .seq x y,ir,hc,Q,μ,σ,a,w,hS,hE=>by
  simp only [comp] at hc
  split at hc
  ·rename_i ix iy hx hy
   cases hc
   refine wp_seq (wp_mono (z2w hm x hx hS hE) ?_)
   rintro e a' w' ⟨k,μ',σ',hs,hq,hS'⟩
   cases hs with
   | normal=>exact z2w hm y hy hS' hq
   | exit id=>exact ⟨_,μ',σ',.exit id,hq,hS'⟩
   | ret=>exact ⟨_,μ',σ',.ret,hq,hS'⟩
  ·cases hc
 | .cond c x y,ir,hc,Q,μ,σ,a,w,hS,hE=>by
  simp only [comp] at hc
  split at hc
  ·rename_i ic ix iy h1 hx hy
   cases hc
   simp only [awp] at hE
   have tc:=hS.get h1
   split at hE
   ·rename_i b e
    rw [e] at tc
    cases b with
    | true=>exact wp_cond_true tc.bool (z2w hm x hx hS (hE.1 rfl))
    | false=>exact wp_cond_false tc.bool (z2w hm y hy hS (hE.2 rfl))
   ·exact hE.elim
  ·cases hc
 | .block id b,ir,hc,Q,μ,σ,a,w,hS,hE=>by
  simp only [comp,Option.map_eq_some_iff] at hc
  obtain ⟨ib,hb,rfl⟩:=hc
  refine wp_block (wp_mono (z2w hm b hb hS hE) ?_)
  rintro e a' w' ⟨k,μ',σ',hs,hq,hS'⟩
  cases hs with
  | normal=>exact ⟨_,μ',σ',.normal,hq,hS'⟩
  | exit j =>
   simp only [z5f] at hq
   by_cases e:j = id
   ·subst e
    rw [if_pos rfl] at hq
    simp only [Exit.inBlock,if_true]
    exact ⟨_,μ',σ',.normal,hq,hS'⟩
   ·rw [if_neg e] at hq
    simp only [Exit.inBlock,if_neg e]
    exact ⟨_,μ',σ',.exit j,hq,hS'⟩
  | ret=>exact ⟨_,μ',σ',.ret,hq,hS'⟩
 | .loop b,ir,hc,Q,μ,σ,a,w,hS,hE=>by
  simp only [comp,Option.map_eq_some_iff] at hc
  obtain ⟨ib,hb,rfl⟩:=hc
  simp only [awp] at hE
  obtain ⟨k,hk⟩:=hE
  refine wp_loop_rounds k ?_
  have key:∀ (k:Nat) {μ:Nat->Option Nat} {σ:St} {a:Act} {w:World},SR w0 Pr0 n μ σ a w->iter (awp (AFn P) ib) Q k σ->Code.rounds P b (Post w0 Pr0 n Q) k a w:=by
   intro k
   induction k with
   | zero=>intro μ σ a w _ h; exact h.elim
   | succ k ih =>
    intro μ σ a w hS hi
    rw [rounds_succ]
    refine wp_mono (z2w hm b hb hS hi) ?_
    rintro e a' w' ⟨x,μ',σ',hs,hq,hS'⟩
    cases hs with
    | normal=>exact ih hS' hq
    | exit j=>exact ⟨_,μ',σ',.exit j,hq,hS'⟩
    | ret=>exact ⟨_,μ',σ',.ret,hq,hS'⟩
  exact key k hS hk
 | .exit id,ir,hc,Q,μ,σ,a,w,hS,hE=>by
  cases hc
  exact wp_exit ⟨_,μ,σ,.exit id,hE,hS⟩
 | .ret,ir,hc,Q,μ,σ,a,w,hS,hE=>by
  cases hc
  exact wp_ret ⟨_,μ,σ,.ret,hE,hS⟩
 | .rangeFunc ..,ir,hc,Q,μ,σ,a,w,hS,hE=>by cases hc
 | .scope ..,ir,hc,Q,μ,σ,a,w,hS,hE=>by cases hc
 | .label ..,ir,hc,Q,μ,σ,a,w,hS,hE=>by cases hc
 | .goto ..,ir,hc,Q,μ,σ,a,w,hS,hE=>by cases hc
 | .refuse ..,ir,hc,Q,μ,σ,a,w,hS,hE=>by cases hc
end
inductive RDesc where
 | tmp (t:Nat)
 | cell (p z:Nat) (agg:Bool)
def z1r (P:Program):List ResultVar->Option (List RDesc)
 | []=>some []
 | .tmp t :: l=>(z1r P l).map (.tmp t :: ·)
 | .cell p t :: l=>match tyOf P t,z1r P l with
  | some (z,agg),some l=>if agg || z == 1 then some (.cell p z agg :: l) else none
  | _,_=>none
def resV (σ:St) (d:RDesc) (K:AV->List Nat->Prop):Prop :=
 match d with
 | .tmp t=>match σ.byval [] (σ.T t) with
  | some (v,fz)=>K v fz
  | none=>False
 | .cell p z agg=>z06 [] σ K (.load z agg (.t p))
def zwr (σ:St):List RDesc->(List AV->List Nat->Prop)->Prop
 | [],K=>K [] []
 | d :: l,K=>resV σ d fun v f=>zwr σ l fun vs fs=>K (v :: vs) (f ++ fs)
def retV (ds:List RDesc) (r:AV) (σ:St):Prop :=
 match ds with
 | [.tmp t]=>(match r with
  | .own z ty l=>(match σ.T t with
   | .rs x 0 len=>(match σ.H x with
    | some arr=>arr.prot = 0∧arr.z = z∧arr.ty = ty∧len = arr.cells.length∧l = arr.cells
    | none=>False)
   | _=>False)
  | .mv es=>(match σ.T t with
   | .mp x es'=>(σ.H x).isSome = true∧es' = es
   | .mv es'=>es' = es
   | _=>False)
  | r=>resV σ (.tmp t) fun v _=>r = v)
 | [d]=>(match r with
  | .own ..=>False
  | r=>resV σ d fun v _=>r = v)
 | ds=>zwr σ ds fun vs _=>r = .tup vs
def z0a (args:List AV):St:=⟨fun t=>args.getD t .und,fun _=>none⟩
def endQ (ds:List RDesc) (r:AV):XK->St->Prop
 | .ret,σ=>retV ds r σ
 | .normal,σ=>retV ds r σ
 | .exit _,_=>False
structure FnIR (P:Program) (f:FuncId) where
 n:Nat
 body:IR
 res:List RDesc
structure FnIR.Ok (P:Program) (f:FuncId) (F:FnIR P f):Prop where
 ok:z9t P f = true
 body:∃ pv fn c hint,P.funcs[f]? = some fn∧fn.body = some c∧fn.ntmps = F.n∧comp pv P F.n hint c = some F.body∧z1r P fn.results.toList = some F.res
section
variable {pv:Bool} {P:Program} {w0:Start} {Pr0:Nat->Nat->Prop} {n:Nat} {μ:Nat->Option Nat} {σ:St} {a:Act} {w:World}
theorem frozenKept (h:SR w0 Pr0 n μ σ a w) {σ':St} {f:List Nat} (hf:∀ s arr,σ.H s = some arr->∃ arr',σ'.H s = some arr'∧Frozen arr arr'∧(s ∈ f->arr'.prot = arr.cells.length)):Kept (PrOf w0 Pr0 μ σ.H) (PrOf w0 Pr0 μ σ'.H) w w:=by
 refine ⟨Nat.le_refl _,fun b o _ hp=>⟨hp.1,fun s hs=>?_⟩,fun _ _ _ _=>rfl,fun _ _ _ _ _ h=>h⟩
 obtain ⟨arr,q1,q2⟩:=hp.2 s hs
 obtain ⟨arr',p1,p2,_⟩:=hf s arr q1
 refine ⟨arr',p1,?_⟩
 rw [p2.z]
 rcases p2.prot with e | e <;> rw [e]
 ·exact q2
 ·exact Nat.lt_of_lt_of_le q2 (Nat.mul_le_mul_right _ (h.obj s arr q1).2.1)
def zws (tmps:Array Value):ResultVar->Sem Value
 | .tmp t=>pure (tmps.getD t undef)
 | .cell p t=>do loadVar t (← asAddr (tmps.getD p undef))
theorem zo5 {rv:ResultVar} {d:RDesc} (hd:∃ l,z1r P [rv] = some (d :: l)) (h:SR w0 Pr0 n μ σ a w) {K:AV->List Nat->Prop} (hE:resV σ d K) :
  ∃ v fz u,K v fz∧(zws a.tmps rv).run P w = .ok u w∧∀ σ',SR w0 Pr0 n μ σ' a w->(∀ s arr,σ.H s = some arr->∃ arr',σ'.H s = some arr'∧Frozen arr arr'∧(s ∈ fz->arr'.prot = arr.cells.length))->VR (PrOf w0 Pr0 μ σ'.H) w v u:=by
 obtain ⟨l,hd⟩:=hd
 cases rv with
 | tmp t =>
  simp only [z1r,Option.map_some,Option.some.injEq,List.cons.injEq] at hd
  obtain ⟨rfl,_⟩:=hd
  simp only [resV] at hE
  split at hE
  ·rename_i v fz hbv
   exact ⟨v,fz,_,hE,rfl,fun σ' hS' hf=>h.byval hbv (h.tmp t) hS' hf⟩
  ·exact hE.elim
 | cell p t =>
  simp only [z1r] at hd
  split at hd
  ·rename_i z agg l' ht hl
   split at hd
   ·rename_i hz
    simp only [Option.some.injEq,List.cons.injEq] at hd
    obtain ⟨rfl,_⟩:=hd
    simp only [resV] at hE
    obtain ⟨v,u,ad,hK,had,hrun,hv⟩:=y0u (P:=P) (x:=.tmp p) (ix:=.t p) ht hz rfl h hE
    have hev:a.eval (.tmp p) = a.tmps.getD p undef:=by simp [Act.eval,Array.getD_eq_getD_getElem?]
    rw [hev] at had hrun
    rw [had] at hrun
    refine ⟨v,[],u,hK,?_,fun σ' hS' hf=>hv.kept (frozenKept h hf)⟩
    simp only [zws,Sem.run_bind,had,asAddr,Sem.run_pure,Result.andThen_ok]
    simpa [Instr.loadAt,Instr.sureAddr] using hrun
   ·cases hd
  ·cases hd
theorem z1i {rv:ResultVar} {l:List ResultVar} {ds:List RDesc} (h:z1r P (rv :: l) = some ds):∃ d ds',ds = d :: ds'∧z1r P [rv] = some [d]∧z1r P l = some ds':=by
 cases rv with
 | tmp t =>
  simp only [z1r,Option.map_eq_some_iff] at h
  obtain ⟨ds',h1,rfl⟩:=h
  exact ⟨_,ds',rfl,rfl,h1⟩
 | cell p t =>
  simp only [z1r] at h ⊢
  split at h
  ·rename_i z agg l' h1 h2
   split at h
   ·rename_i hz
    cases h
    refine ⟨.cell p z agg,l',rfl,?_,h2⟩
    rw [h1]; simp only; rw [if_pos hz]
   ·cases h
  ·cases h
theorem zie (h:SR w0 Pr0 n μ σ a w):∀ {l:List ResultVar} {ds:List RDesc},z1r P l = some ds->∀ {K:List AV->List Nat->Prop},zwr σ ds K ->
  ∃ (vs:List AV) (fs:List Nat) (us:List Value),K vs fs∧vs.length = us.length∧l.length = us.length∧(∀ (j:Nat) (rv:ResultVar) (u:Value),l[j]? = some rv->us[j]? = some u->(zws a.tmps rv).run P w = .ok u w) ∧
   ∀ σ',SR w0 Pr0 n μ σ' a w->(∀ s arr,σ.H s = some arr->∃ arr',σ'.H s = some arr'∧Frozen arr arr'∧(s ∈ fs->arr'.prot = arr.cells.length))->∀ (j:Nat) (v:AV) (u:Value),vs[j]? = some v->us[j]? = some u->VR (PrOf w0 Pr0 μ σ'.H) w v u
 | [],ds,hc,K,hE=>by
  cases hc
  exact ⟨[],[],[],hE,rfl,rfl,(fun j rv u hj=>by simp at hj),(fun σ' _ _ j v u hj=>by simp at hj)⟩
 | rv :: l,ds,hc,K,hE=>by
  obtain ⟨d,ds',rfl,h1,h2⟩:=z1i hc
  simp only [zwr] at hE
  obtain ⟨v,fz,u,hK,hrun,hv⟩:=zo5 ⟨[],h1⟩ h hE
  obtain ⟨vs,fs,us,hK2,hl,hl2,hrun2,hvs⟩:=zie h h2 hK
  refine ⟨v :: vs,fz ++ fs,u :: us,hK2,by simp [hl],by simp [hl2],fun j rv' u' hj hu=>?_,fun σ' hS' hf j v' u' hj hu=>?_⟩
  ·cases j with
   | zero=>cases hj; cases hu; exact hrun
   | succ j=>exact hrun2 j rv' u' (by simpa using hj) (by simpa using hu)
  ·cases j with
   | zero =>
    cases hj; cases hu
    exact hv σ' hS' (fun s arr hs=>let ⟨a',q1,q2,q3⟩:=hf s arr hs; ⟨a',q1,q2,fun hm=>q3 (List.mem_append.2 (.inl hm))⟩)
   | succ j=>exact hvs σ' hS' (fun s arr hs=>let ⟨a',q1,q2,q3⟩:=hf s arr hs; ⟨a',q1,q2,fun hm=>q3 (List.mem_append.2 (.inr hm))⟩) j v' u' (by simpa using hj) (by simpa using hu)
def z3d:List Value->Value
 | [u]=>u
 | us=>.tuple us.toArray
theorem z4y {fn:Func} {rv:List ResultVar} {us:List Value} {tmps:Array Value} (hr:fn.results.toList = rv) (hlen:rv.length≤3) (hl:rv.length = us.length) (h:∀ (j:Nat) (r:ResultVar) (u:Value),rv[j]? = some r->us[j]? = some u->(zws tmps r).run P w = .ok u w) :
  (results fn tmps).run P w = .ok (z3d us) w:=by
 have hres:fn.results = rv.toArray:=by apply Array.ext'; simpa using hr
 have e:results fn tmps = (do
   let vs ← fn.results.mapM (zws tmps)
   pure (if h:vs.size = 1 then vs[0] else .tuple vs)):=rfl
 rw [e,hres]
 clear e hres hr
 match rv,us,hlen,hl,h with
 | [],[],_,_,h=>simp [z3d]
 | [r1],[u1],_,_,h =>
  have h1:=h 0 r1 u1 rfl rfl
  simp [h1,z3d]
 | [r1,r2],[u1,u2],_,_,h =>
  have h1:=h 0 r1 u1 rfl rfl
  have h2:=h 1 r2 u2 rfl rfl
  simp [h1,h2,z3d]
 | [r1,r2,r3],[u1,u2,u3],_,_,h =>
  have h1:=h 0 r1 u1 rfl rfl
  have h2:=h 1 r2 u2 rfl rfl
  have h3:=h 2 r3 u3 rfl rfl
  simp [h1,h2,h3,z3d]
theorem z9q (h:SR w0 Pr0 n μ σ a w):Kept (PrOf w0 Pr0 μ σ.H) (fun b o=>Pr0 b o∨w0.w.heap.size≤b) w w:=by
 refine ⟨Nat.le_refl _,fun b o _ hp=>?_,fun _ _ _ _=>rfl,fun _ _ _ _ _ h=>h⟩
 rcases Nat.lt_or_ge b w0.w.heap.size with h1 | h1
 ·exact .inl (hp.1 h1)
 ·exact .inr h1
theorem zw9 {fn:Func} {ds:List RDesc} (hc:z1r P fn.results.toList = some ds) (hlen:fn.results.size≤3) (h:SR w0 Pr0 n μ σ a w) {r:AV} (hE:retV ds r σ) :
  ∃ v,(results fn a.tmps).run P w = .ok v w∧Below w0.w.heap.size w0.w w∧RR (fun b o=>Pr0 b o∨w0.w.heap.size≤b) w0.w.heap.size w r v:=by
 obtain ⟨rv,hrv⟩:∃ rv,fn.results.toList = rv:=⟨_,rfl⟩
 rw [hrv] at hc
 have hlen':rv.length≤3:=by rw [← hrv]; simpa using hlen
 -- one result,by itself
 have one:∀ {d:RDesc},ds = [d]->(∀ z ty l,r ≠ .own z ty l)->resV σ d (fun v _=>r = v)->∃ v,(results fn a.tmps).run P w = .ok v w∧Below w0.w.heap.size w0.w w∧RR (fun b o=>Pr0 b o∨w0.w.heap.size≤b) w0.w.heap.size w r v:=by
  intro d hd hno hE1
  clear hE
  subst hd
  match rv,hc with
  | [r1],hc =>
   obtain ⟨v,fz,u,hK,hrun,hv⟩:=zo5 ⟨[],hc⟩ h hE1
   subst hK
   have hS':SR w0 Pr0 n μ (σ.fzs fz) a w:=SR.fzs h
   have hV:=(hv _ hS' z27).kept (z9q hS')
   refine ⟨u,?_,h.below,?_⟩
   ·have:=z4y (P:=P) (w:=w) (us:=[u]) (tmps:=a.tmps) hrv (by simp) rfl (fun j r u' hj hu=>by
     cases j with
     | zero=>cases hj; cases hu; exact hrun
     | succ j=>simp at hj)
    simpa [z3d] using this
   ·cases r with
    | own z ty l=>exact absurd rfl (hno z ty l)
    | _=>exact hV
  | [],hc=>cases hc
  | r1 :: r2 :: l,hc =>
   obtain ⟨d1,ds',e,_,h2⟩:=z1i hc
   obtain ⟨d2,ds2,e2,_,_⟩:=z1i h2
   subst e2; cases e
 unfold retV at hE
 split at hE
 ·rename_i t
  split at hE
  ·rename_i z ty l
   split at hE
   ·rename_i x len e
    split at hE
    ·rename_i arr ha
     obtain ⟨e1,e2,e3,e4,e5⟩:=hE
     subst e2; subst e3; subst e5; subst e4
     match rv,hc with
     | [r1],hc =>
      have hr1:r1 = .tmp t:=by
       cases r1 with
       | tmp t'=>simp only [z1r,Option.map_some,Option.some.injEq,List.cons.injEq,RDesc.tmp.injEq] at hc; rw [hc.1]
       | cell p t' =>
        simp only [z1r] at hc
        split at hc
        ·split at hc
         ·cases hc
         ·cases hc
        ·cases hc
      subst hr1
      have hres:=z4y (P:=P) (w:=w) (us:=[a.tmps.getD t undef]) (tmps:=a.tmps) hrv (by simp) rfl (fun j r u' hj hu=>by
       cases j with
       | zero=>cases hj; cases hu; rfl
       | succ j=>simp at hj)
      have ht:=h.tmp t
      rw [e] at ht
      obtain ⟨o1,o2,o3,o4⟩:=h.obj x arr ha
      refine ⟨a.tmps.getD t undef,by simpa [z3d] using hres,h.below,o1,o3,?_⟩
      rcases ht arr ha with ⟨m1,m2,m3,m4⟩ | ⟨g,cap,cs,m1,m2,m3,m4,m5,m6,m7⟩
      ·exact .inl ⟨List.length_eq_zero_iff.1 m4,m2⟩
      ·rw [m1] at o4
       rcases o4 with ⟨_,ms,c,q⟩ | ⟨cs',f1,f2,f3⟩
       ·rw [m3] at q; cases q
       rw [m3] at f1; cases f1
       refine .inr ⟨g,cap,cs,m2.exact0 (Nat.zero_mul _),(h.range x g m1).1,m3,by rw [Nat.zero_add] at m4; exact m4,m6,m7,fun i d j c hi hj=>?_⟩
       obtain ⟨u,q1,q2⟩:=f3 i d j c hi hj
       refine ⟨u,q1,q2.kept ⟨Nat.le_refl _,fun b o hlt hp=>⟨?_,fun eb=>?_⟩,fun _ _ _ _=>rfl,fun _ _ _ _ _ h=>h⟩⟩
       ·exact (z9q h).pr b o hlt hp
       ·subst eb
        obtain ⟨ar,p1,p2⟩:=hp.2 x m1
        rw [ha] at p1; cases p1
        rw [e1,Nat.zero_mul] at p2; omega
     | [],hc=>cases hc
     | r1 :: r2 :: l,hc =>
      obtain ⟨d1,ds',e,_,h2⟩:=z1i hc
      obtain ⟨d2,ds2,e2,_,_⟩:=z1i h2
      subst e2; cases e
    ·exact hE.elim
   ·exact hE.elim
  ·rename_i es
   match rv,hc with
   | [r1],hc =>
    have hr1:r1 = .tmp t:=by
     cases r1 with
     | tmp t'=>simp only [z1r,Option.map_some,Option.some.injEq,List.cons.injEq,RDesc.tmp.injEq] at hc; rw [hc.1]
     | cell p t' =>
      simp only [z1r] at hc
      split at hc
      ·split at hc
       ·cases hc
       ·cases hc
      ·cases hc
    subst hr1
    have hres:=z4y (P:=P) (w:=w) (us:=[a.tmps.getD t undef]) (tmps:=a.tmps) hrv (by simp) rfl (fun j r u' hj hu=>by
     cases j with
     | zero=>cases hj; cases hu; rfl
     | succ j=>simp at hj)
    have ht:=h.tmp t
    refine ⟨a.tmps.getD t undef,by simpa [z3d] using hres,h.below,?_⟩
    show VR _ w (.mv es) (a.tmps.getD t undef)
    split at hE
    ·rename_i x es' e
     obtain ⟨hs,rfl⟩:=hE
     rw [e] at ht
     obtain ⟨arr,ha⟩:=Option.isSome_iff_exists.1 hs
     obtain ⟨g,ms,c,q1,q2,q3,q4⟩:=ht arr ha
     rw [q2]
     exact .mv es' g ms c (h.range x g q1).2 (.inr (h.range x g q1).1) q3 q4.len q4.st q4.key (fun i e m h1 h2=>(q4.val i e m h1 h2).kept (z9q h))
    ·rename_i es' e
     subst hE
     rw [e] at ht
     have ht':VR (PrOf w0 Pr0 μ σ.H) w (.mv es') (a.tmps.getD t undef):=ht
     exact ht'.kept (z9q h)
    ·exact hE.elim
   | [],hc=>cases hc
   | r1 :: r2 :: l,hc =>
    obtain ⟨d1,ds',e,_,h2⟩:=z1i hc
    obtain ⟨d2,ds2,e2,_,_⟩:=z1i h2
    subst e2; cases e
  ·rename_i hno2 hno3
   exact one rfl (fun z ty l q=>hno2 z ty l q) hE
 ·rename_i d hnt
  split at hE
  ·exact hE.elim
  ·rename_i hno
   exact one rfl (fun z ty l q=>hno z ty l q) hE
 ·rename_i hn1 hn2
  obtain ⟨vs,fs,us,hK,hl1,hl2,hrun,hv⟩:=zie h hc hE
  subst hK
  have hS':SR w0 Pr0 n μ (σ.fzs fs) a w:=SR.fzs h
  have hres:=z4y (P:=P) (w:=w) (us:=us) (tmps:=a.tmps) hrv hlen' hl2 hrun
  have hnot1:us.length ≠ 1:=by
   intro e
   rw [← hl2] at e
   match rv,hc,e with
   | [r1],hc,_ =>
    obtain ⟨d1,ds',e1,_,h2⟩:=z1i hc
    cases h2
    exact hn2 d1 e1
  have htup:z3d us = .tuple us.toArray:=by
   match us,hnot1 with
   | [],_=>rfl
   | _ :: _ :: _,_=>rfl
  rw [htup] at hres
  exact ⟨_,hres,h.below,.tup vs us hl1 fun j c v hc' hv'=>(hv _ hS' z27 j c v hc' hv').kept (z9q hS')⟩
theorem AFn.of_code (hm:P.follows .mixedOrders = true) {f:FuncId} {fn:Func} {c:Code} {ir:IR} {ds:List RDesc} {hint:Nat->List Nat} (hok:z9t P f = true) (hf:P.funcs[f]? = some fn) (hb:fn.body = some c) (hc:comp pv P fn.ntmps hint c = some ir)
  (hr:z1r P fn.results.toList = some ds) (hlen:fn.results.size≤3) {args:List AV} (hargs:args.length≤fn.ntmps) (hsm:fn.ntmps≤1000) {r:AV} (h:awp (AFn P) ir (endQ ds r) (z0a args)):AFn P f args r:=by
 refine ⟨hok,fun w Pr vs hG hPr hl hvs=>calls_of_wp hf hb ?_⟩
 have hS:SR ⟨w,fun _ _=>False⟩ Pr fn.ntmps (fun _=>none) (z0a args) { tmps:=vs.toArray ++ Array.replicate (fn.ntmps - vs.toArray.size) undef,defers:=[] } w:=by
  refine ⟨Below.refl _ _,(fun r r' g e=>by cases e),(fun r g e=>by cases e),(fun r g e=>by cases e),by simp; omega,fun t=>?_,(fun r arr e=>by cases e),rfl,hG,hsm,(fun d v hf=>hf.elim)⟩
  show TR _ _ _ _ (args.getD t .und) _
  cases ha:args[t]? with
  | none =>
   have:args.getD t .und = .und:=by rw [List.getD_eq_getElem?_getD,ha]; rfl
   rw [this]; trivial
  | some d =>
   have htl:=(List.getElem?_eq_some_iff.1 ha).1
   have hv:vs[t]? = some (vs[t]'(by omega)):=List.getElem?_eq_getElem _
   have e1:args.getD t .und = d:=by rw [List.getD_eq_getElem?_getD,ha]; rfl
   have e2:(vs.toArray ++ Array.replicate (fn.ntmps - vs.toArray.size) undef).getD t undef = vs[t]'(by omega):=by
    rw [Array.getD_eq_getD_getElem?,Array.getElem?_append_left (by simp; omega)]
    simp [hv]
   rw [e1,e2]
   exact TR.of_VR ((hvs t d _ ha hv).kept ⟨Nat.le_refl _,fun b o hlt hp=>⟨fun _=>hp,fun r e=>by cases e⟩,fun _ _ _ _=>rfl,fun _ _ _ _ _ h=>h⟩)
 refine wp_mono (z2w hm c hc hS h) ?_
 rintro e a' w' ⟨x,μ',σ',hs,hq,hS'⟩
 cases hs with
 | normal =>
  obtain ⟨v,h1,h2,h3⟩:=zw9 hr hlen hS' hq
  exact ⟨hS'.defers,v,h1,v,rfl,h2,h3⟩
 | ret =>
  obtain ⟨v,h1,h2,h3⟩:=zw9 hr hlen hS' hq
  exact ⟨hS'.defers,v,h1,v,rfl,h2,h3⟩
 | exit id=>exact hq.elim
def sh:AV->AV
 | .ptr r i f=>.ptr (r + 1000) i f
 | .rs r o l=>.rs (r + 1000) o l
 | .clom f r=>.clom f (r + 1000)
 | .mp r es=>.mp (r + 1000) es
 | .vrs r o l u=>.vrs (r + 1000) o l u
 | d=>d
def shH (H:Nat->Option Arr) (r:Nat):Option Arr:=if r < 1000 then none else H (r - 1000)
def initM (args:List AV) (H:Nat->Option Arr):St:=⟨fun t=>sh (args.getD t .und),shH H⟩
def retM (ds:List RDesc) (r:AV) (H':Nat->Option Arr) (σ:St):Prop :=
 match ds with
 | [d]=>resV σ d fun v fz=>r = v∧∀ q,(σ.fzs fz).H (q + 1000) = H' q
 | ds=>zwr σ ds fun vs fz=>r = .tup vs∧∀ q,(σ.fzs fz).H (q + 1000) = H' q
def endM (ds:List RDesc) (r:AV) (H':Nat->Option Arr):XK->St->Prop
 | .ret,σ=>retM ds r H' σ
 | .normal,σ=>retM ds r H' σ
 | .exit _,_=>False
end
end Go.Proofs.YtkfciapeikkmfaaDoor
end
section
namespace Go.Proofs.YtkfciapeikkmfaaDoor
open Go.RowKit
theorem loop_inv {C:FuncId->List AV->AV->Prop} {b:IR} {Q:XK->St->Prop} (I:Nat->St->Prop) {σ:St} {k:Nat} (h0:I k σ)
  (hstep:∀ k σ,I k σ->awp C b (z30 (fun σ'=>∃ m,m < k∧I m σ') Q) σ):awp C (.loop b) Q σ:=by
 have mono:∀ (n m:Nat) (σ:St),n≤m->iter (awp C b) Q n σ->iter (awp C b) Q m σ:=by
  intro n
  induction n with
  | zero=>intro m σ _ h; exact h.elim
  | succ n ih =>
   intro m σ hm h
   cases m with
   | zero=>omega
   | succ m =>
    refine z3i b (fun e σ' hq=>?_) σ h
    cases e with
    | normal=>exact ih m σ' (by omega) hq
    | exit id=>exact hq
    | ret=>exact hq
 have key:∀ (k:Nat) (σ:St),I k σ->iter (awp C b) Q (k + 1) σ:=by
  intro k
  induction k using Nat.strongRecOn with
  | ind k ih =>
   intro σ hI
   refine z3i b (fun e σ' hq=>?_) σ (hstep k σ hI)
   cases e with
   | normal =>
    obtain ⟨m,hm,hI'⟩:=hq
    exact mono (m + 1) k σ' (by omega) (ih m hm σ' hI')
   | exit id=>exact hq
   | ret=>exact hq
 exact ⟨k + 1,key k σ h0⟩
def AV.isI:AV->Bool | .int ..=>true | _=>false
def AV.ik:AV->IntKind | .int k _=>k | _=>.i64
def AV.iv:AV->Int | .int _ n=>n | _=>0
def AV.isB:AV->Bool | .bool _=>true | _=>false
def AV.bv:AV->Bool | .bool b=>b | _=>false
def AV.isS:AV->Bool | .str _=>true | _=>false
def AV.sv:AV->ByteArray | .str s=>s | _=>⟨#[]⟩
def AV.isA:AV->Bool | .agg _=>true | _=>false
def AV.av:AV->List AV | .agg l=>l | _=>[]
def AV.isTu:AV->Bool | .tup _=>true | _=>false
def AV.tv:AV->List AV | .tup l=>l | _=>[]
def AV.isC:AV->Bool | .clo ..=>true | _=>false
def AV.cf:AV->FuncId | .clo f _ _=>f | _=>0
def AV.c1:AV->List AV | .clo _ l _=>l | _=>[]
def AV.c2:AV->List AV | .clo _ _ l=>l | _=>[]
def zu1 (op:BinOp) (b:Int):Prop:=match op with
 | .quo | .rem=>b ≠ 0
 | .shl | .shr=>False
 | _=>True
def andI (k:IntKind) (a b:Int):Int:=(BitVec.ofInt k.bits a &&& BitVec.ofInt k.bits b).toNat
def orI (k:IntKind) (a b:Int):Int:=(BitVec.ofInt k.bits a ||| BitVec.ofInt k.bits b).toNat
def xorI (k:IntKind) (a b:Int):Int:=(BitVec.ofInt k.bits a ^^^ BitVec.ofInt k.bits b).toNat
def andNotI (k:IntKind) (a b:Int):Int:=(BitVec.ofInt k.bits a &&& ~~~ BitVec.ofInt k.bits b).toNat
def binIV (op:BinOp) (k:IntKind) (a b:Int):AV:=match op with
 | .add=>.int k (k.wrap (a + b))
 | .sub=>.int k (k.wrap (a - b))
 | .mul=>.int k (k.wrap (a * b))
 | .quo=>.int k (k.wrap (a.tdiv b))
 | .rem=>.int k (a.tmod b)
 | .and=>.int k (k.wrap (andI k a b))
 | .or=>.int k (k.wrap (orI k a b))
 | .xor=>.int k (k.wrap (xorI k a b))
 | .andNot=>.int k (k.wrap (andNotI k a b))
 | .eql=>.bool (a == b)
 | .neq=>.bool (a != b)
 | .lss=>.bool (decide (a < b))
 | .leq=>.bool (decide (a≤b))
 | .gtr=>.bool (decide (a > b))
 | .geq=>.bool (decide (a ≥ b))
 | _=>.und
theorem binI_ok {op:BinOp} {k:IntKind} {a b:Int} {K:AV->Prop}:binI op k a b K = (zu1 op b∧K (binIV op k a b)):=by
 cases op <;> simp [binI,zu1,binIV,andI,orI,xorI,andNotI]
def zu0 (op:BinOp) (x y:ByteArray):Prop:=match op with
 | .add=>x.size + y.size≤9223372036854775807
 | .eql | .neq | .lss | .leq | .gtr | .geq=>True
 | _=>False
def binSV (op:BinOp) (x y:ByteArray):AV:=match op with
 | .add=>.str (x ++ y)
 | .eql=>.bool (x.toList == y.toList)
 | .neq=>.bool (!(x.toList == y.toList))
 | .lss=>.bool (Op.bytesLess x.toList y.toList)
 | .leq=>.bool (Op.bytesLess x.toList y.toList || x.toList == y.toList)
 | .gtr=>.bool (!(Op.bytesLess x.toList y.toList || x.toList == y.toList))
 | .geq=>.bool (!(Op.bytesLess x.toList y.toList))
 | _=>.und
theorem binS_ok {op:BinOp} {a b:ByteArray} {K:AV->Prop}:binS op a b K = (zu0 op a b∧K (binSV op a b)):=by
 cases op <;> simp [binS,zu0,binSV]
def z2d (agg:Bool) (z:Nat) (cs:List AV):Prop:=match agg with
 | true=>z≤cs.length
 | false=>0 < cs.length
def z26 (agg:Bool) (z:Nat) (cs:List AV):AV:=match agg with
 | true=>.agg (cs.take z)
 | false=>cs.headD .und
theorem z6k {agg:Bool} {z:Nat} {cs:List AV} {K:AV->Prop}:z2q agg z cs K = (z2d agg z cs∧K (z26 agg z cs)):=by
 cases agg
 ·cases cs <;> simp [z2q,z2d,z26]
 ·simp [z2q,z2d,z26]
def z09:Option Arr->List AV | some a=>a.cells | none=>[]
def objZ:Option Arr->Nat | some a=>a.z | none=>0
def z1b:Option Arr->Nat | some a=>a.prot | none=>0
def zd4 (hid:List Nat) (σ:St):AV->Prop
 | .rp _=>True
 | .ptr r i _=>hid.contains r = false∧i < (z09 (σ.H r)).length
 | _=>False
def z0w (σ:St):AV->List AV
 | .rp cs=>cs
 | .ptr r i f=>((z09 (σ.H r)).getD i .und).cells.drop f
 | _=>[]
def z8t (hid:List Nat) (σ:St):Bool->AV->Prop
 | false,.sl _=>True
 | false,.rs r _ _=>hid.contains r = false∧(σ.H r).isSome = true
 | true,.str _=>True
 | _,_=>False
def z3t:AV->AV
 | .sl l=>.int .i64 l.length
 | .rs _ _ len=>.int .i64 len
 | .str s=>.int .i64 s.size
 | _=>.und
def faOk (hid:List Nat) (σ:St):AV->Prop
 | .rp _=>True
 | .ptr r _ _=>hid.contains r = false∧(σ.H r).isSome = true
 | _=>False
def zmd (off:Nat):AV->AV
 | .rp cs=>.rp (cs.drop off)
 | .ptr r i f=>.ptr r i (f + off)
 | _=>.und
def iaOk (hid:List Nat) (σ:St) (z:Nat) (n:Int):AV->Prop
 | .sl l=>(0≤n∧n < l.length)∧(l.getD n.toNat .und).cells.length = z
 | .rs r _ len=>hid.contains r = false∧(0≤n∧n < len)∧(σ.H r).isSome = true∧objZ (σ.H r) = z
 | _=>False
def zm1 (n:Int):AV->AV
 | .sl l=>.rp (l.getD n.toNat .und).cells
 | .rs r off _=>.ptr r (off + n.toNat) 0
 | _=>.und
def z2j:AV->Nat
 | .str s=>s.size
 | .sl l=>l.length
 | .rs _ _ len=>len
 | _=>0
def bdOk (σ:St):Option IOpd->Prop
 | none=>True
 | some x=>(σ.get x).isI = true∧0≤(σ.get x).iv
def z6m (σ:St) (d:Nat):Option IOpd->Nat
 | none=>d
 | some x=>(σ.get x).iv.toNat
def z5g (hid:List Nat) (σ:St) (z:Nat):Bool->AV->Prop
 | true,.str _=>z = 0
 | false,.sl l=>∀ d,d ∈ l->d.cells.length = z
 | false,.rs r _ _=>hid.contains r = false∧(σ.H r).isSome = true∧objZ (σ.H r) = z
 | true,.sl l=>0 < z∧∀ d,d ∈ l->d.cells.length = z
 | true,.rs r _ _=>0 < z∧hid.contains r = false∧(σ.H r).isSome = true∧objZ (σ.H r) = z
 | _,_=>False
def zcw (σ:St) (r off m h:Nat):Nat->AV
 | 0=>.rs r off h
 | 1=>.rs r (off + 1) (h - 1)
 | _ + 2=>.sl (((z09 (σ.H r)).drop (off + m)).take (h - m))
def z41 (σ:St) (lo:Nat) (m h:Nat):AV->AV
 | .str s=>.str (s.extract m h)
 | .sl l=>.sl ((l.take h).drop m)
 | .rs r off _=>zcw σ r off m h lo
 | _=>.und
def zhz (m h:Nat):AV->AV
 | .str s=>.str (s.extract m h)
 | .sl l=>.sl ((l.take h).drop m)
 | .rs r off _=>.rs r (off + m) (h - m)
 | _=>.und
def zvy (lo:Nat):AV->List Nat
 | .rs r _ _=>if 2≤lo then [r] else []
 | _=>[]
def byOk (hid:List Nat) (σ:St):AV->Prop
 | .rs r _ _=>hid.contains r = false∧(σ.H r).isSome = true
 | .ptr r i _=>hid.contains r = false∧i < (z09 (σ.H r)).length
 | .und=>False
 | .own ..=>False
 | .clom ..=>False
 | .mp ..=>False
 | .vrs ..=>False
 | _=>True
def z1c (σ:St):AV->AV
 | .rs r off len=>.sl (((z09 (σ.H r)).drop off).take len)
 | .ptr r i f=>.rp (((z09 (σ.H r)).getD i .und).cells.drop f)
 | v=>v
def byFz:AV->List Nat
 | .rs r _ _=>[r]
 | .ptr r _ _=>[r]
 | _=>[]
theorem z49 {hid:List Nat} {σ:St} {v:AV}:(byOk hid σ v->σ.byval hid v = some (z1c σ v,byFz v))∧(¬ byOk hid σ v->σ.byval hid v = none):=by
 cases v with
 | rs r off len =>
  simp only [byOk,St.byval,z1c,byFz]
  cases hc:hid.contains r with
  | true=>simp
  | false =>
   cases ha:σ.H r with
   | none=>simp
   | some arr=>simp [z09]
 | ptr r i f =>
  simp only [byOk,St.byval,z1c,byFz]
  cases hc:hid.contains r with
  | true=>simp
  | false =>
   cases ha:σ.H r with
   | none=>simp [z09]
   | some arr =>
    simp only [z09,true_and,Bool.false_eq_true,if_false]
    rcases Nat.lt_or_ge i arr.cells.length with h | h
    ·simp [h,List.getElem?_eq_getElem h]
    ·simp [show ¬ i < arr.cells.length by omega,List.getElem?_eq_none h]
 | _=>simp [byOk,St.byval,z1c,byFz]
def z5b (hid:List Nat) (σ:St):List AV->Prop
 | []=>True
 | v :: l=>byOk hid σ v∧z5b hid σ l
def z19 (σ:St):List AV->List AV
 | []=>[]
 | v :: l=>z1c σ v :: z19 σ l
def z6l:List AV->List Nat
 | []=>[]
 | v :: l=>byFz v ++ z6l l
theorem z22 {hid:List Nat} {σ:St}:∀ {l:List AV},(z5b hid σ l->σ.byvals hid l = some (z19 σ l,z6l l))∧(¬ z5b hid σ l->σ.byvals hid l = none)
 | []=>by simp [z5b,St.byvals,z19,z6l]
 | v :: l=>by
  obtain ⟨h1,h2⟩:=z49 (hid:=hid) (σ:=σ) (v:=v)
  obtain ⟨h3,h4⟩:=z22 (hid:=hid) (σ:=σ) (l:=l)
  simp only [z5b,St.byvals,z19,z6l]
  by_cases a:byOk hid σ v
  ·rw [h1 a]
   by_cases b:z5b hid σ l
   ·rw [h3 b]; simp [a,b]
   ·rw [h4 b]; simp [a,b]
  ·rw [h2 a]; simp [a]
def mxOk (y:AV):AV->Prop
 | .int _ _=>y.isI = true
 | .str _=>y.isS = true
 | _=>False
def y3k (isMax:Bool) (y:AV):AV->AV
 | .int k a=>.int k (if isMax then (if y.iv > a then y.iv else a) else (if y.iv < a then y.iv else a))
 | .str a=>.str (if isMax then mxS a y.sv else mnS a y.sv)
 | _=>.und
def okBld (n:Nat):List Part->List AV->Prop
 | p :: ps,v :: vs=>v.cells.length = p.z∧p.off + p.z≤n∧okBld n ps vs
 | [],[]=>True
 | _,_=>False
def zfq:List AV->List Part->List AV->List AV
 | cs,p :: ps,v :: vs=>zfq (cs.take p.off ++ v.cells ++ cs.drop (p.off + p.z)) ps vs
 | cs,_,_=>cs
theorem y95:∀ {ps:List Part} {vs:List AV} {cs:List AV},okBld cs.length ps vs->zvg cs ((ps.zip vs).map fun q=>(q.1.off,q.1.z,q.2)) = some (zfq cs ps vs)
 | [],[],cs,_=>rfl
 | p :: ps,v :: vs,cs,h=>by
  obtain ⟨h1,h2,h3⟩:=h
  simp only [List.zip_cons_cons,List.map_cons,zvg,zfq]
  rw [if_pos ⟨h1,h2⟩]
  refine y95 ?_
  have e:(cs.take p.off ++ v.cells ++ cs.drop (p.off + p.z)).length = cs.length:=by
   rw [List.length_append,List.length_append,List.length_take,List.length_drop,h1]; omega
  rw [e]; exact h3
 | [],_ :: _,cs,h=>h.elim
 | _ :: _,[],cs,h=>h.elim
def pvOk (σ:St) (t:Nat):AV->Prop
 | .cst u=>(match σ.T t with
  | .vrs _ _ _ u'=>u' = u
  | _=>True)
 | _=>True
def zv2 (σ:St) (t:Nat):AV->AV
 | .cst u=>(match σ.T t with
  | .vrs q off len _=>.rs q off len
  | _=>.cst u)
 | c=>c
theorem privV_ok {σ:St} {t:Nat} {c:AV} {K:AV->Prop} (h1:pvOk σ t c) (h2:K (zv2 σ t c)):zn4 σ t c K:=by
 unfold zn4
 split
 ·rename_i u
  simp only [pvOk,zv2] at h1 h2
  split
  ·rename_i e
   rw [e] at h1 h2
   exact ⟨h1,h2⟩
  ·rename_i hne
   split at h2
   ·rename_i e; exact absurd e (hne _ _ _ _)
   ·exact h2
 ·rename_i hne
  cases c <;> first | exact h2 | exact absurd rfl (hne _)
def plOk (σ:St) (hid:List Nat):Nat->List AV->Prop
 | _,[]=>True
 | t,c :: l=>(match c with
  | .cst u=>(match σ.T t with
   | .vrs q _ _ u'=>u' = u∧hid.contains q = false∧(σ.H q).isSome = true
   | _=>True)
  | _=>True)∧plOk σ hid (t + 1) l
def plV (σ:St) (t:Nat):AV->AV
 | .cst u=>(match σ.T t with
  | .vrs q off len _=>.sl (((z09 (σ.H q)).drop off).take len)
  | _=>nilV u)
 | c=>c
def plF (σ:St) (t:Nat):AV->List Nat
 | .cst _=>(match σ.T t with
  | .vrs q _ _ _=>[q]
  | _=>[])
 | _=>[]
def zn5 (σ:St):Nat->List AV->List AV
 | _,[]=>[]
 | t,c :: l=>plV σ t c :: zn5 σ (t + 1) l
def plFz (σ:St):Nat->List AV->List Nat
 | _,[]=>[]
 | t,c :: l=>plF σ t c ++ plFz σ (t + 1) l
theorem zfc {σ:St} {hid:List Nat}:∀ {l:List AV} {t:Nat} {K:List AV->List Nat->Prop},plOk σ hid t l->K (zn5 σ t l) (plFz σ t l)->z8o σ hid t l K
 | [],t,K,h1,h2=>h2
 | c :: l,t,K,h1,h2=>by
  obtain ⟨h1,h3⟩:=h1
  simp only [zn5,plFz] at h2
  unfold z8o
  split
  ·rename_i u
   simp only [plV,plF] at h1 h2
   split
   ·rename_i q off len u' e
    rw [e] at h1 h2
    obtain ⟨g1,g2,g3⟩:=h1
    refine ⟨g1,g2,?_⟩
    obtain ⟨arr,ha⟩:=Option.isSome_iff_exists.1 g3
    simp only [ha,z09] at h2
    simp only [ha]
    exact zfc h3 h2
   ·rename_i hne
    split at h2
    ·rename_i e; exact absurd e (hne _ _ _ _)
    ·exact zfc h3 (by simpa using h2)
  ·rename_i hne
   cases c <;> first | exact zfc h3 (by simpa [plV,plF] using h2) | exact absurd rfl (hne _)
def pRt:AV->Nat
 | .ptr r _ _=>r
 | _=>0
def pOf (σ:St):AV->Nat
 | .ptr r i f=>i * objZ (σ.H r) + f
 | _=>0
def isPtr:AV->Bool
 | .ptr ..=>true
 | _=>false
def lpOk (hid:List Nat) (σ:St) (z:Nat) (v:AV):Bool->Prop
 | true=>plOk σ hid (vt (pRt v) (pOf σ v)) ((z0w σ v).take z)
 | false=>pvOk σ (vt (pRt v) (pOf σ v)) ((z0w σ v).headD .und)
def y0t (σ:St) (z:Nat) (v:AV):Bool->AV
 | true=>.agg (zn5 σ (vt (pRt v) (pOf σ v)) ((z0w σ v).take z))
 | false=>zv2 σ (vt (pRt v) (pOf σ v)) ((z0w σ v).headD .und)
def lpFz (σ:St) (z:Nat) (v:AV):Bool->List Nat
 | true=>plFz σ (vt (pRt v) (pOf σ v)) ((z0w σ v).take z)
 | false=>[]
def okV (hid:List Nat) (σ:St):IOp->Prop
 | .mv x=>True
 | .mvs x=>(σ.get x).isS = true
 | .pick c x y=>(σ.get c).isB = true
 | .bin op x y=>if (σ.get x).isI then (σ.get y).isI = true∧(σ.get x).ik = (σ.get y).ik∧zu1 op (σ.get y).iv else (σ.get x).isS = true∧(σ.get y).isS = true∧zu0 op (σ.get x).sv (σ.get y).sv
 | .beq _ x y=>(σ.get x).isB = true∧(σ.get y).isB = true
 | .feq _ sh x y=>(σ.get x).isA = true∧(σ.get y).isA = true∧okF (σ.get x).av (σ.get y).av sh
 | .bld zero ps=>z5b hid σ (ps.map fun p=>σ.get p.x)∧okBld zero.length ps (z19 σ (ps.map fun p=>σ.get p.x))
 | .un .not x=>(σ.get x).isB = true
 | .un .neg x=>(σ.get x).isI = true
 | .ext i x=>(σ.get x).isTu = true∧i < (σ.get x).tv.length
 | .load z agg p=>zd4 hid σ (σ.get p)∧z2d agg z (z0w σ (σ.get p))
 | .faddr _ p=>faOk hid σ (σ.get p)
 | .fld off z agg x=>(σ.get x).isA = true∧z2d agg z ((σ.get x).av.drop off)
 | .iaddr z x i=>(σ.get i).isI = true∧iaOk hid σ z (σ.get i).iv (σ.get x)
 | .idx x i=>(σ.get i).isI = true∧(σ.get x).isS = true∧0≤(σ.get i).iv∧(σ.get i).iv < (σ.get x).sv.size
 | .idxA len z agg x i=>(σ.get i).isI = true∧(σ.get x).isA = true∧(0≤(σ.get i).iv∧(σ.get i).iv < len)∧z2d agg z ((σ.get x).av.drop ((σ.get i).iv.toNat * z))
 | .slc str z x lo hi=>z5g hid σ z str (σ.get x)∧bdOk σ hi∧bdOk σ lo∧z6m σ (z2j (σ.get x)) hi≤z2j (σ.get x)∧z6m σ 0 lo≤z6m σ (z2j (σ.get x)) hi
 | .len str x=>z8t hid σ str (σ.get x)
 | .mx _ x y=>mxOk (σ.get y) (σ.get x)
 | .conv _ x=>(σ.get x).isI = true
 | .mkfn _ first caps=>z5b hid σ (first.map σ.get)∧z5b hid σ (caps.map σ.get)
 | .loadp z agg p=>match σ.get p with
  | .rp cs=>z2d agg z cs
  | v=>isPtr v = true∧zd4 hid σ v∧z2d agg z (z0w σ v)∧lpOk hid σ z v agg
 | _=>False
def valV (σ:St):IOp->AV
 | .mv x=>σ.get x
 | .mvs x=>σ.get x
 | .pick c x y=>if (σ.get c).bv then σ.get x else σ.get y
 | .bin op x y=>if (σ.get x).isI then binIV op (σ.get x).ik (σ.get x).iv (σ.get y).iv else binSV op (σ.get x).sv (σ.get y).sv
 | .beq neq x y=>.bool (if neq then !((σ.get x).bv == (σ.get y).bv) else (σ.get x).bv == (σ.get y).bv)
 | .feq neq sh x y=>.bool (if neq then !(valF (σ.get x).av (σ.get y).av sh) else valF (σ.get x).av (σ.get y).av sh)
 | .bld zero ps=>.agg (zfq zero ps (z19 σ (ps.map fun p=>σ.get p.x)))
 | .un .not x=>.bool (!(σ.get x).bv)
 | .un .neg x=>.int (σ.get x).ik ((σ.get x).ik.wrap (0 - (σ.get x).iv))
 | .ext i x=>(σ.get x).tv.getD i .und
 | .load z agg p=>z26 agg z (z0w σ (σ.get p))
 | .faddr off p=>zmd off (σ.get p)
 | .fld off z agg x=>z26 agg z ((σ.get x).av.drop off)
 | .iaddr z x i=>zm1 (σ.get i).iv (σ.get x)
 | .idx x i=>.int .u8 ((σ.get x).sv.data.toList.getD (σ.get i).iv.toNat 0).toNat
 | .idxA len z agg x i=>z26 agg z ((σ.get x).av.drop ((σ.get i).iv.toNat * z))
 | .slc str z x lo hi=>if str then zhz (z6m σ 0 lo) (z6m σ (z2j (σ.get x)) hi) (σ.get x) else z41 σ (loK lo) (z6m σ 0 lo) (z6m σ (z2j (σ.get x)) hi) (σ.get x)
 | .len _ x=>z3t (σ.get x)
 | .mx isMax x y=>y3k isMax (σ.get y) (σ.get x)
 | .conv k x=>.int k (k.wrap (σ.get x).iv)
 | .mkfn f first caps=>.clo f (z19 σ (first.map σ.get)) (z19 σ (caps.map σ.get))
 | .loadp z agg p=>match σ.get p with
  | .rp cs=>z26 agg z cs
  | v=>y0t σ z v agg
 | _=>.und
def fzV (σ:St):IOp->List Nat
 | .slc str _ x lo _=>if str then [] else zvy (loK lo) (σ.get x)
 | .mkfn _ first caps=>z6l (first.map σ.get) ++ z6l (caps.map σ.get)
 | .loadp z agg p=>match σ.get p with
  | .rp _=>[]
  | v=>lpFz σ z v agg
 | .bld _ ps=>z6l (ps.map fun p=>σ.get p.x)
 | _=>[]
theorem z5c {σ:St} {x:Option IOpd} {d:Nat} {K:Nat->Prop}:z3h σ x d K = (bdOk σ x∧K (z6m σ d x)):=by
 cases x with
 | none=>simp [z3h,bdOk,z6m]
 | some x =>
  simp only [z3h,bdOk,z6m]
  cases hx:σ.get x <;> simp [AV.isI,AV.iv]
theorem y97 {hid:List Nat} {σ:St} {K:AV->List Nat->Prop} {io:IOp} (h:okV hid σ io∧K (valV σ io) (fzV σ io)):z06 hid σ K io:=by
 obtain ⟨h1,h2⟩:=h
 cases io with
 | mv x=>exact h2
 | mvs x =>
  simp only [okV,valV,fzV,z06] at *
  cases hx:σ.get x <;> simp_all [AV.isS]
 | pick c x y =>
  simp only [okV,valV,fzV,z06] at *
  cases hc:σ.get c <;> rw [hc] at h1 h2 <;> simp [AV.isB] at h1
  rename_i b
  cases b <;> simpa [AV.bv] using h2
 | bin op x y =>
  simp only [okV,valV,fzV,z06] at *
  cases hx:σ.get x <;> rw [hx] at h1 h2 <;> simp [AV.isI,AV.isS] at h1
  ·cases hy:σ.get y <;> rw [hy] at h1 h2 <;> simp [AV.isI] at h1
   simp only [binI_ok]
   exact ⟨by simpa [AV.ik] using h1.1,by simpa [AV.iv] using h1.2,by simpa [AV.isI,AV.ik,AV.iv] using h2⟩
  ·cases hy:σ.get y <;> rw [hy] at h1 h2 <;> simp [AV.isS] at h1
   simp only [binS_ok]
   exact ⟨by simpa [AV.sv] using h1,by simpa [AV.isI,AV.sv] using h2⟩
 | beq neq x y =>
  simp only [okV,valV,fzV,z06] at *
  cases hx:σ.get x <;> rw [hx] at h1 h2 <;> simp [AV.isB] at h1
  cases hy:σ.get y <;> rw [hy] at h1 h2 <;> simp [AV.isB] at h1
  exact h2
 | feq neq sh x y =>
  simp only [okV,valV,fzV,z06] at *
  cases hx:σ.get x <;> rw [hx] at h1 h2 <;> simp only [AV.isA,Bool.false_eq_true,false_and] at h1
  cases hy:σ.get y <;> rw [hy] at h1 h2 <;> simp only [AV.isA,Bool.false_eq_true,false_and,and_false] at h1
  exact ⟨h1.2.2,h2⟩
 | bld zero ps =>
  simp only [okV,valV,fzV,z06] at *
  rw [z22.1 h1.1]
  simp only [y95 h1.2]
  exact h2
 | un op x =>
  cases op <;> simp only [okV,valV,fzV,z06] at *
  ·cases hx:σ.get x <;> rw [hx] at h1 h2 <;> simp [AV.isI] at h1
   exact h2
  ·cases hx:σ.get x <;> rw [hx] at h1 h2 <;> simp [AV.isB] at h1
   exact h2
 | ext i x =>
  simp only [okV,valV,fzV,z06] at *
  cases hx:σ.get x <;> rw [hx] at h1 h2 <;> simp [AV.isTu,AV.tv] at h1
  rename_i vs
  simp only [AV.tv] at h2
  rw [List.getD_eq_getElem?_getD,List.getElem?_eq_getElem h1] at h2
  simp only [List.getElem?_eq_getElem h1]
  exact h2
 | load z agg p =>
  simp only [okV,valV,fzV,z06] at *
  cases hp:σ.get p <;> rw [hp] at h1 h2 <;> simp only [zd4,z0w,false_and] at h1 h2 <;> try exact h1.elim
  ·simp only [z6k]; exact ⟨h1.2,h2⟩
  ·rename_i r i f
   obtain ⟨⟨g1,g2⟩,g3⟩:=h1
   refine ⟨g1,?_⟩
   cases ha:σ.H r with
   | none=>rw [ha] at g2; simp [z09] at g2
   | some arr =>
    rw [ha] at g2 g3 h2
    simp only [z09] at g2 g3 h2
    rw [List.getD_eq_getElem?_getD,List.getElem?_eq_getElem g2] at g3 h2
    simp only [List.getElem?_eq_getElem g2,z6k]
    exact ⟨g3,h2⟩
 | loadp z agg p =>
  simp only [okV,valV,fzV,z06] at *
  cases hp:σ.get p <;> rw [hp] at h1 h2 <;> simp only [isPtr,Bool.false_eq_true,false_and] at h1 h2
  case rp cs=>simp only [z6k]; exact ⟨h1,h2⟩
  rename_i r i f
  obtain ⟨-,h1,h3,h4⟩:=h1
  simp only [zd4] at h1
  obtain ⟨g1,g2⟩:=h1
  refine ⟨g1,?_⟩
  cases ha:σ.H r with
  | none=>rw [ha] at g2; simp [z09] at g2
  | some arr =>
   simp only [z0w,ha,z09,y0t,lpFz,lpOk,pRt,pOf,objZ] at g2 h2 h3 h4
   simp only [ha,z09,List.getD_eq_getElem?_getD,List.getElem?_eq_getElem g2,Option.getD_some] at h2 h3 h4
   simp only [List.getElem?_eq_getElem g2]
   cases agg with
   | true =>
    rw [if_pos rfl]
    simp only [ha,z09,objZ,List.getD_eq_getElem?_getD,List.getElem?_eq_getElem g2,Option.getD_some] at h2 h4
    exact ⟨h3,zfc h4 h2⟩
   | false =>
    rw [if_neg (by simp)]
    simp only [ha,z09,objZ,List.getD_eq_getElem?_getD,List.getElem?_eq_getElem g2,Option.getD_some] at h2 h4
    simp only [z2d] at h3
    match hc:List.drop f (arr.cells[i]).cells,h3 with
    | c :: cs,_ =>
     rw [hc] at h2 h4
     exact privV_ok h4 h2
 | faddr off p =>
  simp only [okV,valV,fzV,z06] at *
  cases hp:σ.get p <;> rw [hp] at h1 h2 <;> simp only [faOk,zmd] at h1 h2 <;> try exact h1.elim
  ·exact h2
  ·rename_i r i f
   refine ⟨h1.1,?_⟩
   cases ha:σ.H r with
   | none=>rw [ha] at h1; cases h1.2
   | some arr=>exact h2
 | fld off z agg x =>
  simp only [okV,valV,fzV,z06] at *
  cases hx:σ.get x <;> rw [hx] at h1 h2 <;> simp only [AV.isA,AV.av,Bool.false_eq_true,false_and] at h1 h2
  simp only [z6k]
  exact ⟨h1.2,h2⟩
 | iaddr z x i =>
  simp only [okV,valV,fzV,z06] at *
  cases hi:σ.get i <;> rw [hi] at h1 h2 <;> simp only [AV.isI,AV.iv,Bool.false_eq_true,false_and] at h1 h2
  cases hx:σ.get x <;> rw [hx] at h1 h2 <;> simp only [iaOk,zm1,and_false] at h1 h2
  ·exact ⟨h1.2.1,h1.2.2,h2⟩
  ·rename_i r off len
   obtain ⟨-,g1,g2,g3,g4⟩:=h1
   refine ⟨g1,g2,?_⟩
   cases ha:σ.H r with
   | none=>rw [ha] at g3; cases g3
   | some arr=>rw [ha] at g4; exact ⟨g4,h2⟩
 | idx x i =>
  simp only [okV,valV,fzV,z06] at *
  cases hi:σ.get i <;> rw [hi] at h1 h2 <;> simp only [AV.isI,AV.iv,Bool.false_eq_true,false_and] at h1 h2
  cases hx:σ.get x <;> rw [hx] at h1 h2 <;> simp only [AV.isS,AV.sv,Bool.false_eq_true,false_and,and_false] at h1 h2
  exact ⟨h1.2.2,h2⟩
 | idxA len z agg x i =>
  simp only [okV,valV,fzV,z06] at *
  cases hi:σ.get i <;> rw [hi] at h1 h2 <;> simp only [AV.isI,AV.iv,Bool.false_eq_true,false_and] at h1 h2
  cases hx:σ.get x <;> rw [hx] at h1 h2 <;> simp only [AV.isA,AV.av,Bool.false_eq_true,false_and,and_false] at h1 h2
  simp only [z6k]
  exact ⟨h1.2.2.1,h1.2.2.2,h2⟩
 | slc str z x lo hi =>
  cases str
  ·simp only [okV,valV,fzV,z06,Bool.false_eq_true,if_false] at *
   obtain ⟨g1,g2,g3,g4,g5⟩:=h1
   cases hx:σ.get x <;> rw [hx] at g1 g4 g5 h2 <;> simp only [z5g,z2j,z41,zvy] at g1 g4 g5 h2 <;> try exact g1.elim
   ·simp only [z5c]
    exact ⟨g2,g4,g3,g5,g1,h2⟩
   ·rename_i r off len
    refine ⟨g1.1,?_⟩
    cases ha:σ.H r with
    | none=>rw [ha] at g1; cases g1.2.1
    | some arr =>
     rw [ha] at g1
     refine ⟨g1.2.2,?_⟩
     rw [z5c]
     refine ⟨g2,g4,?_⟩
     unfold z6z
     have hk:loK lo = 0∨(loK lo = 1∧z6m σ 0 lo = 1)∨loK lo = 2:=by
      unfold loK
      split
      ·exact .inl rfl
      ·rename_i k1 n1
       split
       ·rename_i e1
        have:n1 = 1:=by simpa using e1
        subst this
        exact .inr (.inl ⟨rfl,rfl⟩)
       ·exact .inr (.inr rfl)
      ·exact .inr (.inr rfl)
     rcases hk with hk | ⟨hk,hb⟩ | hk
     ·rw [hk] at h2 ⊢
      simpa [zcw] using h2
     ·rw [hk] at h2 ⊢
      rw [hb] at g5
      exact ⟨g5,by simpa [zcw] using h2⟩
     ·rw [hk] at h2 ⊢
      simp only [z5c]
      exact ⟨g3,g5,by simpa [zcw,z09,ha] using h2⟩
  ·simp only [okV,valV,fzV,z06,if_true] at *
   obtain ⟨g1,g2,g3,g4,g5⟩:=h1
   cases hx:σ.get x <;> rw [hx] at g1 g4 g5 h2 <;> simp only [z5g,z2j,zhz] at g1 g4 g5 h2 <;> try exact g1.elim
   ·simp only [z5c]
    exact ⟨g1,g2,g4,g3,g5,h2⟩
   ·simp only [z5c]
    exact ⟨g1.1,g2,g4,g3,g5,g1.2,h2⟩
   ·rename_i r off len
    refine ⟨g1.1,g1.2.1,?_⟩
    cases ha:σ.H r with
    | none=>rw [ha] at g1; cases g1.2.2.1
    | some arr =>
     rw [ha] at g1
     refine ⟨g1.2.2.2,?_⟩
     rw [z5c]
     refine ⟨g2,g4,?_⟩
     simp only [z5c]
     exact ⟨g3,g5,h2⟩
 | len str x =>
  simp only [okV,valV,fzV,z06] at *
  cases str
  ·cases hx:σ.get x <;> rw [hx] at h1 h2 <;> simp only [z8t,z3t] at h1 h2 <;> try exact h1.elim
   ·exact h2
   ·rename_i r off len
    refine ⟨h1.1,?_⟩
    cases ha:σ.H r with
    | none=>rw [ha] at h1; cases h1.2
    | some arr=>exact h2
  ·cases hx:σ.get x <;> rw [hx] at h1 h2 <;> simp only [z8t,z3t] at h1 h2 <;> try exact h1.elim
   exact h2
 | mx b x y =>
  simp only [okV,valV,fzV,z06] at *
  cases hx:σ.get x <;> rw [hx] at h1 h2 <;> simp only [mxOk,Bool.false_eq_true] at h1
  ·cases hy:σ.get y <;> rw [hy] at h1 h2 <;> simp only [AV.isI,Bool.false_eq_true,and_false] at h1
   exact h2
  ·cases hy:σ.get y <;> rw [hy] at h1 h2 <;> simp only [AV.isS,Bool.false_eq_true,and_false] at h1
   exact h2
 | conv k x =>
  simp only [okV,valV,fzV,z06] at *
  cases hx:σ.get x <;> rw [hx] at h1 h2 <;> simp only [AV.isI,Bool.false_eq_true] at h1
  exact h2
 | mkfn f first caps =>
  simp only [okV,valV,fzV,z06] at *
  rw [z22.1 h1.1,z22.1 h1.2]
  exact h2
 | _=>exact h1.elim
end Go.Proofs.YtkfciapeikkmfaaDoor
end
section
namespace Go.Proofs.YtkfciapeikkmfaaDoor
open Go.RowKit
def zlc (z:Nat) (ty:TypeId) (d:AV):Option Arr:=some ⟨z,ty,[d],0⟩
def zmx (z:Nat):List AV->Prop
 | []=>True
 | d :: l=>(d.cells.length = z∧d.cells.all AV.one = true)∧zmx z l
theorem ze2 {z:Nat}:∀ {l:List AV},zmx z l->∀ d,d ∈ l->d.cells.length = z∧d.cells.all AV.one = true
 | d :: l,h,x,hx=>by
  rcases List.mem_cons.1 hx with e | e
  ·subst e; exact h.1
  ·exact ze2 h.2 x e
def z6x (σ:St) (d:Nat) (fz:List Nat):AV->St
 | .own z ty l=>(σ.fzs fz).made d (.rs d 0 l.length) (some ⟨z,ty,l,0⟩)
 | r=>if r.flatB then σ.made d r none else (σ.fzs fz).made d r none
def z1d (hid:List Nat) (d:Nat):AV->Bool
 | .own ..=>!hid.contains d
 | r=>z16 hid r
def stOk (σ:St) (z:Nat) (v:AV):AV->Prop
 | .ptr r i f=>byOk [] σ v∧i < (z09 (σ.H r)).length∧(z1c σ v).cells.length = z∧f + z≤((z09 (σ.H r)).getD i .und).cells.length∧z1b ((σ.fzs (byFz v)).H r)≤i∧(z1c σ v).cells.all AV.one = true
 | _=>False
def zn2 (σ:St) (z:Nat) (v:AV) (i f:Nat):Option Arr->Option Arr
 | some a=>some ⟨a.z,a.ty,a.cells.set i ((a.cells.getD i .und).patch f z (z1c σ v)),a.prot⟩
 | none=>none
def stSt (σ:St) (z:Nat) (v:AV):AV->St
 | .ptr r i f=>⟨σ.T,upd (σ.fzs (byFz v)).H r (zn2 σ z v i f ((σ.fzs (byFz v)).H r))⟩
 | _=>σ
def zn1 (σ:St) (z:Nat):AV->AV->Prop
 | .rs q _ _,.ptr r i f=>z = 1∧i < (z09 (σ.H r)).length∧f + 1≤((z09 (σ.H r)).getD i .und).cells.length∧z1b (σ.H r)≤i∧(σ.H q).isSome = true
 | .sl _,.ptr r i f=>z = 1∧i < (z09 (σ.H r)).length∧f + 1≤((z09 (σ.H r)).getD i .und).cells.length∧z1b (σ.H r)≤i
 | _,_=>False
def zhv (c:AV) (i f:Nat):Option Arr->Option Arr
 | some a=>some ⟨a.z,a.ty,a.cells.set i ((a.cells.getD i .und).patch f 1 c),a.prot⟩
 | none=>none
def zf2 (σ:St) (u:Value):AV->AV->St
 | .rs q off len,.ptr r i f=>⟨upd σ.T (vt r (i * objZ (σ.H r) + f)) (.vrs q off len u),upd σ.H r (zhv (.cst u) i f (σ.H r))⟩
 | .sl l,.ptr r i f=>⟨σ.T,upd σ.H r (zhv (.sl l) i f (σ.H r))⟩
 | _,_=>σ
def ze0 (p:Value->Prop):Prop:=∀ u:Value,u.oneCell' = true->p u
theorem ze0.intro {p:Value->Prop} (h:∀ u:Value,u.oneCell' = true->p u):ze0 p:=h
def clOk (σ:St) (z:Nat) (d:AV):AV->Prop
 | .rs r off len=>(σ.H r).isSome = true∧objZ (σ.H r) = z∧z1b (σ.H r)≤off∧d.cells.length = z∧d.cells.all AV.one = true
 | _=>False
def clArr (d:AV) (off len:Nat):Option Arr->Option Arr
 | some a=>some ⟨a.z,a.ty,a.cells.take off ++ List.replicate len d ++ a.cells.drop (off + len),a.prot⟩
 | none=>none
def clSt (σ:St) (d:AV):AV->St
 | .rs r off len=>⟨σ.T,upd σ.H r (clArr d off len (σ.H r))⟩
 | _=>σ
def zhx (F0 hid wr:List Nat) (σ:St) (z:Nat) (v:AV):AV->Prop
 | .ptr r i f=>wr.contains r = true∧hid.contains r = false∧F0.contains r = false∧byOk hid σ v∧(byFz v).all F0.contains = true∧i < (z09 (σ.H r)).length∧(z1c σ v).cells.length = z∧f + z≤((z09 (σ.H r)).getD i .und).cells.length∧z1b (σ.H r)≤i∧(z1c σ v).cells.all AV.one = true
 | _=>False
def zhw (σ:St) (z:Nat) (v:AV):AV->St
 | .ptr r i f=>⟨σ.T,upd σ.H r (zn2 σ z v i f (σ.H r))⟩
 | _=>σ
def apOk (σ:St) (z ty bytes:Nat) (v:AV):AV->Prop
 | .rs r off len=>byOk [] σ v∧(∃ l,z1c σ v = .sl l∧(σ.H r).isSome = true∧objZ (σ.H r) = z∧(objTy (σ.H r) = ty)∧z1b ((σ.fzs (byFz v)).H r)≤off + len∧y3v (len + l.length) bytes∧r < 1000∧∀ d,d ∈ l->d.cells.length = z∧d.cells.all AV.one = true)
 | _=>False
where objTy:Option Arr->Nat | some a=>a.ty | none=>0
def slOf:AV->List AV | .sl l=>l | _=>[]
def y2i (l:List AV) (len:Nat):Option Arr->Option Arr
 | some a=>some ⟨a.z,a.ty,a.cells.take len ++ l,a.prot⟩
 | none=>none
def apSt (σ:St) (d:Nat) (v:AV):AV->St
 | .rs r off len=>⟨upd (z99 σ.T r) d (.rs r off (len + (slOf (z1c σ v)).length)),upd (σ.fzs (byFz v)).H r (y2i (slOf (z1c σ v)) (off + len) ((σ.fzs (byFz v)).H r))⟩
 | _=>σ
def y2h:AV->Prop
 | .rs _ 0 _=>False
 | .rs _ (_ + 1) _=>True
 | _=>False
def zf1 (l:List AV) (off len:Nat):Option Arr->Option Arr
 | some a=>some ⟨a.z,a.ty,(a.cells.drop off).take len ++ l,0⟩
 | none=>none
def apSt2 (σ:St) (d:Nat) (v:AV):AV->St
 | .rs r off len=>⟨upd (z99 σ.T r) d (.rs r 0 (len + (slOf (z1c σ v)).length)),upd (σ.fzs (byFz v)).H r (zf1 (slOf (z1c σ v)) off len ((σ.fzs (byFz v)).H r))⟩
 | _=>σ
def zv8 (σ:St):AV->Prop
 | .sl _=>True
 | .rs r _ _=>(σ.H r).isSome = true
 | _=>False
def z9m:AV->Prop
 | .sl l=>l.isEmpty = true
 | .rs _ _ len=>len = 0
 | _=>False
def y6a (C:FuncId->List AV->AV->Prop) (f:FuncId) (args:List AV) (hid:List Nat) (d:Nat) (fz:List Nat) (σ:St) (R:St->(St->Prop)->Prop) (K:St->Prop):Prop :=
 ∃ r,C f args r∧z1d hid d r = true∧R (z6x σ d fz r) K
def z1m (C:FuncId->List AV->AV->Prop) (R:St->(St->Prop)->Prop) (K:St->Prop) (σ:St) (d:Nat) (hid:List Nat):IOp->Prop
 | .alloc z ty zero=>zero.cells.length = z∧0 < z∧zero.cells.all AV.one = true∧hid.contains d = false∧R (σ.made d (.ptr d 0 0) (zlc z ty zero)) K
 | .box z ty x=>byOk hid σ (σ.get x)∧(z1c σ (σ.get x)).cells.length = z∧0 < z∧(z1c σ (σ.get x)).cells.all AV.one = true∧hid.contains d = false∧R ((σ.fzs (byFz (σ.get x))).made d (.ptr d 0 0) (zlc z ty (z1c σ (σ.get x)))) K
 | .mknil z ty=>0 < z∧hid.contains d = false∧R (σ.made d (.rs d 0 0) (some ⟨z,ty,[],0⟩)) K
 | .bsl z ty xs=>z5b hid σ (xs.map σ.get)∧0 < z∧zmx z (z19 σ (xs.map σ.get))∧hid.contains d = false∧R ((σ.fzs (z6l (xs.map σ.get))).made d (.rs d 0 (z19 σ (xs.map σ.get)).length) (some ⟨z,ty,z19 σ (xs.map σ.get),0⟩)) K
 | .callv fx xs=>(σ.get fx).isC = true∧z5b hid σ (xs.map σ.get)∧y6a C (σ.get fx).cf ((σ.get fx).c1 ++ z19 σ (xs.map σ.get) ++ (σ.get fx).c2) hid d (z6l (xs.map σ.get)) σ R K
 | .call p xs=>z5b hid σ (xs.map σ.get)∧z1z p (z19 σ (xs.map σ.get))∧z1d hid d (z0o p (z19 σ (xs.map σ.get))) = true∧R (z6x σ d (z6l (xs.map σ.get)) (z0o p (z19 σ (xs.map σ.get)))) K
 | .append z ty bytes x y=>apOk σ z ty bytes (σ.get y) (σ.get x)∧R (apSt σ d (σ.get y) (σ.get x)) K∧(y2h (σ.get x)->R (apSt2 σ d (σ.get y) (σ.get x)) K)
 | .nileq neq x=>zv8 σ (σ.get x)∧(z9m (σ.get x)->R (σ.set d (.bool (!neq))) K)∧R (σ.set d (.bool neq)) K
 | io=>okV hid σ io∧z16 hid (valV σ io) = true∧R ((σ.fzs (fzV σ io)).made d (valV σ io) none) K
def gB:AV->Bool | .bool _=>true | .tup []=>true | _=>false
def gIs:Bool->AV->Bool | true,.bool b=>b | false,.bool b=>!b | _,_=>false
def z0d (C:FuncId->List AV->AV->Prop):List ROp->St->(St->Prop)->Prop
 | [],σ,K=>K σ
 | ⟨io,some d,none,hid,wr⟩ :: l,σ,K=>z1m C (z0d C l) K σ d hid io
 | ⟨io,none,none,_,_⟩ :: l,σ,K=>(match io with
  | .store z p x=>stOk σ z (σ.get x) (σ.get p)∧z0d C l (stSt σ z (σ.get x) (σ.get p)) K
  | .storep z p x=>zn1 σ z (σ.get x) (σ.get p)∧ze0 fun u=>z0d C l (zf2 σ u (σ.get x) (σ.get p)) K
  | .copy z x (.c d)=>clOk σ z d (σ.get x)∧z0d C l (clSt σ d (σ.get x)) K
  | _=>False)
 | ⟨io,some d,some (t,w),hid,wr⟩ :: l,σ,K=>gB (σ.T t) = true∧(gIs w (σ.T t) = true->z1m C (z0d C l) K (σ.set t (.bool w)) d hid io) ∧
   (gIs w (σ.T t) = false->z0d C l ((if (σ.T t).isB then σ.set t (.bool (!w)) else σ).set d (.tup [])) K)
 | _ :: _,_,_=>False
theorem z6t {hid:List Nat} {d:Nat} (h:hid.contains d = false) {i f:Nat}:z16 hid (.ptr d i f) = true:=by simp only [z16,AV.name]; rw [h]; rfl
theorem z32 {hid:List Nat} {d:Nat} (h:hid.contains d = false) {i f:Nat}:z16 hid (.rs d i f) = true:=by simp only [z16,AV.name]; rw [h]; rfl
theorem runOp_M {C:FuncId->List AV->AV->Prop} {σ:St} {d:Nat} {hid:List Nat} {R:St->(St->Prop)->Prop} {K:St->Prop} {io:IOp} (hm:io.isMut = false) (h:z1m C R K σ d hid io):z12 C d hid σ (fun v s fz=>z16 hid v = true∧R ((σ.fzs fz).made d v s) K) io:=by
 cases io with
 | alloc z ty zero=>exact ⟨h.1,h.2.1,h.2.2.1,z6t h.2.2.2.1,h.2.2.2.2⟩
 | box z ty x =>
  simp only [z1m,z12] at *
  rw [z49.1 h.1]
  exact ⟨h.2.1,h.2.2.1,h.2.2.2.1,z6t h.2.2.2.2.1,h.2.2.2.2.2⟩
 | mknil z ty=>exact ⟨h.1,z32 h.2.1,h.2.2⟩
 | bsl z ty xs =>
  simp only [z1m,z12] at *
  rw [z22.1 h.1]
  exact ⟨h.2.1,ze2 h.2.2.1,z32 h.2.2.2.1,h.2.2.2.2⟩
 | callv fx xs =>
  simp only [z1m,z12,y6a] at *
  obtain ⟨h1,h2,r,h3,h4,h5⟩:=h
  cases hf:σ.get fx <;> rw [hf] at h1 h3 <;> simp only [AV.isC,Bool.false_eq_true] at h1
  rw [z22.1 h2]
  refine ⟨r,h3,?_⟩
  cases r with
  | own z ty l=>exact ⟨z32 (by simpa [z1d] using h4),h5⟩
  | _ =>
   simp only [z1q]
   simp only [z6x] at h5
   simp only [z1d] at h4
   split
   ·rename_i hb; rw [if_pos hb] at h5; exact ⟨h4,h5⟩
   ·rename_i hb; rw [if_neg hb] at h5; exact ⟨h4,h5⟩
 | call p xs =>
  simp only [z1m,z12] at *
  obtain ⟨h2,h3,h4,h5⟩:=h
  rw [z22.1 h2]
  refine ⟨h3,?_⟩
  generalize z0o p (z19 σ (xs.map σ.get)) = r at h4 h5
  cases r with
  | own z ty l=>exact ⟨z32 (by simpa [z1d] using h4),h5⟩
  | _ =>
   simp only [z1q]
   simp only [z6x] at h5
   simp only [z1d] at h4
   split
   ·rename_i hb; rw [if_pos hb] at h5; exact ⟨h4,h5⟩
   ·rename_i hb; rw [if_neg hb] at h5; exact ⟨h4,h5⟩
 | store z p x=>cases hm
 | append z ty b x y=>cases hm
 | nileq neq x=>cases hm
 | storep z p x=>cases hm
 | copy z x y=>cases hm
 | _=>exact y97 (K:=fun v fz=>z16 hid v = true∧R ((σ.fzs fz).made d v none) K) h
theorem y90 {σ:St} {fz:List Nat} {r:Nat} (h:(σ.H r).isSome = true):∃ arr arr',σ.H r = some arr∧(σ.fzs fz).H r = some arr'∧arr'.cells = arr.cells∧arr'.z = arr.z∧arr'.ty = arr.ty:=by
 obtain ⟨arr,ha⟩:=Option.isSome_iff_exists.1 h
 obtain ⟨a',q1,q2,_⟩:=zds (l:=fz) ha
 exact ⟨arr,a',ha,q1,q2.cells,q2.z,q2.ty⟩
theorem run_store {σ:St} {K:St->Prop} {z:Nat} {p x:IOpd} (h:stOk σ z (σ.get x) (σ.get p)∧K (stSt σ z (σ.get x) (σ.get p))):z18 σ none K (.store z p x):=by
 obtain ⟨h1,h2⟩:=h
 simp only [z18]
 cases hp:σ.get p <;> rw [hp] at h1 h2 <;> simp only [stOk,stSt] at h1 h2
 rename_i r i f
 obtain ⟨g1,g2,g3,g4,g5,g6⟩:=h1
 rw [z49.1 g1]
 have hs:(σ.H r).isSome = true:=by
  cases ha:σ.H r with
  | none=>rw [ha] at g2; simp [z09] at g2
  | some arr=>rfl
 obtain ⟨arr,arr',q1,q2,q3,q4,q5⟩:=y90 (fz:=byFz (σ.get x)) hs
 rw [q1] at g2 g4
 rw [q2] at g5 h2
 simp only [z09,z1b] at g2 g4 g5
 simp only [q2,q3]
 rw [List.getD_eq_getElem?_getD,List.getElem?_eq_getElem g2] at g4
 rw [List.getElem?_eq_getElem g2]
 refine ⟨g3,g4,g5,g6,?_⟩
 simp only [zn2,q3] at h2
 rw [List.getD_eq_getElem?_getD,List.getElem?_eq_getElem g2] at h2
 exact h2
theorem run_storep {σ:St} {K:St->Prop} {z:Nat} {p x:IOpd} (h:zn1 σ z (σ.get x) (σ.get p)∧ze0 fun u=>K (zf2 σ u (σ.get x) (σ.get p))):z18 σ none K (.storep z p x):=by
 obtain ⟨h1,h2⟩:=h
 simp only [z18]
 cases hx:σ.get x <;> rw [hx] at h1 h2 <;> try exact h1.elim
 ·cases hp:σ.get p <;> rw [hp] at h1 h2 <;> try exact h1.elim
  rename_i l r i f
  obtain ⟨g1,g2,g3,g4⟩:=h1
  cases ha:σ.H r with
  | none=>rw [ha] at g2; simp [z09] at g2
  | some arr =>
   simp only [ha,z09,z1b] at g2 g3 g4
   rw [List.getD_eq_getElem?_getD,List.getElem?_eq_getElem g2] at g3
   simp only [ha,List.getElem?_eq_getElem g2]
   refine ⟨g1,g3,g4,?_⟩
   have:=h2 (.bool true) rfl
   simp only [zf2,zhv,ha,List.getD_eq_getElem?_getD,List.getElem?_eq_getElem g2,Option.getD_some] at this
   exact this
 ·cases hp:σ.get p <;> rw [hp] at h1 h2 <;> try exact h1.elim
  rename_i q off len r i f
  obtain ⟨g1,g2,g3,g4,g5⟩:=h1
  cases ha:σ.H r with
  | none=>rw [ha] at g2; simp [z09] at g2
  | some arr =>
   simp only [ha,z09,z1b] at g2 g3 g4
   rw [List.getD_eq_getElem?_getD,List.getElem?_eq_getElem g2] at g3
   simp only [ha,List.getElem?_eq_getElem g2]
   refine ⟨g1,g3,g4,g5,fun u hu=>?_⟩
   have:=h2 u hu
   simp only [zf2,zhv,objZ,ha,List.getD_eq_getElem?_getD,List.getElem?_eq_getElem g2,Option.getD_some] at this
   exact this
theorem run_clr {σ:St} {K:St->Prop} {z:Nat} {x:IOpd} {d:AV} (h:clOk σ z d (σ.get x)∧K (clSt σ d (σ.get x))):z18 σ none K (.copy z x (.c d)):=by
 obtain ⟨h1,h2⟩:=h
 simp only [z18]
 cases hx:σ.get x <;> rw [hx] at h1 h2 <;> simp only [clOk,clSt] at h1 h2
 rename_i r off len
 obtain ⟨g1,g2,g3,g4,g5⟩:=h1
 obtain ⟨arr,ha⟩:=Option.isSome_iff_exists.1 g1
 simp only [ha,objZ,z1b,clArr] at g2 g3 h2 ⊢
 exact ⟨g2,g3,g4,g5,trivial,h2⟩
theorem znl {σ:St} {K:St->Prop} {z ty bytes d:Nat} {x y:IOpd} (h:apOk σ z ty bytes (σ.get y) (σ.get x)∧K (apSt σ d (σ.get y) (σ.get x))∧(y2h (σ.get x)->K (apSt2 σ d (σ.get y) (σ.get x)))):z18 σ (some d) K (.append z ty bytes x y):=by
 obtain ⟨h1,h2,h3⟩:=h
 simp only [z18]
 cases hx:σ.get x <;> rw [hx] at h1 h2 h3 <;> simp only [apOk,apSt,apSt2] at h1 h2 h3
 rename_i r off len
 obtain ⟨g1,l,g2,g3,g4,g5,g6,g7,g9,g8⟩:=h1
 rw [z49.1 g1,g2]
 obtain ⟨arr,arr',q1,q2,q3,q4,q5⟩:=y90 (fz:=byFz (σ.get y)) g3
 rw [q1] at g4 g5
 rw [q2] at g6 h2 h3
 simp only [objZ,apOk.objTy,z1b] at g4 g5 g6
 simp only [q2]
 refine ⟨g9,by rw [q4]; exact g4,by rw [q5]; exact g5,g6,g7,g8,?_,fun h0=>?_⟩
 ·simp only [y2i,g2,slOf] at h2
  exact h2
 ·simp only [zf1,g2,slOf] at h3
  refine h3 ?_
  cases off with
  | zero=>exact absurd rfl h0
  | succ n=>trivial
theorem zw3 {σ:St} {K:St->Prop} {neq:Bool} {d:Nat} {x:IOpd} (h:zv8 σ (σ.get x)∧(z9m (σ.get x)->K (σ.set d (.bool (!neq))))∧K (σ.set d (.bool neq))):z18 σ (some d) K (.nileq neq x):=by
 obtain ⟨h1,h2,h3⟩:=h
 simp only [z18]
 cases hx:σ.get x <;> rw [hx] at h1 h2 <;> simp only [zv8,z9m] at h1 h2
 ·exact ⟨h2,h3⟩
 ·exact ⟨h1,h2,h3⟩
theorem zfg {v:AV} (h:gB v = true):(∃ b,v = .bool b)∨v = .tup []:=by
 unfold gB at h
 split at h
 ·exact .inl ⟨_,rfl⟩
 ·exact .inr rfl
 ·cases h
theorem z15 {C:FuncId->List AV->AV->Prop}:∀ {l:List ROp} {σ:St} {K:St->Prop},z0d C l σ K->z0i C l σ K
 | [],σ,K,h=>h
 | ⟨io,some d,none,hid,wr⟩ :: l,σ,K,h=>by
  simp only [z0d] at h
  simp only [z0i,z1u,z9a]
  cases hm:io.isMut with
  | true =>
   rw [if_pos rfl]
   cases io <;> first
    | (cases hm; done)
    | (simp only [z1m,okV,false_and] at h; done)
    | (refine z25 (fun σ hk=>z15 hk) (znl (K:=fun σ=>z0d C l σ K) h))
    | (refine z25 (fun σ hk=>z15 hk) (zw3 (K:=fun σ=>z0d C l σ K) h))
  | false =>
   rw [if_neg (by simp)]
   exact z3n (fun v s fz hk=>⟨hk.1,z15 hk.2⟩) (runOp_M hm h)
 | ⟨io,none,none,hid,wr⟩ :: l,σ,K,h=>by
  cases io <;> simp only [z0d] at h <;> try exact h.elim
  ·simp only [z0i,z1u,z9a,IOp.isMut,if_true]
   exact z25 (fun σ hk=>z15 hk) (run_store (K:=fun σ=>z0d C l σ K) h)
  ·rename_i z x y
   cases y with
   | t k=>exact h.elim
   | c d =>
    simp only [z0i,z1u,z9a,IOp.isMut,if_true]
    exact z25 (fun σ hk=>z15 hk) (run_clr (K:=fun σ=>z0d C l σ K) h)
  ·simp only [z0i,z1u,z9a,IOp.isMut,if_true]
   exact z25 (fun σ hk=>z15 hk) (run_storep (K:=fun σ=>z0d C l σ K) h)
 | ⟨io,some d,some (t,w),hid,wr⟩ :: l,σ,K,h=>by
  simp only [z0d] at h
  obtain ⟨h1,h2,h3⟩:=h
  simp only [z0i,z1u]
  rcases zfg h1 with ⟨b,e⟩ | e
  ·rw [e] at h2 h3
   rw [e]
   refine ⟨fun hb=>?_,fun hb=>?_⟩
   ·subst hb
    have h:=h2 (by cases b <;> rfl)
    simp only [z9a]
    cases hm:io.isMut with
    | true =>
     rw [if_pos rfl]
     cases io <;> first
      | (cases hm; done)
      | (simp only [z1m,okV,false_and] at h; done)
      | (refine z25 (fun σ hk=>z15 hk) (znl (K:=fun σ=>z0d C l σ K) h))
      | (refine z25 (fun σ hk=>z15 hk) (zw3 (K:=fun σ=>z0d C l σ K) h))
    | false =>
     rw [if_neg (by simp)]
     exact z3n (fun v s fz hk=>⟨hk.1,z15 hk.2⟩) (runOp_M hm h)
   ·subst hb
    have h:=h3 (by cases w <;> rfl)
    simp only [AV.isB,if_true] at h
    exact z15 h
  ·rw [e] at h3
   rw [e]
   have h:=h3 (by cases w <;> rfl)
   simp only [AV.isB,Bool.false_eq_true,if_false] at h
   exact z15 h
 | ⟨io,none,some g,hid,wr⟩ :: l,σ,K,h=>by simp only [z0d] at h
def zvo (C:FuncId->List AV->AV->Prop) (F0:List Nat) (f:FuncId) (args:List AV) (hid:List Nat) (d:Nat) (fz:List Nat) (σ:St) (R:St->(St->Prop)->Prop) (K:St->Prop):Prop :=
 ∃ r,C f args r∧z1d hid d r = true∧(r.flatB || fz.all F0.contains) = true∧R (z6x σ d [] r) K
def z0h (C:FuncId->List AV->AV->Prop) (F0:List Nat) (R:St->(St->Prop)->Prop) (K:St->Prop) (σ:St) (d:Nat) (hid:List Nat):IOp->Prop
 | .alloc z ty zero=>zero.cells.length = z∧0 < z∧zero.cells.all AV.one = true∧hid.contains d = false∧R (σ.made d (.ptr d 0 0) (zlc z ty zero)) K
 | .box z ty x=>byOk hid σ (σ.get x)∧(byFz (σ.get x)).all F0.contains = true∧(z1c σ (σ.get x)).cells.length = z∧0 < z∧(z1c σ (σ.get x)).cells.all AV.one = true∧hid.contains d = false∧R (σ.made d (.ptr d 0 0) (zlc z ty (z1c σ (σ.get x)))) K
 | .mknil z ty=>0 < z∧hid.contains d = false∧R (σ.made d (.rs d 0 0) (some ⟨z,ty,[],0⟩)) K
 | .bsl z ty xs=>z5b hid σ (xs.map σ.get)∧(z6l (xs.map σ.get)).all F0.contains = true∧0 < z∧zmx z (z19 σ (xs.map σ.get))∧hid.contains d = false∧R (σ.made d (.rs d 0 (z19 σ (xs.map σ.get)).length) (some ⟨z,ty,z19 σ (xs.map σ.get),0⟩)) K
 | .callv fx xs=>(σ.get fx).isC = true∧z5b hid σ (xs.map σ.get)∧zvo C F0 (σ.get fx).cf ((σ.get fx).c1 ++ z19 σ (xs.map σ.get) ++ (σ.get fx).c2) hid d (z6l (xs.map σ.get)) σ R K
 | .call p xs=>z5b hid σ (xs.map σ.get)∧z1z p (z19 σ (xs.map σ.get))∧z1d hid d (z0o p (z19 σ (xs.map σ.get))) = true∧((z0o p (z19 σ (xs.map σ.get))).flatB || (z6l (xs.map σ.get)).all F0.contains) = true∧R (z6x σ d [] (z0o p (z19 σ (xs.map σ.get)))) K
 | io=>okV hid σ io∧z16 hid (valV σ io) = true∧(fzV σ io).all F0.contains = true∧R (σ.made d (valV σ io) none) K
def z07 (C:FuncId->List AV->AV->Prop) (F0:List Nat) (tl:List ROp):List ROp->St->(St->Prop)->Prop
 | [],σ,K=>z0d C tl σ K
 | ⟨io,some d,none,hid,wr⟩ :: l,σ,K=>z0h C F0 (z07 C F0 tl l) K σ d hid io
 | ⟨io,some d,some (t,w),hid,wr⟩ :: l,σ,K=>gB (σ.T t) = true∧(gIs w (σ.T t) = true->z0h C F0 (z07 C F0 tl l) K (σ.set t (.bool w)) d hid io) ∧
   (gIs w (σ.T t) = false->z07 C F0 tl l ((if (σ.T t).isB then σ.set t (.bool (!w)) else σ).set d (.tup [])) K)
 | ⟨io,none,none,hid,wr⟩ :: l,σ,K=>(match io with
  | .store z p x=>zhx F0 hid wr σ z (σ.get x) (σ.get p)∧z07 C F0 tl l (zhw σ z (σ.get x) (σ.get p)) K
  | _=>False)
 | _ :: _,_,_=>False
theorem run_storeH {F0 hid wr:List Nat} {σ:St} {K:St->Prop} {z:Nat} {p x:IOpd} (h:zhx F0 hid wr σ z (σ.get x) (σ.get p)∧K (zhw σ z (σ.get x) (σ.get p))):y1q F0 hid wr σ (fun r arr=>K ⟨σ.T,upd σ.H r (some arr)⟩) (.store z p x):=by
 obtain ⟨h1,h2⟩:=h
 simp only [y1q]
 cases hp:σ.get p <;> rw [hp] at h1 h2 <;> simp only [zhx,zhw] at h1 h2
 rename_i r i f
 obtain ⟨a1,a2,a3,g1,a4,g2,g3,g4,g5,g6⟩:=h1
 refine ⟨a1,a2,a3,?_⟩
 rw [z49.1 g1]
 refine ⟨a4,?_⟩
 cases ha:σ.H r with
 | none=>rw [ha] at g2; simp [z09] at g2
 | some arr =>
  rw [ha] at g2 g4 g5 h2
  simp only [z09,z1b] at g2 g4 g5
  simp only
  rw [List.getD_eq_getElem?_getD,List.getElem?_eq_getElem g2] at g4
  rw [List.getElem?_eq_getElem g2]
  refine ⟨g3,g4,g5,g6,?_⟩
  simp only [zn2] at h2
  rw [List.getD_eq_getElem?_getD,List.getElem?_eq_getElem g2] at h2
  exact h2
theorem y8y {C:FuncId->List AV->AV->Prop} {F0:List Nat} {R:St->(St->Prop)->Prop} {σ:St} {d:Nat} {hid:List Nat} {K:St->Prop} {io:IOp} (h:z0h C F0 R K σ d hid io):z12 C d hid σ (fun v s fz=>fz.all F0.contains = true∧z16 hid v = true∧R (σ.made d v s) K) io:=by
 cases io with
 | alloc z ty zero=>exact ⟨h.1,h.2.1,h.2.2.1,rfl,z6t h.2.2.2.1,h.2.2.2.2⟩
 | box z ty x =>
  simp only [z0h,z12] at *
  rw [z49.1 h.1]
  exact ⟨h.2.2.1,h.2.2.2.1,h.2.2.2.2.1,h.2.1,z6t h.2.2.2.2.2.1,h.2.2.2.2.2.2⟩
 | mknil z ty=>exact ⟨h.1,rfl,z32 h.2.1,h.2.2⟩
 | bsl z ty xs =>
  simp only [z0h,z12] at *
  rw [z22.1 h.1]
  exact ⟨h.2.2.1,ze2 h.2.2.2.1,h.2.1,z32 h.2.2.2.2.1,h.2.2.2.2.2⟩
 | callv fx xs =>
  simp only [z0h,z12,zvo] at *
  obtain ⟨h1,h2,r,h3,h4,h5,h6⟩:=h
  cases hf:σ.get fx <;> rw [hf] at h1 h3 <;> simp only [AV.isC,Bool.false_eq_true] at h1
  rw [z22.1 h2]
  refine ⟨r,h3,?_⟩
  have hres:∀ b,(if b = true then σ.made d r none else (σ.fzs []).made d r none) = σ.made d r none:=fun b=>by cases b <;> rfl
  cases r with
  | own z ty l=>exact ⟨by simpa [AV.flatB] using h5,z32 (by simpa [z1d] using h4),h6⟩
  | _ =>
   simp only [z1q]
   simp only [z6x,hres] at h6
   simp only [z1d] at h4
   split
   ·exact ⟨rfl,h4,h6⟩
   ·rename_i hb
    simp only [Bool.not_eq_true] at hb
    rw [hb,Bool.false_or] at h5
    exact ⟨h5,h4,h6⟩
 | call p xs =>
  simp only [z0h,z12] at *
  obtain ⟨h2,h3,h4,h5,h6⟩:=h
  rw [z22.1 h2]
  refine ⟨h3,?_⟩
  generalize z0o p (z19 σ (xs.map σ.get)) = r at h4 h5 h6
  have hres:∀ b,(if b = true then σ.made d r none else (σ.fzs []).made d r none) = σ.made d r none:=fun b=>by cases b <;> rfl
  cases r with
  | own z ty l=>exact ⟨by simpa [AV.flatB] using h5,z32 (by simpa [z1d] using h4),h6⟩
  | _ =>
   simp only [z1q]
   simp only [z6x,hres] at h6
   simp only [z1d] at h4
   split
   ·exact ⟨rfl,h4,h6⟩
   ·rename_i hb
    simp only [Bool.not_eq_true] at hb
    rw [hb,Bool.false_or] at h5
    exact ⟨h5,h4,h6⟩
 | store z p x=>simp only [z0h,okV,false_and] at h
 | append z ty b x y=>simp only [z0h,okV,false_and] at h
 | nileq neq x=>simp only [z0h,okV,false_and] at h
 | storep z p x=>simp only [z0h,okV,false_and] at h
 | copy z x y=>simp only [z0h,okV,false_and] at h
 | _=>exact y97 (K:=fun v fz=>fz.all F0.contains = true∧z16 hid v = true∧R (σ.made d v none) K) ⟨h.1,h.2.2.1,h.2.1,h.2.2.2⟩
theorem z24 {C:FuncId->List AV->AV->Prop} {F0:List Nat} {tl:List ROp}:∀ {l:List ROp} {σ:St} {K:St->Prop},z07 C F0 tl l σ K->z0r C F0 l σ fun σ=>z0i C tl σ K
 | [],σ,K,h=>z15 h
 | ⟨io,some d,none,hid,wr⟩ :: l,σ,K,h=>by
  simp only [z07] at h
  simp only [z0r,z1u]
  exact z3n (fun v s fz hk=>⟨hk.1,hk.2.1,z24 hk.2.2⟩) (y8y h)
 | ⟨io,none,none,hid,wr⟩ :: l,σ,K,h=>by
  cases io <;> simp only [z07] at h <;> try exact h.elim
  simp only [z0r,z1u]
  exact ztu (fun r a hk=>z24 hk) (run_storeH (K:=fun σ=>z07 C F0 tl l σ K) h)
 | ⟨io,some d,some (t,w),hid,wr⟩ :: l,σ,K,h=>by
  simp only [z07] at h
  obtain ⟨h1,h2,h3⟩:=h
  simp only [z0r,z1u]
  rcases zfg h1 with ⟨b,e⟩ | e
  ·rw [e] at h2 h3
   rw [e]
   refine ⟨fun hb=>?_,fun hb=>?_⟩
   ·subst hb
    exact z3n (fun v s fz hk=>⟨hk.1,hk.2.1,z24 hk.2.2⟩) (y8y (h2 (by cases b <;> rfl)))
   ·subst hb
    have h:=h3 (by cases w <;> rfl)
    simp only [AV.isB,if_true] at h
    exact z24 h
  ·rw [e] at h3
   rw [e]
   have h:=h3 (by cases w <;> rfl)
   simp only [AV.isB,Bool.false_eq_true,if_false] at h
   exact z24 h
 | ⟨io,none,some g,hid,wr⟩ :: l,σ,K,h=>by simp only [z07] at h
def z0m (C:FuncId->List AV->AV->Prop) (g:Reg) (σ:St) (K:St->Prop):Prop :=
 match g.draw with
 | true=>z07 C (g.fzT.filterMap fun t=>((σ.kills g.kills).T t).name) g.tail g.head ((σ.kills g.kills).fzs (g.fzT.filterMap fun t=>((σ.kills g.kills).T t).name)) K
 | false=>z0d C g.tail (σ.kills g.kills) K
theorem zw6 {C:FuncId->List AV->AV->Prop} {g:Reg} {σ:St} {K:St->Prop} (h:z0m C g σ K):z3x C g σ K:=by
 unfold z0m at h
 unfold z3x
 split at h
 ·rename_i e; rw [if_pos e]; exact z24 h
 ·rename_i e; rw [if_neg (by rw [e]; simp)]; exact z15 h
def ckOk (σ:St):AV->Prop
 | .ptr r _ _=>(σ.H r).isSome = true
 | .rp _=>True
 | _=>False
def cloOk (σ:St):AV->Prop
 | .ptr r 0 0=>(σ.H r).isSome = true
 | _=>False
def ptrAt:AV->Nat
 | .ptr r _ _=>r
 | _=>0
def mOk (σ:St):AV->Prop
 | .ptr _ _ _=>True
 | v=>byOk [] σ v
def mVal (σ:St):AV->AV
 | .ptr r i f=>.ptr r i f
 | v=>z1c σ v
def mFz:AV->List Nat
 | .ptr _ _ _=>[]
 | v=>byFz v
theorem mval_ok {σ:St} {v:AV} (h:mOk σ v):σ.mval v = some (mVal σ v,mFz v):=by
 cases v with
 | und=>exact h.elim
 | own z ty l=>exact h.elim
 | clom f r=>exact h.elim
 | mp r es=>exact h.elim
 | vrs r o l u=>exact h.elim
 | rs r o l =>
  have h':byOk [] σ (.rs r o l):=h
  exact z49.1 h'
 | _=>rfl
def mOks (σ:St):List AV->Prop
 | []=>True
 | v :: l=>mOk σ v∧mOks σ l
def zvb (σ:St):List AV->List AV
 | []=>[]
 | v :: l=>mVal σ v :: zvb σ l
def mFzs:List AV->List Nat
 | []=>[]
 | v :: l=>mFz v ++ mFzs l
theorem y88 {σ:St}:∀ {l:List AV},mOks σ l->σ.mvals l = some (zvb σ l,mFzs l)
 | [],_=>rfl
 | v :: l,h=>by
  simp only [St.mvals,mval_ok h.1,y88 h.2,zvb,mFzs]
def z9o (σ:St):AV->Prop
 | .clo _ [] []=>True
 | .clom _ q=>(σ.H q).isSome = true
 | _=>False
def mFn:AV->FuncId
 | .clo f _ _=>f
 | .clom f _=>f
 | _=>0
def zvc (ds:List AV):AV->List AV
 | .clom _ q=>ds ++ [.ptr q 0 0]
 | _=>ds
def zfm (P:Program) (f:FuncId) (args:List AV) (T:Nat->AV) (H:Nat->Option Arr) (d:Nat) (R:St->(St->Prop)->Prop) (K:St->Prop):Prop:=∃ r H',MFn P f args H r H'∧R ⟨upd T d r,H'⟩ K
def z0l (σ:St):AV->Prop
 | .mp r _=>(σ.H r).isSome = true
 | .mv _=>True
 | _=>False
def ents:AV->List (Int × AV)
 | .mp _ es=>es
 | .mv es=>es
 | _=>[]
def kI:AV->Bool
 | .int .i64 _=>true
 | _=>false
def mpOk (σ:St):AV->Prop
 | .mp r _=>r < 1000∧(σ.H r).isSome = true
 | _=>False
def mpR:AV->Nat
 | .mp r _=>r
 | _=>0
def remT (r:Nat) (es:List (Int × AV)) (T:Nat->AV):Nat->AV:=fun t=>remp r es (T t)
theorem kI_of {v:AV} (h:kI v = true):∃ q,v = .int .i64 q:=by
 cases v with
 | int k q=>cases k <;> first | exact ⟨q,rfl⟩ | cases h
 | _=>cases h
theorem entOk_of {σ:St} {v:AV} (h:z0l σ v):y98 σ v = some (ents v):=by
 cases v with
 | mp r es=>exact if_pos h
 | mv es=>rfl
 | _=>exact h.elim
def wOk (σ:St):AV->Prop
 | .rs _ _ _=>True
 | v=>mOk σ v
def wVal (σ:St):AV->AV
 | .rs r off len=>.rs r off len
 | v=>mVal σ v
def wFz:AV->List Nat
 | .rs _ _ _=>[]
 | v=>mFz v
theorem wval_ok {σ:St} {v:AV} (h:wOk σ v):σ.wval v = some (wVal σ v,wFz v):=by
 cases v with
 | rs r off len=>rfl
 | _ =>
  simp only [wOk] at h
  simp only [St.wval,wVal,wFz]
  exact mval_ok h
def wOks (σ:St):List AV->Prop
 | []=>True
 | v :: l=>wOk σ v∧wOks σ l
def wVals (σ:St):List AV->List AV
 | []=>[]
 | v :: l=>wVal σ v :: wVals σ l
def wFzs:List AV->List Nat
 | []=>[]
 | v :: l=>wFz v ++ wFzs l
theorem y6b {σ:St}:∀ {l:List AV},wOks σ l->σ.wvals l = some (wVals σ l,wFzs l)
 | [],_=>rfl
 | v :: l,h=>by
  simp only [St.wvals,wval_ok h.1,y6b h.2,wVals,wFzs]
def wCalOk:AV->Prop
 | .clo _ [] []=>True
 | _=>False
def clR:AV->Nat
 | .clom _ r=>r
 | _=>0
def gCalOk:AV->Prop
 | .clom _ r=>r < 500∨r = 1000
 | _=>False
def GCalling (P:Program) (f:FuncId) (r:Nat) (ds:List AV) (d:Nat) (σ:St) (R:St->(St->Prop)->Prop) (K:St->Prop):Prop:=∃ S res Rl,GFn P f (ds ++ [.ptr 1000 0 0]) S res Rl∧gsIn σ.T σ.H r S∧∀ S',Rl S'->R ⟨upd (zu2 σ r S').T d res,(zu2 σ r S').H⟩ K
def runX (P:Program) (C:FuncId->List AV->AV->Prop):XOp->St->(St->Prop)->Prop
 | .op k r,σ,K=>z0d C [r] (σ.kills k) K
 | .nilck d x none,σ,K=>ckOk σ (σ.get x)∧K (σ.set d (σ.get x))
 | .nilck d x (some (t,w)),σ,K=>gB (σ.T t) = true∧(gIs w (σ.T t) = true->ckOk (σ.set t (.bool w)) ((σ.set t (.bool w)).get x)∧K ((σ.set t (.bool w)).set d ((σ.set t (.bool w)).get x))) ∧
   (gIs w (σ.T t) = false->K ((if (σ.T t).isB then σ.set t (.bool (!w)) else σ).set d (.tup [])))
 | .mkclo d f x,σ,K=>cloOk σ (σ.get x)∧K (σ.set d (.clom f (ptrAt (σ.get x))))
 | .mcall d fx xs,σ,K=>mOks σ (xs.map σ.get)∧z9o (σ.fzs (mFzs (xs.map σ.get))) (σ.get fx)∧zfm P (mFn (σ.get fx)) (zvc (zvb σ (xs.map σ.get)) (σ.get fx)) σ.T (σ.fzs (mFzs (xs.map σ.get))).H d (fun σ K=>K σ) K
 | .mkmap d ty,σ,K=>K ((σ.kill d).made d (.mp d []) (some ⟨1,ty,[],0⟩))
 | .mlook d ok m k z none,σ,K=>z0l σ (σ.get m)∧kI (σ.get k) = true∧K (σ.set d (lkV ok z (lkp (ents (σ.get m)) (σ.get k).iv)))
 | .mlook d ok m k z (some (t,w)),σ,K=>gB (σ.T t) = true∧(gIs w (σ.T t) = true->z0l (σ.set t (.bool w)) ((σ.set t (.bool w)).get m)∧kI ((σ.set t (.bool w)).get k) = true ∧
   K ((σ.set t (.bool w)).set d (lkV ok z (lkp (ents ((σ.set t (.bool w)).get m)) ((σ.set t (.bool w)).get k).iv))))∧(gIs w (σ.T t) = false->K ((if (σ.T t).isB then σ.set t (.bool (!w)) else σ).set d (.tup [])))
 | .mupd m k x,σ,K=>mpOk σ (σ.get m)∧kI (σ.get k) = true∧byOk [] σ (σ.get x)∧K ⟨remT (mpR (σ.get m)) (upk (ents (σ.get m)) (σ.get k).iv (z1c σ (σ.get x))) σ.T,(σ.fzs (byFz (σ.get x))).H⟩
 | .wcall d fx xs,σ,K=>wOks σ (xs.map σ.get)∧wCalOk (σ.get fx)∧zfm P (mFn (σ.get fx)) (wVals σ (xs.map σ.get)) σ.T (σ.fzs (wFzs (xs.map σ.get))).H d (fun σ K=>K σ) K
 | .gcall d fx xs,σ,K=>z5b [] σ (xs.map σ.get)∧gCalOk (σ.get fx)∧GCalling P (mFn (σ.get fx)) (clR (σ.get fx)) (z19 σ (xs.map σ.get)) d (σ.fzs (z6l (xs.map σ.get))) (fun σ K=>K σ) K
def z0t (P:Program) (C:FuncId->List AV->AV->Prop):List XOp->St->(St->Prop)->Prop
 | [],σ,K=>K σ
 | x :: l,σ,K=>runX P C x σ fun σ'=>z0t P C l σ' K
theorem runX_ok {P:Program} {C:FuncId->List AV->AV->Prop} {x:XOp} {σ:St} {K:St->Prop} (h:runX P C x σ K):z1w P C x σ K:=by
 cases x with
 | op k r=>exact z15 h
 | nilck d x g =>
  have key:∀ {σ:St},ckOk σ (σ.get x)∧K (σ.set d (σ.get x))->zt8 σ d x K:=by
   intro σ h
   unfold zt8
   cases hx:σ.get x <;> rw [hx] at h <;> simp only [ckOk,false_and,true_and] at h
   ·exact h
   ·exact h
  cases g with
  | none=>exact key h
  | some g =>
   obtain ⟨t,w⟩:=g
   simp only [runX] at h
   obtain ⟨h1,h2,h3⟩:=h
   simp only [z1w,z1u]
   rcases zfg h1 with ⟨b,e⟩ | e
   ·rw [e] at h2 h3
    rw [e]
    refine ⟨fun hb=>?_,fun hb=>?_⟩
    ·subst hb
     exact key (h2 (by cases b <;> rfl))
    ·subst hb
     have h:=h3 (by cases w <;> rfl)
     simp only [AV.isB,if_true] at h
     exact h
   ·rw [e] at h3
    rw [e]
    have h:=h3 (by cases w <;> rfl)
    simp only [AV.isB,Bool.false_eq_true,if_false] at h
    exact h
 | mkclo d f x =>
  simp only [runX] at h
  simp only [z1w]
  cases hx:σ.get x <;> rw [hx] at h <;> try exact h.1.elim
  rename_i r i f'
  cases i with
  | succ i=>exact h.1.elim
  | zero =>
   cases f' with
   | succ f'=>exact h.1.elim
   | zero=>exact h
 | mcall d fx xs =>
  simp only [runX] at h
  obtain ⟨h1,h2,r,H',h3,h4⟩:=h
  simp only [z1w]
  rw [y88 h1]
  cases hf:σ.get fx <;> rw [hf] at h2 h3 <;> try exact h2.elim
  ·rename_i f first caps
   cases first with
   | cons a l=>exact h2.elim
   | nil =>
    cases caps with
    | cons a l=>exact h2.elim
    | nil=>exact ⟨r,H',h3,h4⟩
  ·exact ⟨h2,r,H',h3,h4⟩
 | mkmap d ty=>exact h
 | mlook d ok m k z g =>
  have key:∀ {σ:St},z0l σ (σ.get m)∧kI (σ.get k) = true∧K (σ.set d (lkV ok z (lkp (ents (σ.get m)) (σ.get k).iv)))->zta σ d ok m k z K:=by
   intro σ h
   obtain ⟨h1,h2,h3⟩:=h
   unfold zta
   obtain ⟨q,hq⟩:=kI_of h2
   rw [entOk_of h1,hq]
   rw [hq] at h3
   exact h3
  cases g with
  | none=>exact key h
  | some g =>
   obtain ⟨t,w⟩:=g
   simp only [runX] at h
   obtain ⟨h1,h2,h3⟩:=h
   simp only [z1w,z1u]
   rcases zfg h1 with ⟨b,e⟩ | e
   ·rw [e] at h2 h3
    rw [e]
    refine ⟨fun hb=>?_,fun hb=>?_⟩
    ·subst hb
     exact key (h2 (by cases b <;> rfl))
    ·subst hb
     have h:=h3 (by cases w <;> rfl)
     simp only [AV.isB,if_true] at h
     exact h
   ·rw [e] at h3
    rw [e]
    have h:=h3 (by cases w <;> rfl)
    simp only [AV.isB,Bool.false_eq_true,if_false] at h
    exact h
 | mupd m k x =>
  simp only [runX] at h
  obtain ⟨h1,h2,h3,h4⟩:=h
  simp only [z1w]
  unfold zli
  obtain ⟨q,hq⟩:=kI_of h2
  rw [z49.1 h3,hq]
  rw [hq] at h4
  cases hm:σ.get m <;> rw [hm] at h1 h4 <;> try exact h1.elim
  exact ⟨h1.1,h1.2,h4⟩
 | wcall d fx xs =>
  simp only [runX] at h
  obtain ⟨h1,h2,r,H',h3,h4⟩:=h
  simp only [z1w]
  rw [y6b h1]
  cases hf:σ.get fx <;> rw [hf] at h2 h3 <;> try exact h2.elim
  rename_i f first caps
  cases first with
  | cons a l=>exact h2.elim
  | nil =>
   cases caps with
   | cons a l=>exact h2.elim
   | nil=>exact ⟨r,H',h3,h4⟩
 | gcall d fx xs =>
  simp only [runX] at h
  obtain ⟨h1,h2,S,res,Rl,h3,h4,h5⟩:=h
  simp only [z1w]
  rw [z22.1 h1]
  cases hf:σ.get fx <;> rw [hf] at h2 h3 h4 h5 <;> try exact h2.elim
  exact ⟨h2,S,res,Rl,h3,h4,h5⟩
theorem z9h {P:Program} {C:FuncId->List AV->AV->Prop}:∀ {l:List XOp} {σ:St} {K:St->Prop},z0t P C l σ K->z17 P C l σ K
 | [],σ,K,h=>h
 | x :: l,σ,K,h=>ztt (fun σ=>z9h) (runX_ok h)
def isPtrR:AV->Nat->Prop
 | .ptr r _ _,s=>r = s
 | _,_=>False
def isRsR:AV->Nat->Prop
 | .rs r _ _,s=>r = s
 | _,_=>False
def nmB (v:AV):Bool:=v.name.isSome
def nmD (v:AV):Nat:=v.name.getD 0
def y31 (C:FuncId->List AV->AV->Prop) (g:Reg) (s:Nat) (σ:St) (K:St->Prop):Prop :=
 nmB (σ.T s) = true∧1000≤nmD (σ.T s)∧z0m C (g.ren s (nmD (σ.T s))) σ K
theorem runRegW_ok {C:FuncId->List AV->AV->Prop} {g:Reg} {s:Nat} {σ:St} {K:St->Prop} (h:y31 C g s σ K):z6u C g s σ K:=by
 unfold y31 nmB nmD at h
 unfold z6u
 cases hn:(σ.T s).name with
 | none=>rw [hn] at h; cases h.1
 | some q =>
  rw [hn] at h
  exact ⟨h.2.1,zw6 h.2.2⟩
def zv0 (P:Program) (C:FuncId->List AV->AV->Prop) (g:Reg) (l:List XOp) (σ:St) (K:St->Prop):Prop :=
 z07 C (g.fzT.filterMap fun t=>((σ.kills g.kills).T t).name) [] g.head ((σ.kills g.kills).fzs (g.fzT.filterMap fun t=>((σ.kills g.kills).T t).name)) fun σ=>z0t P C l σ K
theorem runRegD_ok {P:Program} {C:FuncId->List AV->AV->Prop} {g:Reg} {l:List XOp} {σ:St} {K:St->Prop} (h:zv0 P C g l σ K):z9v P C g l σ K :=
 z0g (fun σ hk=>z9h (by simpa only [z0i] using hk)) (z24 h)
def stpSrc (tp tv s0:Nat) (σ:St):Prop:=isPtrR (σ.T tp) s0∧isRsR (σ.T tv) tv
def y32 (P:Program) (C:FuncId->List AV->AV->Prop) (g:Reg) (z s0 tp tv:Nat) (l:List XOp) (σ:St) (K:St->Prop):Prop :=
 z07 C [] [] g.head (σ.kills g.kills) fun σ=>stpSrc tp tv s0 σ∧z0t P C (.op [] ⟨.storep z (.t tp) (.t tv),none,none,[],[]⟩ :: l) σ K
theorem runRegP_ok {P:Program} {C:FuncId->List AV->AV->Prop} {g:Reg} {z s0 tp tv:Nat} {l:List XOp} {σ:St} {K:St->Prop} (h:y32 P C g z s0 tp tv l σ K):z9u P C g z s0 tp tv l σ K:=by
 refine z0g (fun σ hk=>?_) (z24 h)
 have hk:stpSrc tp tv s0 σ∧z0t P C (.op [] ⟨.storep z (.t tp) (.t tv),none,none,[],[]⟩ :: l) σ K:=by simpa only [z0i] using hk
 obtain ⟨⟨h1,h2⟩,hk⟩:=hk
 have hx:=z9h hk
 simp only [z17,z1w,z0i,z1u,z9a,IOp.isMut,if_true,St.kills] at hx
 unfold zme
 cases hp:σ.T tp <;> rw [hp] at h1 <;> try exact h1.elim
 cases hv:σ.T tv <;> rw [hv] at h2 <;> try exact h2.elim
 exact ⟨h1,h2,hx⟩
def zuz (P:Program) (C:FuncId->List AV->AV->Prop) (g:Reg) (lt:List Nat) (mo ko vo:IOpd) (l:List XOp) (σ:St) (K:St->Prop):Prop :=
 z07 C [] [] g.head σ fun σ=>zf5 lt σ∧(σ.get vo).byFree = true∧z0t P C (.mupd mo ko vo :: l) σ K
theorem runRegM_ok {P:Program} {C:FuncId->List AV->AV->Prop} {g:Reg} {lt:List Nat} {mo ko vo:IOpd} {l:List XOp} {σ:St} {K:St->Prop} (h:zuz P C g lt mo ko vo l σ K):zfk P C g lt mo ko vo l σ K:=by
 refine z0g (fun σ hk=>?_) (z24 h)
 have hk:zf5 lt σ∧(σ.get vo).byFree = true∧z0t P C (.mupd mo ko vo :: l) σ K:=by simpa only [z0i] using hk
 exact ⟨hk.1,hk.2.1,z9h hk.2.2⟩
def run (C:FuncId->List AV->AV->Prop):IR->(XK->St->Prop)->St->Prop
 | .gini l,Q,σ=>z9s l σ (Q .normal)
 | .skip,Q,σ=>Q .normal σ
 | .reg g,Q,σ=>z0m C g σ (Q .normal)
 | .regw g s,Q,σ=>y31 C g s σ (Q .normal)
 | .regd P g l,Q,σ=>zv0 P C g l σ (Q .normal)
 | .regp P g z s0 tp tv l,Q,σ=>y32 P C g z s0 tp tv l σ (Q .normal)
 | .regm P g lt mo ko vo l,Q,σ=>zuz P C g lt mo ko vo l σ (Q .normal)
 | .regx P l,Q,σ=>z0t P C l σ (Q .normal)
 | .seq x y,Q,σ=>run C x (z30 (run C y Q) Q) σ
 | .cond c x y,Q,σ=>(σ.get c).isB = true∧((σ.get c).bv = true->run C x Q σ)∧((σ.get c).bv = false->run C y Q σ)
 | .block id b,Q,σ=>run C b (z5f id Q) σ
 | .loop b,Q,σ=>awp C (.loop b) Q σ
 | .exit id,Q,σ=>Q (.exit id) σ
 | .ret,Q,σ=>Q .ret σ
theorem z0b {C:FuncId->List AV->AV->Prop}:∀ {c:IR} {Q:XK->St->Prop} {σ:St},run C c Q σ->awp C c Q σ
 | .gini l,Q,σ,h=>h
 | .skip,Q,σ,h=>h
 | .reg g,Q,σ,h=>zw6 h
 | .regw g s,Q,σ,h=>runRegW_ok h
 | .regd P g l,Q,σ,h=>runRegD_ok h
 | .regp P g z s0 tp tv l,Q,σ,h=>runRegP_ok h
 | .regm P g lt mo ko vo l,Q,σ,h=>runRegM_ok h
 | .regx P l,Q,σ,h=>z9h h
 | .seq x y,Q,σ,h=>by
  simp only [run] at h
  simp only [awp]
  refine z3i x (fun e σ' hq=>?_) σ (z0b h)
  cases e with
  | normal=>exact z0b hq
  | exit id=>exact hq
  | ret=>exact hq
 | .cond c x y,Q,σ,h=>by
  simp only [run] at h
  simp only [awp]
  cases hc:σ.get c <;> rw [hc] at h <;> simp only [AV.isB,AV.bv,Bool.false_eq_true,false_and] at h
  exact ⟨fun e=>z0b (h.2.1 e),fun e=>z0b (h.2.2 e)⟩
 | .block id b,Q,σ,h=>z0b (c:=b) h
 | .loop b,Q,σ,h=>h
 | .exit id,Q,σ,h=>h
 | .ret,Q,σ,h=>h
theorem z08 {C:FuncId->List AV->AV->Prop} {b:IR} {Q:XK->St->Prop} (I:Nat->St->Prop) {σ:St} {k:Nat} (h0:I k σ)
  (hstep:∀ k σ,I k σ->run C b (z30 (fun σ'=>∃ m,m < k∧I m σ') Q) σ):awp C (.loop b) Q σ :=
 loop_inv I h0 fun k σ h=>z0b (hstep k σ h)
def AV.isSl:AV->Bool | .sl _=>true | _=>false
def z9l:Option Arr->Nat | some a=>a.ty | none=>0
theorem apOk_rs (σ:St) (z ty bytes:Nat) (v:AV) (r off len:Nat):apOk σ z ty bytes v (.rs r off len) = (byOk [] σ v∧(z1c σ v).isSl = true∧(σ.H r).isSome = true∧objZ (σ.H r) = z∧z9l (σ.H r) = ty∧z1b ((σ.fzs (byFz v)).H r)≤off + len∧y3v (len + (slOf (z1c σ v)).length) bytes∧r < 1000∧∀ d,d ∈ slOf (z1c σ v)->d.cells.length = z∧d.cells.all AV.one = true):=by
 have ht:apOk.objTy (σ.H r) = z9l (σ.H r):=by cases σ.H r <;> rfl
 apply propext
 simp only [apOk,ht]
 constructor
 ·rintro ⟨h1,l,h2,h3⟩
  rw [h2]
  exact ⟨h1,rfl,h3⟩
 ·rintro ⟨h1,h2,h3⟩
  refine ⟨h1,slOf (z1c σ v),?_,h3⟩
  cases hv:z1c σ v <;> rw [hv] at h2 <;> first | rfl | cases h2
theorem z4o (b:Bool) (X Y:Prop):(if b = true then X else Y) = ((b = true->X)∧(b = false->Y)):=by
 cases b <;> simp
theorem z8v (b:Bool) [inst:Decidable (b = false)] (X Y:Prop):(if b = false then X else Y) = ((b = false->X)∧(b = true->Y)):=by
 cases b <;> simp
theorem zdc (b:Bool) [inst:Decidable (b = true)] (X Y:Prop):(if b = true then X else Y) = ((b = true->X)∧(b = false->Y)):=by
 cases b <;> simp
theorem set_T (σ:St) (t s:Nat) (v:AV):(σ.set t v).T s = if s = t then v else σ.T s:=rfl
theorem set_H (σ:St) (t:Nat) (v:AV):(σ.set t v).H = σ.H:=rfl
theorem made_T (σ:St) (t s:Nat) (v:AV) (o:Option Arr):(σ.made t v o).T s = if s = t then v else σ.T s:=rfl
theorem y3o (σ:St) (t s:Nat) (v:AV):(σ.made t v none).H s = σ.H s:=rfl
theorem y3n (σ:St) (t s:Nat) (v:AV) (arr:Arr):(σ.made t v (some arr)).H s = if s = t then some arr else σ.H s:=rfl
theorem upd_at {α:Type} (f:Nat->α) (r s:Nat) (x:α):upd f r x s = if s = r then x else f s:=rfl
theorem sweep_at (T:Nat->AV) (r t:Nat):z99 T r t = if (T t).name = some r then .und else T t:=rfl
def zn8 (σ:St):AV->AV
 | .rs r off len=>if (σ.H r).isSome = true then .sl (((z09 (σ.H r)).drop off).take len) else .und
 | _=>.und
theorem keepS_ok (σ:St) (v:AV):keepV σ.H v = zn8 σ v:=by
 cases v with
 | rs r off len =>
  simp only [keepV,zn8]
  cases σ.H r <;> rfl
 | _=>rfl
theorem kill_T (σ:St) (r t:Nat):(σ.kill r).T t = if (σ.T t).name = some r then zn8 σ (σ.T t) else σ.T t:=by
 rw [← keepS_ok]; rfl
theorem kill_H (σ:St) (r s:Nat):(σ.kill r).H s = if s = r then none else σ.H s:=rfl
theorem kills_nil (σ:St):σ.kills [] = σ:=rfl
theorem kills_cons (σ:St) (r:Nat) (l:List Nat):σ.kills (r :: l) = (σ.kill r).kills l:=rfl
theorem fz_T' (σ:St) (r t:Nat):(σ.fz r).T t = σ.T t:=rfl
theorem fz_H' (σ:St) (r s:Nat):(σ.fz r).H s = if s = r then (σ.H r).map Arr.freeze else σ.H s:=rfl
theorem fzs_nil (σ:St):σ.fzs [] = σ:=rfl
theorem fzs_cons (σ:St) (r:Nat) (l:List Nat):σ.fzs (r :: l) = (σ.fz r).fzs l:=rfl
theorem init_T (args:List AV) (t:Nat):(z0a args).T t = args.getD t .und:=rfl
theorem init_H (args:List AV) (t:Nat):(z0a args).H t = none:=rfl
theorem get_t (σ:St) (t:Nat):σ.get (.t t) = σ.T t:=rfl
theorem get_c (σ:St) (v:AV):σ.get (.c v) = v:=rfl
theorem freeze_mk (z ty:Nat) (l:List AV) (p:Nat):Arr.freeze ⟨z,ty,l,p⟩ = ⟨z,ty,l,l.length⟩:=rfl
theorem zvv (K:St->Prop) (Q:XK->St->Prop) (σ:St):z30 K Q .normal σ = K σ:=rfl
theorem thenQ_exit (K:St->Prop) (Q:XK->St->Prop) (i:Nat) (σ:St):z30 K Q (.exit i) σ = Q (.exit i) σ:=rfl
theorem thenQ_ret (K:St->Prop) (Q:XK->St->Prop) (σ:St):z30 K Q .ret σ = Q .ret σ:=rfl
theorem zvm (i:Nat) (Q:XK->St->Prop) (σ:St):z5f i Q .normal σ = Q .normal σ:=rfl
theorem blockQ_ret (i:Nat) (Q:XK->St->Prop) (σ:St):z5f i Q .ret σ = Q .ret σ:=rfl
theorem y66 (i j:Nat) (Q:XK->St->Prop) (σ:St):z5f i Q (.exit j) σ = if j = i then Q .normal σ else Q (.exit j) σ:=rfl
theorem endQ_ret (ds:List RDesc) (r:AV) (σ:St):endQ ds r .ret σ = retV ds r σ:=rfl
theorem y3z (ds:List RDesc) (r:AV) (σ:St):endQ ds r .normal σ = retV ds r σ:=rfl
theorem z01 {C:FuncId->List AV->AV->Prop} {f:FuncId} {args:List AV} {hid:List Nat} {d:Nat} {fz:List Nat} {σ:St} {R:St->(St->Prop)->Prop} {K:St->Prop} {r:AV} (h:C f args r) (hk:z1d hid d r = true∧R (z6x σ d fz r) K):y6a C f args hid d fz σ R K:=⟨r,h,hk⟩
theorem z00 {C:FuncId->List AV->AV->Prop} {F0:List Nat} {f:FuncId} {args:List AV} {hid:List Nat} {d:Nat} {fz:List Nat} {σ:St} {R:St->(St->Prop)->Prop} {K:St->Prop} {r:AV} (h:C f args r) (hk:z1d hid d r = true∧(r.flatB || fz.all F0.contains) = true∧R (z6x σ d [] r) K):zvo C F0 f args hid d fz σ R K:=⟨r,h,hk⟩
theorem run_skip (C:FuncId->List AV->AV->Prop) (Q:XK->St->Prop) (σ:St):run C .skip Q σ = Q .normal σ:=rfl
theorem run_reg (C:FuncId->List AV->AV->Prop) (g:Reg) (Q:XK->St->Prop) (σ:St):run C (.reg g) Q σ = z0m C g σ (Q .normal):=rfl
theorem run_regd (C:FuncId->List AV->AV->Prop) (P:Program) (g:Reg) (l:List XOp) (Q:XK->St->Prop) (σ:St):run C (.regd P g l) Q σ = zv0 P C g l σ (Q .normal):=rfl
theorem run_regm (C:FuncId->List AV->AV->Prop) (P:Program) (g:Reg) (lt:List Nat) (mo ko vo:IOpd) (l:List XOp) (Q:XK->St->Prop) (σ:St):run C (.regm P g lt mo ko vo l) Q σ = zuz P C g lt mo ko vo l σ (Q .normal):=rfl
theorem noMps_nil (σ:St):zf5 [] σ = True:=rfl
theorem noMps_cons (t:Nat) (l:List Nat) (σ:St):zf5 (t :: l) σ = ((σ.T t).isMp = false∧zf5 l σ):=rfl
theorem run_seq (C:FuncId->List AV->AV->Prop) (x y:IR) (Q:XK->St->Prop) (σ:St):run C (.seq x y) Q σ = run C x (z30 (run C y Q) Q) σ:=rfl
theorem run_cond (C:FuncId->List AV->AV->Prop) (c:IOpd) (x y:IR) (Q:XK->St->Prop) (σ:St):run C (.cond c x y) Q σ = ((σ.get c).isB = true∧if (σ.get c).bv = true then run C x Q σ else run C y Q σ):=by
 rw [z4o]; rfl
theorem run_block (C:FuncId->List AV->AV->Prop) (id:Nat) (b:IR) (Q:XK->St->Prop) (σ:St):run C (.block id b) Q σ = run C b (z5f id Q) σ:=rfl
theorem run_loop' (C:FuncId->List AV->AV->Prop) (b:IR) (Q:XK->St->Prop) (σ:St):run C (.loop b) Q σ = awp C (.loop b) Q σ:=rfl
theorem run_exit (C:FuncId->List AV->AV->Prop) (id:Nat) (Q:XK->St->Prop) (σ:St):run C (.exit id) Q σ = Q (.exit id) σ:=rfl
theorem run_ret (C:FuncId->List AV->AV->Prop) (Q:XK->St->Prop) (σ:St):run C .ret Q σ = Q .ret σ:=rfl
theorem runOps_nil (C:FuncId->List AV->AV->Prop) (σ:St) (K:St->Prop):z0d C [] σ K = K σ:=rfl
theorem runOps_op (C:FuncId->List AV->AV->Prop) (io:IOp) (d:Nat) (hid wr:List Nat) (l:List ROp) (σ:St) (K:St->Prop):z0d C (⟨io,some d,none,hid,wr⟩ :: l) σ K = z1m C (z0d C l) K σ d hid io:=rfl
theorem runOps_st (C:FuncId->List AV->AV->Prop) (z:Nat) (p x:IOpd) (hid wr:List Nat) (l:List ROp) (σ:St) (K:St->Prop):z0d C (⟨.store z p x,none,none,hid,wr⟩ :: l) σ K = (stOk σ z (σ.get x) (σ.get p)∧z0d C l (stSt σ z (σ.get x) (σ.get p)) K):=rfl
theorem runOps_g (C:FuncId->List AV->AV->Prop) (io:IOp) (d t:Nat) (w:Bool) (hid wr:List Nat) (l:List ROp) (σ:St) (K:St->Prop):z0d C (⟨io,some d,some (t,w),hid,wr⟩ :: l) σ K = (gB (σ.T t) = true∧if gIs w (σ.T t) = true then z1m C (z0d C l) K (σ.set t (.bool w)) d hid io else z0d C l ((if (σ.T t).isB then σ.set t (.bool (!w)) else σ).set d (.tup [])) K):=by
 rw [z4o]; rfl
theorem y33 (C:FuncId->List AV->AV->Prop) (F0:List Nat) (tl:List ROp) (σ:St) (K:St->Prop):z07 C F0 tl [] σ K = z0d C tl σ K:=rfl
theorem runHead_op (C:FuncId->List AV->AV->Prop) (F0:List Nat) (tl:List ROp) (io:IOp) (d:Nat) (hid wr:List Nat) (l:List ROp) (σ:St) (K:St->Prop):z07 C F0 tl (⟨io,some d,none,hid,wr⟩ :: l) σ K = z0h C F0 (z07 C F0 tl l) K σ d hid io:=rfl
theorem runHead_st (C:FuncId->List AV->AV->Prop) (F0:List Nat) (tl:List ROp) (z:Nat) (p x:IOpd) (hid wr:List Nat) (l:List ROp) (σ:St) (K:St->Prop):z07 C F0 tl (⟨.store z p x,none,none,hid,wr⟩ :: l) σ K = (zhx F0 hid wr σ z (σ.get x) (σ.get p)∧z07 C F0 tl l (zhw σ z (σ.get x) (σ.get p)) K):=rfl
theorem runHead_g (C:FuncId->List AV->AV->Prop) (F0:List Nat) (tl:List ROp) (io:IOp) (d t:Nat) (w:Bool) (hid wr:List Nat) (l:List ROp) (σ:St) (K:St->Prop):z07 C F0 tl (⟨io,some d,some (t,w),hid,wr⟩ :: l) σ K = (gB (σ.T t) = true∧if gIs w (σ.T t) = true then z0h C F0 (z07 C F0 tl l) K (σ.set t (.bool w)) d hid io else z07 C F0 tl l ((if (σ.T t).isB then σ.set t (.bool (!w)) else σ).set d (.tup [])) K):=by
 rw [z4o]; rfl
theorem z8p {hid:List Nat} {v:AV} (h:v.name = none):z16 hid v = true:=by unfold z16; rw [h]
theorem y3i (hid:List Nat) (r i f:Nat):z16 hid (.ptr r i f) = !hid.contains r:=rfl
theorem nameOk_rs' (hid:List Nat) (r i f:Nat):z16 hid (.rs r i f) = !hid.contains r:=rfl
theorem run_regx (C:FuncId->List AV->AV->Prop) (P:Program) (l:List XOp) (Q:XK->St->Prop) (σ:St):run C (.regx P l) Q σ = z0t P C l σ (Q .normal):=rfl
theorem runXs_nil (P:Program) (C:FuncId->List AV->AV->Prop) (σ:St) (K:St->Prop):z0t P C [] σ K = K σ:=rfl
theorem runXs_op (P:Program) (C:FuncId->List AV->AV->Prop) (k:List Nat) (r:ROp) (l:List XOp) (σ:St) (K:St->Prop):z0t P C (.op k r :: l) σ K = z0d C [r] (σ.kills k) fun σ'=>z0t P C l σ' K:=rfl
theorem y2w (P:Program) (C:FuncId->List AV->AV->Prop) (d:Nat) (x:IOpd) (l:List XOp) (σ:St) (K:St->Prop):z0t P C (.nilck d x none :: l) σ K = (ckOk σ (σ.get x)∧z0t P C l (σ.set d (σ.get x)) K):=rfl
theorem zw4 (P:Program) (C:FuncId->List AV->AV->Prop) (d:Nat) (x:IOpd) (t:Nat) (w:Bool) (l:List XOp) (σ:St) (K:St->Prop):z0t P C (.nilck d x (some (t,w)) :: l) σ K = (gB (σ.T t) = true∧if gIs w (σ.T t) = true then ckOk (σ.set t (.bool w)) ((σ.set t (.bool w)).get x)∧z0t P C l ((σ.set t (.bool w)).set d ((σ.set t (.bool w)).get x)) K else z0t P C l ((if (σ.T t).isB then σ.set t (.bool (!w)) else σ).set d (.tup [])) K):=by
 rw [z4o]; rfl
theorem y2z (P:Program) (C:FuncId->List AV->AV->Prop) (d:Nat) (f:FuncId) (x:IOpd) (l:List XOp) (σ:St) (K:St->Prop):z0t P C (.mkclo d f x :: l) σ K = (cloOk σ (σ.get x)∧z0t P C l (σ.set d (.clom f (ptrAt (σ.get x)))) K):=rfl
theorem y30 (P:Program) (C:FuncId->List AV->AV->Prop) (d:Nat) (fx:IOpd) (xs:List IOpd) (l:List XOp) (σ:St) (K:St->Prop):z0t P C (.mcall d fx xs :: l) σ K = (mOks σ (xs.map σ.get)∧z9o (σ.fzs (mFzs (xs.map σ.get))) (σ.get fx)∧zfm P (mFn (σ.get fx)) (zvc (zvb σ (xs.map σ.get)) (σ.get fx)) σ.T (σ.fzs (mFzs (xs.map σ.get))).H d (z0t P C l) K):=rfl
theorem y2y (P:Program) (C:FuncId->List AV->AV->Prop) (d:Nat) (ty:TypeId) (l:List XOp) (σ:St) (K:St->Prop):z0t P C (.mkmap d ty :: l) σ K = z0t P C l ((σ.kill d).made d (.mp d []) (some ⟨1,ty,[],0⟩)) K:=rfl
theorem y2x (P:Program) (C:FuncId->List AV->AV->Prop) (d:Nat) (ok:Bool) (m k:IOpd) (z:AV) (l:List XOp) (σ:St) (K:St->Prop):z0t P C (.mlook d ok m k z none :: l) σ K = (z0l σ (σ.get m)∧kI (σ.get k) = true∧z0t P C l (σ.set d (lkV ok z (lkp (ents (σ.get m)) (σ.get k).iv))) K):=rfl
theorem zw5 (P:Program) (C:FuncId->List AV->AV->Prop) (d:Nat) (ok:Bool) (m k:IOpd) (z:AV) (t:Nat) (w:Bool) (l:List XOp) (σ:St) (K:St->Prop):z0t P C (.mlook d ok m k z (some (t,w)) :: l) σ K = (gB (σ.T t) = true∧if gIs w (σ.T t) = true then z0l (σ.set t (.bool w)) ((σ.set t (.bool w)).get m)∧kI ((σ.set t (.bool w)).get k) = true∧z0t P C l ((σ.set t (.bool w)).set d (lkV ok z (lkp (ents ((σ.set t (.bool w)).get m)) ((σ.set t (.bool w)).get k).iv))) K else z0t P C l ((if (σ.T t).isB then σ.set t (.bool (!w)) else σ).set d (.tup [])) K):=by
 rw [z4o]; rfl
theorem runXs_mupd (P:Program) (C:FuncId->List AV->AV->Prop) (m k x:IOpd) (l:List XOp) (σ:St) (K:St->Prop):z0t P C (.mupd m k x :: l) σ K = (mpOk σ (σ.get m)∧kI (σ.get k) = true∧byOk [] σ (σ.get x)∧z0t P C l ⟨remT (mpR (σ.get m)) (upk (ents (σ.get m)) (σ.get k).iv (z1c σ (σ.get x))) σ.T,(σ.fzs (byFz (σ.get x))).H⟩ K):=rfl
theorem nameOk_mp (hid:List Nat) (r:Nat) (es:List (Int × AV)):z16 hid (.mp r es) = !hid.contains r:=rfl
theorem y3j (hid:List Nat) (f:FuncId) (r:Nat):z16 hid (.clom f r) = !hid.contains r:=rfl
theorem initM_T (args:List AV) (H:Nat->Option Arr) (t:Nat):(initM args H).T t = sh (args.getD t .und):=rfl
theorem initM_H (args:List AV) (H:Nat->Option Arr):(initM args H).H = shH H:=rfl
theorem shH_big (H:Nat->Option Arr) (r:Nat):shH H (r + 1000) = H r:=by unfold shH; rw [if_neg (by omega),Nat.add_sub_cancel]
theorem zi1 (H:Nat->Option Arr) (r:Nat) (h:r < 1000):shH H r = none:=if_pos h
theorem endM_ret (ds:List RDesc) (r:AV) (H':Nat->Option Arr) (σ:St):endM ds r H' .ret σ = retM ds r H' σ:=rfl
theorem y40 (ds:List RDesc) (r:AV) (H':Nat->Option Arr) (σ:St):endM ds r H' .normal σ = retM ds r H' σ:=rfl
theorem run_gini (C:FuncId->List AV->AV->Prop) (l:List GIni) (Q:XK->St->Prop) (σ:St):run C (.gini l) Q σ = z9s l σ (Q .normal):=rfl
theorem giniV_nil (σ:St) (K:St->Prop):z9s [] σ K = K σ:=rfl
theorem giniV_cons (r j q z:Nat) (ty:TypeId) (l:List GIni) (σ:St) (K:St->Prop):z9s (⟨r,j,q,z,ty⟩ :: l) σ K = (q < 1000∧0 < z∧z9s l ⟨upd (σ.kill q).T (vt r j) (.vrs q 0 0 (.slice none 0 0)),upd (σ.kill q).H q (some ⟨z,ty,[],0⟩)⟩ K):=rfl
theorem runOps_clr (C:FuncId->List AV->AV->Prop) (z:Nat) (x:IOpd) (d:AV) (hid wr:List Nat) (l:List ROp) (σ:St) (K:St->Prop):z0d C (⟨.copy z x (.c d),none,none,hid,wr⟩ :: l) σ K = (clOk σ z d (σ.get x)∧z0d C l (clSt σ d (σ.get x)) K):=rfl
theorem runOps_stp (C:FuncId->List AV->AV->Prop) (z:Nat) (p x:IOpd) (hid wr:List Nat) (l:List ROp) (σ:St) (K:St->Prop):z0d C (⟨.storep z p x,none,none,hid,wr⟩ :: l) σ K = (zn1 σ z (σ.get x) (σ.get p)∧ze0 fun u=>z0d C l (zf2 σ u (σ.get x) (σ.get p)) K):=rfl
end Go.Proofs.YtkfciapeikkmfaaDoor
end
