/-
  Part 9 of a proof: AmO, AmP, AmQ.
-/
import Derived.Test.YtlhblpbfhfhlpaaGreatDoorSB8
set_option linter.unusedVariables false
set_option linter.unusedSimpArgs false
section
namespace Go.Proofs.YtlhblpbfhfhlpaaGreatDoor
open Go.RowKit
inductive SameX:Exit->XK->Prop
 | normal:SameX .normal .normal
 | exit (id:Nat):SameX (.exit id) (.exit id)
 | ret:SameX .ret .ret
def Post (w0:Start) (Pr0:Nat->Nat->Prop) (n:Nat) (Q:XK->St->Prop):Exit->Act->World->Prop :=
 fun e a w=>∃ x μ σ,SameX e x∧Q x σ∧SR w0 Pr0 n μ σ a w
theorem zi8 {F:(XK->St->Prop)->St->Prop} (hF:∀ (Q Q':XK->St->Prop),(∀ e σ,Q e σ->Q' e σ)->∀ σ,F Q σ->F Q' σ) {Q Q':XK->St->Prop} (h:∀ e σ,Q e σ->Q' e σ):∀ n σ,iter F Q n σ->iter F Q' n σ
 | 0,_,h=>h.elim
 | n + 1,σ,hi=>by
  refine hF _ _ (fun e σ hq=>?_) σ hi
  cases e with
  | normal=>exact zi8 hF h n σ hq
  | exit id=>exact h _ _ hq
  | ret=>exact h _ _ hq
theorem z1u {σ:St} {dst:Option Nat} {K K':St->Prop} (h:∀ σ,K σ->K' σ) {io:IOp} (hE:z14 σ dst K io):z14 σ dst K' io:=by
 cases io with
 | store z p x =>
  simp only [z14] at hE ⊢
  split at hE
  ·split at hE
   ·split at hE
    ·split at hE
     ·obtain ⟨a1,a2,a3,a4,hK⟩:=hE
      exact ⟨a1,a2,a3,a4,h _ hK⟩
     ·exact hE.elim
    ·exact hE.elim
   ·exact hE.elim
  ·exact hE.elim
 | append z ty bytes x y =>
  simp only [z14] at hE ⊢
  split at hE
  ·split at hE
   ·obtain ⟨a0,a1,a2,a3,a4,a5,hK,hK2⟩:=hE
    exact ⟨a0,a1,a2,a3,a4,a5,h _ hK,fun q=>h _ (hK2 q)⟩
   ·exact hE.elim
  ·exact hE.elim
 | nileq neq x =>
  simp only [z14] at hE ⊢
  split at hE
  ·exact ⟨fun e=>h _ (hE.1 e),h _ hE.2⟩
  ·exact ⟨hE.1,fun e=>h _ (hE.2.1 e),h _ hE.2.2⟩
  ·exact hE.elim
 | copy z x y =>
  simp only [z14] at hE ⊢
  split at hE
  ·split at hE
   ·obtain ⟨a1,a2,a3,a4,a5,hK⟩:=hE
    exact ⟨a1,a2,a3,a4,a5,h _ hK⟩
   ·exact hE.elim
  ·exact hE.elim
 | storep z p x =>
  simp only [z14] at hE ⊢
  split at hE
  ·split at hE
   ·split at hE
    ·obtain ⟨a1,a2,a3,a4,hK⟩:=hE
     exact ⟨a1,a2,a3,a4,fun u hu=>h _ (hK u hu)⟩
    ·exact hE.elim
   ·exact hE.elim
  ·split at hE
   ·split at hE
    ·obtain ⟨a1,a2,a3,hK⟩:=hE
     exact ⟨a1,a2,a3,h _ hK⟩
    ·exact hE.elim
   ·exact hE.elim
  ·exact hE.elim
 | _=>exact hE.elim
theorem z3a {C:FuncId->List AV->AV->Prop} {dst:Nat} {hid:List Nat} {σ:St} {K K':AV->Option Arr->List Nat->Prop} (h:∀ v s f,K v s f->K' v s f) {io:IOp} (hE:z0x C dst hid σ K io):z0x C dst hid σ K' io:=by
 obtain ⟨v,s,fz,h1,_,h2⟩:=zam hE
 exact h2 σ K' (Alike.refl _ _ _) (h _ _ _ h1)
theorem z44 {σ:St} {g:Option (Nat × Bool)} {y y' n n':St->Prop} (hy:∀ σ,y σ->y' σ) (hn:∀ σ,n σ->n' σ) (h:z1g σ g y n):z1g σ g y' n':=by
 unfold z1g at h ⊢
 cases g with
 | none=>exact hy _ h
 | some g =>
  obtain ⟨t,w⟩:=g
  simp only at h ⊢
  split at h
  ·exact ⟨fun e=>hy _ (h.1 e),fun e=>hn _ (h.2 e)⟩
  ·exact hn _ h
  ·exact h.elim
theorem z18 {C:FuncId->List AV->AV->Prop} {K K':St->Prop} (h:∀ σ,K σ->K' σ):∀ {l:List ROp} {σ:St},z0f C l σ K->z0f C l σ K'
 | [],_,hE=>h _ hE
 | r :: l,σ,hE=>by
  simp only [z0f] at hE ⊢
  refine z44 (fun σ hs=>?_) (fun σ hs=>z18 h hs) hE
  unfold z6f at hs ⊢
  split at hs
  ·rename_i hm; rw [if_pos hm]; exact z1u (fun σ=>z18 h) hs
  ·rename_i hm
   rw [if_neg hm]
   cases hd:r.dst with
   | none=>rw [hd] at hs; exact hs.elim
   | some dst=>rw [hd] at hs; exact z3a (fun v s f hk=>⟨hk.1,z18 h hk.2⟩) hs
theorem zcn {F0 hid wr:List Nat} {σ:St} {K K':Nat->Arr->Prop} (h:∀ r a,K r a->K' r a) {io:IOp} (hE:zim F0 hid wr σ K io):zim F0 hid wr σ K' io:=by
 cases io with
 | store z p x =>
  simp only [zim] at hE ⊢
  split at hE
  ·obtain ⟨a1,a2,a3,hE⟩:=hE
   refine ⟨a1,a2,a3,?_⟩
   split at hE
   ·obtain ⟨a4,hE⟩:=hE
    refine ⟨a4,?_⟩
    split at hE
    ·split at hE
     ·exact ⟨hE.1,hE.2.1,hE.2.2.1,hE.2.2.2.1,h _ _ hE.2.2.2.2⟩
     ·exact hE.elim
    ·exact hE.elim
   ·exact hE.elim
  ·exact hE.elim
 | _=>exact hE.elim
theorem z0d {C:FuncId->List AV->AV->Prop} {F0:List Nat} {K K':St->Prop} (h:∀ σ,K σ->K' σ):∀ {l:List ROp} {σ:St},z0m C F0 l σ K->z0m C F0 l σ K'
 | [],_,hE=>h _ hE
 | r :: l,σ,hE=>by
  simp only [z0m] at hE ⊢
  refine z44 (fun σ hs=>?_) (fun σ hs=>?_) hE
  ·cases hd:r.dst with
   | none=>rw [hd] at hs; exact zcn (fun r a hk=>z0d h hk) hs
   | some dst=>rw [hd] at hs; exact z3a (fun v s f hk=>⟨hk.1,hk.2.1,z0d h hk.2.2⟩) hs
  ·cases hd:r.dst with
   | none=>rw [hd] at hs; exact z0d h hs
   | some dst=>rw [hd] at hs; exact z0d h hs
theorem zcm {P:Program} {C:FuncId->List AV->AV->Prop} {K K':St->Prop} (h:∀ σ,K σ->K' σ) {x:XOp} {σ:St} (hE:z1j P C x σ K):z1j P C x σ K':=by
 cases x with
 | op k r=>exact z18 h hE
 | nilck d x g =>
  simp only [z1j] at hE ⊢
  refine z44 (fun σ hs=>?_) (fun σ hs=>h _ hs) hE
  unfold zc7 at hs ⊢
  split at hs
  ·exact ⟨hs.1,h _ hs.2⟩
  ·exact h _ hs
  ·exact hs.elim
 | mkclo d f x =>
  simp only [z1j] at hE ⊢
  split at hE
  ·exact ⟨hE.1,h _ hE.2⟩
  ·exact hE.elim
 | mkmap d ty=>exact h _ hE
 | mlook d ok m k z g =>
  simp only [z1j] at hE ⊢
  refine z44 (fun σ hs=>?_) (fun σ hs=>h _ hs) hE
  unfold zca at hs ⊢
  split at hs
  ·exact h _ hs
  ·exact hs.elim
 | mupd m k x =>
  simp only [z1j] at hE ⊢
  unfold z9v at hE ⊢
  split at hE
  ·exact ⟨hE.1,hE.2.1,h _ hE.2.2⟩
  ·exact hE.elim
 | mcall d fx xs =>
  simp only [z1j] at hE ⊢
  split at hE
  ·split at hE
   ·obtain ⟨r,H',h1,h2⟩:=hE
    exact ⟨r,H',h1,h _ h2⟩
   ·obtain ⟨h0,r,H',h1,h2⟩:=hE
    exact ⟨h0,r,H',h1,h _ h2⟩
   ·exact hE.elim
  ·exact hE.elim
 | wcall d fx xs =>
  simp only [z1j] at hE ⊢
  split at hE
  ·split at hE
   ·obtain ⟨r,H',h1,h2⟩:=hE
    exact ⟨r,H',h1,h _ h2⟩
   ·exact hE.elim
  ·exact hE.elim
 | gcall d fx xs =>
  simp only [z1j] at hE ⊢
  split at hE
  ·split at hE
   ·obtain ⟨h0,S,res,R,h1,h2,h3⟩:=hE
    exact ⟨h0,S,res,R,h1,h2,fun S' hR=>h _ (h3 S' hR)⟩
   ·exact hE.elim
  ·exact hE.elim
theorem z3g {P:Program} {C:FuncId->List AV->AV->Prop} {K K':St->Prop} (h:∀ σ,K σ->K' σ):∀ {l:List XOp} {σ:St},z13 P C l σ K->z13 P C l σ K'
 | [],_,hE=>h _ hE
 | x :: l,σ,hE=>zcm (fun σ=>z3g h) hE
theorem zci {K K':St->Prop} (h:∀ σ,K σ->K' σ):∀ {l:List GIni} {σ:St},z6s l σ K->z6s l σ K'
 | [],σ,hE=>h _ hE
 | g :: l,σ,hE=>⟨hE.1,hE.2.1,zci h hE.2.2⟩
theorem z34 {C:FuncId->List AV->AV->Prop}:∀ (c:IR) {Q Q':XK->St->Prop},(∀ e σ,Q e σ->Q' e σ)->∀ σ,awp C c Q σ->awp C c Q' σ
 | .gini l,Q,Q',h,σ,hE=>zci (h .normal) hE
 | .skip,Q,Q',h,σ,hE=>h _ _ hE
 | .reg g,Q,Q',h,σ,hE=>by
  simp only [awp,z3h] at hE ⊢
  split at hE
  ·rename_i hd; rw [if_pos hd]; exact z0d (fun σ=>z18 (h .normal)) hE
  ·rename_i hd; rw [if_neg hd]; exact z18 (h .normal) hE
 | .regw g s,Q,Q',h,σ,hE=>by
  simp only [awp,z58] at hE ⊢
  split at hE
  ·refine ⟨hE.1,?_⟩
   have hE:=hE.2
   simp only [z3h] at hE ⊢
   split at hE
   ·rename_i hd; rw [if_pos hd]; exact z0d (fun σ=>z18 (h .normal)) hE
   ·rename_i hd; rw [if_neg hd]; exact z18 (h .normal) hE
  ·exact hE.elim
 | .regd P g l,Q,Q',h,σ,hE=>by
  simp only [awp,z6u] at hE ⊢
  exact z0d (fun σ=>z3g (h .normal)) hE
 | .regp P g z s0 tp tv l,Q,Q',h,σ,hE=>by
  simp only [awp,z6t] at hE ⊢
  refine z0d (fun σ hs=>?_) hE
  unfold zal at hs ⊢
  split at hs
  ·exact ⟨hs.1,hs.2.1,z1u (fun σ=>z3g (h .normal)) hs.2.2⟩
  ·exact hs.elim
 | .regm P g lt mo ko vo l,Q,Q',h,σ,hE=>by
  simp only [awp,z8g] at hE ⊢
  refine z0d (fun σ hs=>⟨hs.1,hs.2.1,?_⟩) hE
  have hs:=hs.2.2
  unfold z9v at hs ⊢
  split at hs
  ·exact ⟨hs.1,hs.2.1,z3g (h .normal) hs.2.2⟩
  ·exact hs.elim
 | .regx P l,Q,Q',h,σ,hE=>z3g (h .normal) hE
 | .seq x y,Q,Q',h,σ,hE=>by
  simp only [awp] at hE ⊢
  refine z34 x (fun e σ hq=>?_) σ hE
  cases e with
  | normal=>exact z34 y h σ hq
  | exit id=>exact h _ _ hq
  | ret=>exact h _ _ hq
 | .cond c x y,Q,Q',h,σ,hE=>by
  simp only [awp] at hE ⊢
  split at hE
  ·exact ⟨fun e=>z34 x h σ (hE.1 e),fun e=>z34 y h σ (hE.2 e)⟩
  ·exact hE.elim
 | .block id b,Q,Q',h,σ,hE=>by
  simp only [awp] at hE ⊢
  refine z34 b (fun e σ hq=>?_) σ hE
  cases e with
  | normal=>exact h _ _ hq
  | exit j =>
   simp only [z4g] at hq ⊢
   split at hq
   ·rename_i e; rw [if_pos e]; exact h _ _ hq
   ·rename_i e; rw [if_neg e]; exact h _ _ hq
  | ret=>exact h _ _ hq
 | .loop b,Q,Q',h,σ,hE=>by
  simp only [awp] at hE ⊢
  obtain ⟨k,hk⟩:=hE
  exact ⟨k,zi8 (fun Q Q' h'=>z34 b h') h k σ hk⟩
 | .exit id,Q,Q',h,σ,hE=>h _ _ hE
 | .ret,Q,Q',h,σ,hE=>h _ _ hE
section
variable {pv:Bool} {P:Program} {w0:Start} {Pr0:Nat->Nat->Prop} {n:Nat}
theorem z39 {a:Act} {w:World}:∀ {l:List GIni} {μ:Nat->Option Nat} {σ:St} {K:St->Prop},SR w0 Pr0 n μ σ a w->z6s l σ K->∃ μ' σ',K σ'∧SR w0 Pr0 n μ' σ' a w
 | [],μ,σ,K,h,hE=>⟨μ,σ,hE,h⟩
 | g :: l,μ,σ,K,h,hE=>by
  obtain ⟨h1,h2,hE⟩:=hE
  have hk:=h.kill g.q h1
  obtain ⟨hA,hμ⟩:=hk.adoptNil h1 (z03 _ _ _) (fun t e=>by
   have e:(if (σ.T t).name = some g.q then keepV σ.H (σ.T t) else σ.T t).name = some g.q:=e
   split at e
   ·rw [z38] at e; cases e
   ·rename_i hne; exact hne e) (z:=g.z) (ty:=g.ty) h2
  exact z39 (SR.ghost hA (t:=vt g.r g.j) (d:=.vrs g.q 0 0 (.slice none 0 0)) (fun v arr ha=>.inl ⟨hμ,rfl,rfl,rfl⟩)) hE
theorem z2j (hm:P.follows .mixedOrders = true) {hint:Nat->List Nat}:∀ (c:Code) {ir:IR},comp pv P n hint c = some ir->∀ {Q:XK->St->Prop} {μ:Nat->Option Nat} {σ:St} {a:Act} {w:World},SR w0 Pr0 n μ σ a w->awp (AFn P) ir Q σ->c.wp P (Post w0 Pr0 n Q) a w
 | .skip,ir,hc,Q,μ,σ,a,w,hS,hE=>by
  cases hc
  exact wp_skip ⟨.normal,μ,σ,.normal,hE,hS⟩
 | .region id ops draw,ir,hc,Q,μ,σ,a,w,hS,hE=>by
  simp only [comp] at hc
  split at hc
  ·rename_i hd
   split at hc
   case h_2=>cases hc; exact (show False from hE).elim
   rename_i l hl
   cases hc
   have hdraw:draw = false:=by
    cases draw with
    | false=>rfl
    | true=>simp at hd
   subst hdraw
   unfold zb1 at hE
   split at hE
   ·split at hE
    ·exact z7c hl hS hE (fun μ' σ' a' w' hk hS'=>⟨.normal,μ',σ',.normal,hk,hS'⟩)
    ·simp only [awp,z3j] at hE
     exact z7c hl hS hE (fun μ' σ' a' w' hk hS'=>let ⟨μ2,σ2,k1,k2⟩:=z39 hS' hk; ⟨.normal,μ2,σ2,.normal,k1,k2⟩)
   ·exact z7c hl hS hE (fun μ' σ' a' w' hk hS'=>⟨.normal,μ',σ',.normal,hk,hS'⟩)
  ·split at hc
   ·rename_i p hp
    cases hc
    unfold zb1 at hE
    split at hE
    ·split at hE
     ·exact z7d hm hp hS hE (fun μ' σ' a' w' hk hS'=>⟨.normal,μ',σ',.normal,hk,hS'⟩)
     ·simp only [awp,z3j] at hE
      exact z7d hm hp hS hE (fun μ' σ' a' w' hk hS'=>let ⟨μ2,σ2,k1,k2⟩:=z39 hS' hk; ⟨.normal,μ2,σ2,.normal,k1,k2⟩)
    ·exact z7d hm hp hS hE (fun μ' σ' a' w' hk hS'=>⟨.normal,μ',σ',.normal,hk,hS'⟩)
   split at hc
   ·rename_i g hg
    cases hc
    unfold zb1 at hE
    split at hE
    ·split at hE
     ·exact z4n hm hg hS hE (fun μ' σ' a' w' hk hS'=>⟨.normal,μ',σ',.normal,hk,hS'⟩)
     ·simp only [awp] at hE
      exact z4n hm hg hS hE (fun μ' σ' a' w' hk hS'=>let ⟨μ2,σ2,k1,k2⟩:=z39 hS' hk; ⟨.normal,μ2,σ2,.normal,k1,k2⟩)
    ·exact z4n hm hg hS hE (fun μ' σ' a' w' hk hS'=>⟨.normal,μ',σ',.normal,hk,hS'⟩)
   split at hc
   ·rename_i p hp
    cases hc
    unfold zb1 at hE
    split at hE
    ·split at hE
     ·exact z7f hm hp hS hE (fun μ' σ' a' w' hk hS'=>⟨.normal,μ',σ',.normal,hk,hS'⟩)
     ·simp only [awp,z3j] at hE
      exact z7f hm hp hS hE (fun μ' σ' a' w' hk hS'=>let ⟨μ2,σ2,k1,k2⟩:=z39 hS' hk; ⟨.normal,μ2,σ2,.normal,k1,k2⟩)
    ·exact z7f hm hp hS hE (fun μ' σ' a' w' hk hS'=>⟨.normal,μ',σ',.normal,hk,hS'⟩)
   ·split at hc
    case h_2=>cases hc; exact (show False from hE).elim
    rename_i p hp
    cases hc
    unfold zb1 at hE
    split at hE
    ·split at hE
     ·exact z7e hm hp hS hE (fun μ' σ' a' w' hk hS'=>⟨.normal,μ',σ',.normal,hk,hS'⟩)
     ·simp only [awp,z3j] at hE
      exact z7e hm hp hS hE (fun μ' σ' a' w' hk hS'=>let ⟨μ2,σ2,k1,k2⟩:=z39 hS' hk; ⟨.normal,μ2,σ2,.normal,k1,k2⟩)
    ·exact z7e hm hp hS hE (fun μ' σ' a' w' hk hS'=>⟨.normal,μ',σ',.normal,hk,hS'⟩)
 | .seq x y,ir,hc,Q,μ,σ,a,w,hS,hE=>by
  simp only [comp] at hc
  split at hc
  ·rename_i ix iy hx hy
   cases hc
   refine wp_seq (wp_mono (z2j hm x hx hS hE) ?_)
   rintro e a' w' ⟨k,μ',σ',hs,hq,hS'⟩
   cases hs with
   | normal=>exact z2j hm y hy hS' hq
   | exit id=>exact ⟨_,μ',σ',.exit id,hq,hS'⟩
   | ret=>exact ⟨_,μ',σ',.ret,hq,hS'⟩
  ·cases hc
 | .cond c x y,ir,hc,Q,μ,σ,a,w,hS,hE=>by
  simp only [comp] at hc
  split at hc
  ·rename_i ic ix iy h1 hx hy
   cases hc
   simp only [awp] at hE
   have tc:=hS.get h1
   split at hE
   ·rename_i b e
    rw [e] at tc
    cases b with
    | true=>exact wp_cond_true tc.bool (z2j hm x hx hS (hE.1 rfl))
    | false=>exact wp_cond_false tc.bool (z2j hm y hy hS (hE.2 rfl))
   ·exact hE.elim
  ·cases hc
 | .block id b,ir,hc,Q,μ,σ,a,w,hS,hE=>by
  simp only [comp,Option.map_eq_some_iff] at hc
  obtain ⟨ib,hb,rfl⟩:=hc
  refine wp_block (wp_mono (z2j hm b hb hS hE) ?_)
  rintro e a' w' ⟨k,μ',σ',hs,hq,hS'⟩
  cases hs with
  | normal=>exact ⟨_,μ',σ',.normal,hq,hS'⟩
  | exit j =>
   simp only [z4g] at hq
   by_cases e:j = id
   ·subst e
    rw [if_pos rfl] at hq
    simp only [Exit.inBlock,if_true]
    exact ⟨_,μ',σ',.normal,hq,hS'⟩
   ·rw [if_neg e] at hq
    simp only [Exit.inBlock,if_neg e]
    exact ⟨_,μ',σ',.exit j,hq,hS'⟩
  | ret=>exact ⟨_,μ',σ',.ret,hq,hS'⟩
 | .loop b,ir,hc,Q,μ,σ,a,w,hS,hE=>by
  simp only [comp,Option.map_eq_some_iff] at hc
  obtain ⟨ib,hb,rfl⟩:=hc
  simp only [awp] at hE
  obtain ⟨k,hk⟩:=hE
  refine wp_loop_rounds k ?_
  have key:∀ (k:Nat) {μ:Nat->Option Nat} {σ:St} {a:Act} {w:World},SR w0 Pr0 n μ σ a w->iter (awp (AFn P) ib) Q k σ->Code.rounds P b (Post w0 Pr0 n Q) k a w:=by
   intro k
   induction k with
   | zero=>intro μ σ a w _ h; exact h.elim
   | succ k ih =>
    intro μ σ a w hS hi
    rw [rounds_succ]
    refine wp_mono (z2j hm b hb hS hi) ?_
    rintro e a' w' ⟨x,μ',σ',hs,hq,hS'⟩
    cases hs with
    | normal=>exact ih hS' hq
    | exit j=>exact ⟨_,μ',σ',.exit j,hq,hS'⟩
    | ret=>exact ⟨_,μ',σ',.ret,hq,hS'⟩
  exact key k hS hk
 | .exit id,ir,hc,Q,μ,σ,a,w,hS,hE=>by
  cases hc
  exact wp_exit ⟨_,μ,σ,.exit id,hE,hS⟩
 | .ret,ir,hc,Q,μ,σ,a,w,hS,hE=>by
  cases hc
  exact wp_ret ⟨_,μ,σ,.ret,hE,hS⟩
 | .rangeFunc ..,ir,hc,Q,μ,σ,a,w,hS,hE=>by cases hc
 | .scope ..,ir,hc,Q,μ,σ,a,w,hS,hE=>by cases hc
 | .label ..,ir,hc,Q,μ,σ,a,w,hS,hE=>by cases hc
 | .goto ..,ir,hc,Q,μ,σ,a,w,hS,hE=>by cases hc
 | .refuse ..,ir,hc,Q,μ,σ,a,w,hS,hE=>by cases hc
end
inductive RDesc where
 | tmp (t:Nat)
 | cell (p z:Nat) (agg:Bool)
def z1f (P:Program):List ResultVar->Option (List RDesc)
 | []=>some []
 | .tmp t :: l=>(z1f P l).map (.tmp t :: ·)
 | .cell p t :: l=>match tyOf P t,z1f P l with
  | some (z,agg),some l=>if agg || z == 1 then some (.cell p z agg :: l) else none
  | _,_=>none
def resV (σ:St) (d:RDesc) (K:AV->List Nat->Prop):Prop :=
 match d with
 | .tmp t=>match σ.byval [] (σ.T t) with
  | some (v,fz)=>K v fz
  | none=>False
 | .cell p z agg=>z05 [] σ K (.load z agg (.t p))
def resVs (σ:St):List RDesc->(List AV->List Nat->Prop)->Prop
 | [],K=>K [] []
 | d :: l,K=>resV σ d fun v f=>resVs σ l fun vs fs=>K (v :: vs) (f ++ fs)
def retV (ds:List RDesc) (r:AV) (σ:St):Prop :=
 match ds with
 | [.tmp t]=>(match r with
  | .own z ty l=>(match σ.T t with
   | .rs x 0 len=>(match σ.H x with
    | some arr=>arr.prot = 0∧arr.z = z∧arr.ty = ty∧len = arr.cells.length∧l = arr.cells
    | none=>False)
   | _=>False)
  | .mv es=>(match σ.T t with
   | .mp x es'=>(σ.H x).isSome = true∧es' = es
   | .mv es'=>es' = es
   | _=>False)
  | r=>resV σ (.tmp t) fun v _=>r = v)
 | [d]=>(match r with
  | .own ..=>False
  | r=>resV σ d fun v _=>r = v)
 | ds=>resVs σ ds fun vs _=>r = .tup vs
def z0h (args:List AV):St:=⟨fun t=>args.getD t .und,fun _=>none⟩
def endQ (ds:List RDesc) (r:AV):XK->St->Prop
 | .ret,σ=>retV ds r σ
 | .normal,σ=>retV ds r σ
 | .exit _,_=>False
structure FnIR (P:Program) (f:FuncId) where
 n:Nat
 body:IR
 res:List RDesc
structure FnIR.Ok (P:Program) (f:FuncId) (F:FnIR P f):Prop where
 ok:z1p P f = true
 body:∃ pv fn c hint,P.funcs[f]? = some fn∧fn.body = some c∧fn.ntmps = F.n∧comp pv P F.n hint c = some F.body∧z1f P fn.results.toList = some F.res
section
variable {pv:Bool} {P:Program} {w0:Start} {Pr0:Nat->Nat->Prop} {n:Nat} {μ:Nat->Option Nat} {σ:St} {a:Act} {w:World}
theorem frozenKept (h:SR w0 Pr0 n μ σ a w) {σ':St} {f:List Nat} (hf:∀ s arr,σ.H s = some arr->∃ arr',σ'.H s = some arr'∧Frozen arr arr'∧(s ∈ f->arr'.prot = arr.cells.length)):Kept (PrOf w0 Pr0 μ σ.H) (PrOf w0 Pr0 μ σ'.H) w w:=by
 refine ⟨Nat.le_refl _,fun b o _ hp=>⟨hp.1,fun s hs=>?_⟩,fun _ _ _ _=>rfl,fun _ _ _ _ _ h=>h⟩
 obtain ⟨arr,q1,q2⟩:=hp.2 s hs
 obtain ⟨arr',p1,p2,_⟩:=hf s arr q1
 refine ⟨arr',p1,?_⟩
 rw [p2.z]
 rcases p2.prot with e | e <;> rw [e]
 ·exact q2
 ·exact Nat.lt_of_lt_of_le q2 (Nat.mul_le_mul_right _ (h.obj s arr q1).2.1)
def z4m (tmps:Array Value):ResultVar->Sem Value
 | .tmp t=>pure (tmps.getD t undef)
 | .cell p t=>do loadVar t (← asAddr (tmps.getD p undef))
theorem zbp {rv:ResultVar} {d:RDesc} (hd:∃ l,z1f P [rv] = some (d :: l)) (h:SR w0 Pr0 n μ σ a w) {K:AV->List Nat->Prop} (hE:resV σ d K) :
  ∃ v fz u,K v fz∧(z4m a.tmps rv).run P w = .ok u w∧∀ σ',SR w0 Pr0 n μ σ' a w->(∀ s arr,σ.H s = some arr->∃ arr',σ'.H s = some arr'∧Frozen arr arr'∧(s ∈ fz->arr'.prot = arr.cells.length))->VR (PrOf w0 Pr0 μ σ'.H) w v u:=by
 obtain ⟨l,hd⟩:=hd
 cases rv with
 | tmp t =>
  simp only [z1f,Option.map_some,Option.some.injEq,List.cons.injEq] at hd
  obtain ⟨rfl,_⟩:=hd
  simp only [resV] at hE
  split at hE
  ·rename_i v fz hbv
   exact ⟨v,fz,_,hE,rfl,fun σ' hS' hf=>h.byval hbv (h.tmp t) hS' hf⟩
  ·exact hE.elim
 | cell p t =>
  simp only [z1f] at hd
  split at hd
  ·rename_i z agg l' ht hl
   split at hd
   ·rename_i hz
    simp only [Option.some.injEq,List.cons.injEq] at hd
    obtain ⟨rfl,_⟩:=hd
    simp only [resV] at hE
    obtain ⟨v,u,ad,hK,had,hrun,hv⟩:=zi3 (P:=P) (x:=.tmp p) (ix:=.t p) ht hz rfl h hE
    have hev:a.eval (.tmp p) = a.tmps.getD p undef:=by simp [Act.eval,Array.getD_eq_getD_getElem?]
    rw [hev] at had hrun
    rw [had] at hrun
    refine ⟨v,[],u,hK,?_,fun σ' hS' hf=>hv.kept (frozenKept h hf)⟩
    simp only [z4m,Sem.run_bind,had,asAddr,Sem.run_pure,Result.andThen_ok]
    simpa [Instr.loadAt,Instr.sureAddr] using hrun
   ·cases hd
  ·cases hd
theorem z19 {rv:ResultVar} {l:List ResultVar} {ds:List RDesc} (h:z1f P (rv :: l) = some ds):∃ d ds',ds = d :: ds'∧z1f P [rv] = some [d]∧z1f P l = some ds':=by
 cases rv with
 | tmp t =>
  simp only [z1f,Option.map_eq_some_iff] at h
  obtain ⟨ds',h1,rfl⟩:=h
  exact ⟨_,ds',rfl,rfl,h1⟩
 | cell p t =>
  simp only [z1f] at h ⊢
  split at h
  ·rename_i z agg l' h1 h2
   split at h
   ·rename_i hz
    cases h
    refine ⟨.cell p z agg,l',rfl,?_,h2⟩
    rw [h1]; simp only; rw [if_pos hz]
   ·cases h
  ·cases h
theorem z9d (h:SR w0 Pr0 n μ σ a w):∀ {l:List ResultVar} {ds:List RDesc},z1f P l = some ds->∀ {K:List AV->List Nat->Prop},resVs σ ds K ->
  ∃ (vs:List AV) (fs:List Nat) (us:List Value),K vs fs∧vs.length = us.length∧l.length = us.length∧(∀ (j:Nat) (rv:ResultVar) (u:Value),l[j]? = some rv->us[j]? = some u->(z4m a.tmps rv).run P w = .ok u w) ∧
   ∀ σ',SR w0 Pr0 n μ σ' a w->(∀ s arr,σ.H s = some arr->∃ arr',σ'.H s = some arr'∧Frozen arr arr'∧(s ∈ fs->arr'.prot = arr.cells.length))->∀ (j:Nat) (v:AV) (u:Value),vs[j]? = some v->us[j]? = some u->VR (PrOf w0 Pr0 μ σ'.H) w v u
 | [],ds,hc,K,hE=>by
  cases hc
  exact ⟨[],[],[],hE,rfl,rfl,(fun j rv u hj=>by simp at hj),(fun σ' _ _ j v u hj=>by simp at hj)⟩
 | rv :: l,ds,hc,K,hE=>by
  obtain ⟨d,ds',rfl,h1,h2⟩:=z19 hc
  simp only [resVs] at hE
  obtain ⟨v,fz,u,hK,hrun,hv⟩:=zbp ⟨[],h1⟩ h hE
  obtain ⟨vs,fs,us,hK2,hl,hl2,hrun2,hvs⟩:=z9d h h2 hK
  refine ⟨v :: vs,fz ++ fs,u :: us,hK2,by simp [hl],by simp [hl2],fun j rv' u' hj hu=>?_,fun σ' hS' hf j v' u' hj hu=>?_⟩
  ·cases j with
   | zero=>cases hj; cases hu; exact hrun
   | succ j=>exact hrun2 j rv' u' (by simpa using hj) (by simpa using hu)
  ·cases j with
   | zero =>
    cases hj; cases hu
    exact hv σ' hS' (fun s arr hs=>let ⟨a',q1,q2,q3⟩:=hf s arr hs; ⟨a',q1,q2,fun hm=>q3 (List.mem_append.2 (.inl hm))⟩)
   | succ j=>exact hvs σ' hS' (fun s arr hs=>let ⟨a',q1,q2,q3⟩:=hf s arr hs; ⟨a',q1,q2,fun hm=>q3 (List.mem_append.2 (.inr hm))⟩) j v' u' (by simpa using hj) (by simpa using hu)
def z15:List Value->Value
 | [u]=>u
 | us=>.tuple us.toArray
theorem z25 {fn:Func} {rv:List ResultVar} {us:List Value} {tmps:Array Value} (hr:fn.results.toList = rv) (hlen:rv.length≤3) (hl:rv.length = us.length) (h:∀ (j:Nat) (r:ResultVar) (u:Value),rv[j]? = some r->us[j]? = some u->(z4m tmps r).run P w = .ok u w) :
  (results fn tmps).run P w = .ok (z15 us) w:=by
 have hres:fn.results = rv.toArray:=by apply Array.ext'; simpa using hr
 have e:results fn tmps = (do
   let vs ← fn.results.mapM (z4m tmps)
   pure (if h:vs.size = 1 then vs[0] else .tuple vs)):=rfl
 rw [e,hres]
 clear e hres hr
 match rv,us,hlen,hl,h with
 | [],[],_,_,h=>simp [z15]
 | [r1],[u1],_,_,h =>
  have h1:=h 0 r1 u1 rfl rfl
  simp [h1,z15]
 | [r1,r2],[u1,u2],_,_,h =>
  have h1:=h 0 r1 u1 rfl rfl
  have h2:=h 1 r2 u2 rfl rfl
  simp [h1,h2,z15]
 | [r1,r2,r3],[u1,u2,u3],_,_,h =>
  have h1:=h 0 r1 u1 rfl rfl
  have h2:=h 1 r2 u2 rfl rfl
  have h3:=h 2 r3 u3 rfl rfl
  simp [h1,h2,h3,z15]
theorem z6p (h:SR w0 Pr0 n μ σ a w):Kept (PrOf w0 Pr0 μ σ.H) (fun b o=>Pr0 b o∨w0.w.heap.size≤b) w w:=by
 refine ⟨Nat.le_refl _,fun b o _ hp=>?_,fun _ _ _ _=>rfl,fun _ _ _ _ _ h=>h⟩
 rcases Nat.lt_or_ge b w0.w.heap.size with h1 | h1
 ·exact .inl (hp.1 h1)
 ·exact .inr h1
theorem zgi {fn:Func} {ds:List RDesc} (hc:z1f P fn.results.toList = some ds) (hlen:fn.results.size≤3) (h:SR w0 Pr0 n μ σ a w) {r:AV} (hE:retV ds r σ) :
  ∃ v,(results fn a.tmps).run P w = .ok v w∧Below w0.w.heap.size w0.w w∧RR (fun b o=>Pr0 b o∨w0.w.heap.size≤b) w0.w.heap.size w r v:=by
 obtain ⟨rv,hrv⟩:∃ rv,fn.results.toList = rv:=⟨_,rfl⟩
 rw [hrv] at hc
 have hlen':rv.length≤3:=by rw [← hrv]; simpa using hlen
 -- one result,by itself
 have one:∀ {d:RDesc},ds = [d]->(∀ z ty l,r ≠ .own z ty l)->resV σ d (fun v _=>r = v)->∃ v,(results fn a.tmps).run P w = .ok v w∧Below w0.w.heap.size w0.w w∧RR (fun b o=>Pr0 b o∨w0.w.heap.size≤b) w0.w.heap.size w r v:=by
  intro d hd hno hE1
  clear hE
  subst hd
  match rv,hc with
  | [r1],hc =>
   obtain ⟨v,fz,u,hK,hrun,hv⟩:=zbp ⟨[],hc⟩ h hE1
   subst hK
   have hS':SR w0 Pr0 n μ (σ.fzs fz) a w:=SR.fzs h
   have hV:=(hv _ hS' z1x).kept (z6p hS')
   refine ⟨u,?_,h.below,?_⟩
   ·have:=z25 (P:=P) (w:=w) (us:=[u]) (tmps:=a.tmps) hrv (by simp) rfl (fun j r u' hj hu=>by
     cases j with
     | zero=>cases hj; cases hu; exact hrun
     | succ j=>simp at hj)
    simpa [z15] using this
   ·cases r with
    | own z ty l=>exact absurd rfl (hno z ty l)
    | _=>exact hV
  | [],hc=>cases hc
  | r1 :: r2 :: l,hc =>
   obtain ⟨d1,ds',e,_,h2⟩:=z19 hc
   obtain ⟨d2,ds2,e2,_,_⟩:=z19 h2
   subst e2; cases e
 unfold retV at hE
 split at hE
 ·rename_i t
  split at hE
  ·rename_i z ty l
   split at hE
   ·rename_i x len e
    split at hE
    ·rename_i arr ha
     obtain ⟨e1,e2,e3,e4,e5⟩:=hE
     subst e2; subst e3; subst e5; subst e4
     match rv,hc with
     | [r1],hc =>
      have hr1:r1 = .tmp t:=by
       cases r1 with
       | tmp t'=>simp only [z1f,Option.map_some,Option.some.injEq,List.cons.injEq,RDesc.tmp.injEq] at hc; rw [hc.1]
       | cell p t' =>
        simp only [z1f] at hc
        split at hc
        ·split at hc
         ·cases hc
         ·cases hc
        ·cases hc
      subst hr1
      have hres:=z25 (P:=P) (w:=w) (us:=[a.tmps.getD t undef]) (tmps:=a.tmps) hrv (by simp) rfl (fun j r u' hj hu=>by
       cases j with
       | zero=>cases hj; cases hu; rfl
       | succ j=>simp at hj)
      have ht:=h.tmp t
      rw [e] at ht
      obtain ⟨o1,o2,o3,o4⟩:=h.obj x arr ha
      refine ⟨a.tmps.getD t undef,by simpa [z15] using hres,h.below,o1,o3,?_⟩
      rcases ht arr ha with ⟨m1,m2,m3,m4⟩ | ⟨g,cap,cs,m1,m2,m3,m4,m5,m6,m7⟩
      ·exact .inl ⟨List.length_eq_zero_iff.1 m4,m2⟩
      ·rw [m1] at o4
       rcases o4 with ⟨_,ms,c,q⟩ | ⟨cs',f1,f2,f3⟩
       ·rw [m3] at q; cases q
       rw [m3] at f1; cases f1
       refine .inr ⟨g,cap,cs,m2.exact0 (Nat.zero_mul _),(h.range x g m1).1,m3,by rw [Nat.zero_add] at m4; exact m4,m6,m7,fun i d j c hi hj=>?_⟩
       obtain ⟨u,q1,q2⟩:=f3 i d j c hi hj
       refine ⟨u,q1,q2.kept ⟨Nat.le_refl _,fun b o hlt hp=>⟨?_,fun eb=>?_⟩,fun _ _ _ _=>rfl,fun _ _ _ _ _ h=>h⟩⟩
       ·exact (z6p h).pr b o hlt hp
       ·subst eb
        obtain ⟨ar,p1,p2⟩:=hp.2 x m1
        rw [ha] at p1; cases p1
        rw [e1,Nat.zero_mul] at p2; omega
     | [],hc=>cases hc
     | r1 :: r2 :: l,hc =>
      obtain ⟨d1,ds',e,_,h2⟩:=z19 hc
      obtain ⟨d2,ds2,e2,_,_⟩:=z19 h2
      subst e2; cases e
    ·exact hE.elim
   ·exact hE.elim
  ·rename_i es
   match rv,hc with
   | [r1],hc =>
    have hr1:r1 = .tmp t:=by
     cases r1 with
     | tmp t'=>simp only [z1f,Option.map_some,Option.some.injEq,List.cons.injEq,RDesc.tmp.injEq] at hc; rw [hc.1]
     | cell p t' =>
      simp only [z1f] at hc
      split at hc
      ·split at hc
       ·cases hc
       ·cases hc
      ·cases hc
    subst hr1
    have hres:=z25 (P:=P) (w:=w) (us:=[a.tmps.getD t undef]) (tmps:=a.tmps) hrv (by simp) rfl (fun j r u' hj hu=>by
     cases j with
     | zero=>cases hj; cases hu; rfl
     | succ j=>simp at hj)
    have ht:=h.tmp t
    refine ⟨a.tmps.getD t undef,by simpa [z15] using hres,h.below,?_⟩
    show VR _ w (.mv es) (a.tmps.getD t undef)
    split at hE
    ·rename_i x es' e
     obtain ⟨hs,rfl⟩:=hE
     rw [e] at ht
     obtain ⟨arr,ha⟩:=Option.isSome_iff_exists.1 hs
     obtain ⟨g,ms,c,q1,q2,q3,q4⟩:=ht arr ha
     rw [q2]
     exact .mv es' g ms c (h.range x g q1).2 (.inr (h.range x g q1).1) q3 q4.len q4.st q4.key (fun i e m h1 h2=>(q4.val i e m h1 h2).kept (z6p h))
    ·rename_i es' e
     subst hE
     rw [e] at ht
     have ht':VR (PrOf w0 Pr0 μ σ.H) w (.mv es') (a.tmps.getD t undef):=ht
     exact ht'.kept (z6p h)
    ·exact hE.elim
   | [],hc=>cases hc
   | r1 :: r2 :: l,hc =>
    obtain ⟨d1,ds',e,_,h2⟩:=z19 hc
    obtain ⟨d2,ds2,e2,_,_⟩:=z19 h2
    subst e2; cases e
  ·rename_i hno2 hno3
   exact one rfl (fun z ty l q=>hno2 z ty l q) hE
 ·rename_i d hnt
  split at hE
  ·exact hE.elim
  ·rename_i hno
   exact one rfl (fun z ty l q=>hno z ty l q) hE
 ·rename_i hn1 hn2
  obtain ⟨vs,fs,us,hK,hl1,hl2,hrun,hv⟩:=z9d h hc hE
  subst hK
  have hS':SR w0 Pr0 n μ (σ.fzs fs) a w:=SR.fzs h
  have hres:=z25 (P:=P) (w:=w) (us:=us) (tmps:=a.tmps) hrv hlen' hl2 hrun
  have hnot1:us.length ≠ 1:=by
   intro e
   rw [← hl2] at e
   match rv,hc,e with
   | [r1],hc,_ =>
    obtain ⟨d1,ds',e1,_,h2⟩:=z19 hc
    cases h2
    exact hn2 d1 e1
  have htup:z15 us = .tuple us.toArray:=by
   match us,hnot1 with
   | [],_=>rfl
   | _ :: _ :: _,_=>rfl
  rw [htup] at hres
  exact ⟨_,hres,h.below,.tup vs us hl1 fun j c v hc' hv'=>(hv _ hS' z1x j c v hc' hv').kept (z6p hS')⟩
theorem AFn.of_code (hm:P.follows .mixedOrders = true) {f:FuncId} {fn:Func} {c:Code} {ir:IR} {ds:List RDesc} {hint:Nat->List Nat} (hok:z1p P f = true) (hf:P.funcs[f]? = some fn) (hb:fn.body = some c) (hc:comp pv P fn.ntmps hint c = some ir)
  (hr:z1f P fn.results.toList = some ds) (hlen:fn.results.size≤3) {args:List AV} (hargs:args.length≤fn.ntmps) (hsm:fn.ntmps≤1000) {r:AV} (h:awp (AFn P) ir (endQ ds r) (z0h args)):AFn P f args r:=by
 refine ⟨hok,fun w Pr vs hG hPr hl hvs=>calls_of_wp hf hb ?_⟩
 have hS:SR ⟨w,fun _ _=>False⟩ Pr fn.ntmps (fun _=>none) (z0h args) { tmps:=vs.toArray ++ Array.replicate (fn.ntmps - vs.toArray.size) undef,defers:=[] } w:=by
  refine ⟨Below.refl _ _,(fun r r' g e=>by cases e),(fun r g e=>by cases e),(fun r g e=>by cases e),by simp; omega,fun t=>?_,(fun r arr e=>by cases e),rfl,hG,hsm,(fun d v hf=>hf.elim)⟩
  show TR _ _ _ _ (args.getD t .und) _
  cases ha:args[t]? with
  | none =>
   have:args.getD t .und = .und:=by rw [List.getD_eq_getElem?_getD,ha]; rfl
   rw [this]; trivial
  | some d =>
   have htl:=(List.getElem?_eq_some_iff.1 ha).1
   have hv:vs[t]? = some (vs[t]'(by omega)):=List.getElem?_eq_getElem _
   have e1:args.getD t .und = d:=by rw [List.getD_eq_getElem?_getD,ha]; rfl
   have e2:(vs.toArray ++ Array.replicate (fn.ntmps - vs.toArray.size) undef).getD t undef = vs[t]'(by omega):=by
    rw [Array.getD_eq_getD_getElem?,Array.getElem?_append_left (by simp; omega)]
    simp [hv]
   rw [e1,e2]
   exact TR.of_VR ((hvs t d _ ha hv).kept ⟨Nat.le_refl _,fun b o hlt hp=>⟨fun _=>hp,fun r e=>by cases e⟩,fun _ _ _ _=>rfl,fun _ _ _ _ _ h=>h⟩)
 refine wp_mono (z2j hm c hc hS h) ?_
 rintro e a' w' ⟨x,μ',σ',hs,hq,hS'⟩
 cases hs with
 | normal =>
  obtain ⟨v,h1,h2,h3⟩:=zgi hr hlen hS' hq
  exact ⟨hS'.defers,v,h1,v,rfl,h2,h3⟩
 | ret =>
  obtain ⟨v,h1,h2,h3⟩:=zgi hr hlen hS' hq
  exact ⟨hS'.defers,v,h1,v,rfl,h2,h3⟩
 | exit id=>exact hq.elim
def sh:AV->AV
 | .ptr r i f=>.ptr (r + 1000) i f
 | .rs r o l=>.rs (r + 1000) o l
 | .clom f r=>.clom f (r + 1000)
 | .mp r es=>.mp (r + 1000) es
 | .vrs r o l u=>.vrs (r + 1000) o l u
 | d=>d
def shH (H:Nat->Option Arr) (r:Nat):Option Arr:=if r < 1000 then none else H (r - 1000)
def initM (args:List AV) (H:Nat->Option Arr):St:=⟨fun t=>sh (args.getD t .und),shH H⟩
def retM (ds:List RDesc) (r:AV) (H':Nat->Option Arr) (σ:St):Prop :=
 match ds with
 | [d]=>resV σ d fun v fz=>r = v∧∀ q,(σ.fzs fz).H (q + 1000) = H' q
 | ds=>resVs σ ds fun vs fz=>r = .tup vs∧∀ q,(σ.fzs fz).H (q + 1000) = H' q
def endM (ds:List RDesc) (r:AV) (H':Nat->Option Arr):XK->St->Prop
 | .ret,σ=>retM ds r H' σ
 | .normal,σ=>retM ds r H' σ
 | .exit _,_=>False
def sr (f:Nat->Nat):AV->AV
 | .ptr r i g=>.ptr (f r) i g
 | .rs r o l=>.rs (f r) o l
 | .clom g r=>.clom g (f r)
 | .mp r es=>.mp (f r) es
 | .vrs r o l u=>.vrs (f r) o l u
 | d=>d
end
end Go.Proofs.YtlhblpbfhfhlpaaGreatDoor
end
section
namespace Go.Proofs.YtlhblpbfhfhlpaaGreatDoor
open Go.RowKit
theorem loop_inv {C:FuncId->List AV->AV->Prop} {b:IR} {Q:XK->St->Prop} (I:Nat->St->Prop) {σ:St} {k:Nat} (h0:I k σ)
  (hstep:∀ k σ,I k σ->awp C b (z3j (fun σ'=>∃ m,m < k∧I m σ') Q) σ):awp C (.loop b) Q σ:=by
 have mono:∀ (n m:Nat) (σ:St),n≤m->iter (awp C b) Q n σ->iter (awp C b) Q m σ:=by
  intro n
  induction n with
  | zero=>intro m σ _ h; exact h.elim
  | succ n ih =>
   intro m σ hm h
   cases m with
   | zero=>omega
   | succ m =>
    refine z34 b (fun e σ' hq=>?_) σ h
    cases e with
    | normal=>exact ih m σ' (by omega) hq
    | exit id=>exact hq
    | ret=>exact hq
 have key:∀ (k:Nat) (σ:St),I k σ->iter (awp C b) Q (k + 1) σ:=by
  intro k
  induction k using Nat.strongRecOn with
  | ind k ih =>
   intro σ hI
   refine z34 b (fun e σ' hq=>?_) σ (hstep k σ hI)
   cases e with
   | normal =>
    obtain ⟨m,hm,hI'⟩:=hq
    exact mono (m + 1) k σ' (by omega) (ih m hm σ' hI')
   | exit id=>exact hq
   | ret=>exact hq
 exact ⟨k + 1,key k σ h0⟩
def AV.isI:AV->Bool | .int ..=>true | _=>false
def AV.ik:AV->IntKind | .int k _=>k | _=>.i64
def AV.iv:AV->Int | .int _ n=>n | _=>0
def AV.isB:AV->Bool | .bool _=>true | _=>false
def AV.bv:AV->Bool | .bool b=>b | _=>false
def AV.isS:AV->Bool | .str _=>true | _=>false
def AV.sv:AV->ByteArray | .str s=>s | _=>⟨#[]⟩
def AV.isA:AV->Bool | .agg _=>true | _=>false
def AV.av:AV->List AV | .agg l=>l | _=>[]
def AV.isTu:AV->Bool | .tup _=>true | _=>false
def AV.tv:AV->List AV | .tup l=>l | _=>[]
def AV.isC:AV->Bool | .clo ..=>true | _=>false
def AV.cf:AV->FuncId | .clo f _ _=>f | _=>0
def AV.c1:AV->List AV | .clo _ l _=>l | _=>[]
def AV.c2:AV->List AV | .clo _ _ l=>l | _=>[]
def zr7 (op:BinOp) (b:Int):Prop:=match op with
 | .quo | .rem=>b ≠ 0
 | .shl | .shr=>False
 | _=>True
def andI (k:IntKind) (a b:Int):Int:=(BitVec.ofInt k.bits a &&& BitVec.ofInt k.bits b).toNat
def orI (k:IntKind) (a b:Int):Int:=(BitVec.ofInt k.bits a ||| BitVec.ofInt k.bits b).toNat
def xorI (k:IntKind) (a b:Int):Int:=(BitVec.ofInt k.bits a ^^^ BitVec.ofInt k.bits b).toNat
def andNotI (k:IntKind) (a b:Int):Int:=(BitVec.ofInt k.bits a &&& ~~~ BitVec.ofInt k.bits b).toNat
def binIV (op:BinOp) (k:IntKind) (a b:Int):AV:=match op with
 | .add=>.int k (k.wrap (a + b))
 | .sub=>.int k (k.wrap (a - b))
 | .mul=>.int k (k.wrap (a * b))
 | .quo=>.int k (k.wrap (a.tdiv b))
 | .rem=>.int k (a.tmod b)
 | .and=>.int k (k.wrap (andI k a b))
 | .or=>.int k (k.wrap (orI k a b))
 | .xor=>.int k (k.wrap (xorI k a b))
 | .andNot=>.int k (k.wrap (andNotI k a b))
 | .eql=>.bool (a == b)
 | .neq=>.bool (a != b)
 | .lss=>.bool (decide (a < b))
 | .leq=>.bool (decide (a≤b))
 | .gtr=>.bool (decide (a > b))
 | .geq=>.bool (decide (a ≥ b))
 | _=>.und
theorem binI_ok {op:BinOp} {k:IntKind} {a b:Int} {K:AV->Prop}:binI op k a b K = (zr7 op b∧K (binIV op k a b)):=by
 cases op <;> simp [binI,zr7,binIV,andI,orI,xorI,andNotI]
def zr6 (op:BinOp) (x y:ByteArray):Prop:=match op with
 | .add=>x.size + y.size≤9223372036854775807
 | .eql | .neq | .lss | .leq | .gtr | .geq=>True
 | _=>False
def binSV (op:BinOp) (x y:ByteArray):AV:=match op with
 | .add=>.str (x ++ y)
 | .eql=>.bool (x.toList == y.toList)
 | .neq=>.bool (!(x.toList == y.toList))
 | .lss=>.bool (Op.bytesLess x.toList y.toList)
 | .leq=>.bool (Op.bytesLess x.toList y.toList || x.toList == y.toList)
 | .gtr=>.bool (!(Op.bytesLess x.toList y.toList || x.toList == y.toList))
 | .geq=>.bool (!(Op.bytesLess x.toList y.toList))
 | _=>.und
theorem binS_ok {op:BinOp} {a b:ByteArray} {K:AV->Prop}:binS op a b K = (zr6 op a b∧K (binSV op a b)):=by
 cases op <;> simp [binS,zr6,binSV]
def z3i (agg:Bool) (z:Nat) (cs:List AV):Prop:=match agg with
 | true=>z≤cs.length
 | false=>0 < cs.length
def z30 (agg:Bool) (z:Nat) (cs:List AV):AV:=match agg with
 | true=>.agg (cs.take z)
 | false=>cs.headD .und
theorem z4y {agg:Bool} {z:Nat} {cs:List AV} {K:AV->Prop}:z2u agg z cs K = (z3i agg z cs∧K (z30 agg z cs)):=by
 cases agg
 ·cases cs <;> simp [z2u,z3i,z30]
 ·simp [z2u,z3i,z30]
def z08:Option Arr->List AV | some a=>a.cells | none=>[]
def objZ:Option Arr->Nat | some a=>a.z | none=>0
def z1o:Option Arr->Nat | some a=>a.prot | none=>0
def zkv (hid:List Nat) (σ:St):AV->Prop
 | .rp _=>True
 | .ptr r i _=>hid.contains r = false∧i < (z08 (σ.H r)).length
 | _=>False
def z1t (σ:St):AV->List AV
 | .rp cs=>cs
 | .ptr r i f=>((z08 (σ.H r)).getD i .und).cells.drop f
 | _=>[]
def zle (hid:List Nat) (σ:St):Bool->AV->Prop
 | false,.sl _=>True
 | false,.rs r _ _=>hid.contains r = false∧(σ.H r).isSome = true
 | true,.str _=>True
 | _,_=>False
def za4:AV->AV
 | .sl l=>.int .i64 l.length
 | .rs _ _ len=>.int .i64 len
 | .str s=>.int .i64 s.size
 | _=>.und
def faOk (hid:List Nat) (σ:St):AV->Prop
 | .rp _=>True
 | .ptr r _ _=>hid.contains r = false∧(σ.H r).isSome = true
 | _=>False
def faVal (off:Nat):AV->AV
 | .rp cs=>.rp (cs.drop off)
 | .ptr r i f=>.ptr r i (f + off)
 | _=>.und
def iaOk (hid:List Nat) (σ:St) (z:Nat) (n:Int):AV->Prop
 | .sl l=>(0≤n∧n < l.length)∧(l.getD n.toNat .und).cells.length = z
 | .rs r _ len=>hid.contains r = false∧(0≤n∧n < len)∧(σ.H r).isSome = true∧objZ (σ.H r) = z
 | _=>False
def iaVal (n:Int):AV->AV
 | .sl l=>.rp (l.getD n.toNat .und).cells
 | .rs r off _=>.ptr r (off + n.toNat) 0
 | _=>.und
def z4k:AV->Nat
 | .str s=>s.size
 | .sl l=>l.length
 | .rs _ _ len=>len
 | _=>0
def bdOk (σ:St):Option IOpd->Prop
 | none=>True
 | some x=>(σ.get x).isI = true∧0≤(σ.get x).iv
def z7q (σ:St) (d:Nat):Option IOpd->Nat
 | none=>d
 | some x=>(σ.get x).iv.toNat
def zgb (hid:List Nat) (σ:St) (z:Nat):Bool->AV->Prop
 | true,.str _=>z = 0
 | false,.sl l=>∀ d,d ∈ l->d.cells.length = z
 | false,.rs r _ _=>hid.contains r = false∧(σ.H r).isSome = true∧objZ (σ.H r) = z
 | true,.sl l=>0 < z∧∀ d,d ∈ l->d.cells.length = z
 | true,.rs r _ _=>0 < z∧hid.contains r = false∧(σ.H r).isSome = true∧objZ (σ.H r) = z
 | _,_=>False
def zkr (σ:St) (r off m h:Nat):Nat->AV
 | 0=>.rs r off h
 | 1=>.rs r (off + 1) (h - 1)
 | _ + 2=>.sl (((z08 (σ.H r)).drop (off + m)).take (h - m))
def zbg (σ:St) (lo:Nat) (m h:Nat):AV->AV
 | .str s=>.str (s.extract m h)
 | .sl l=>.sl ((l.take h).drop m)
 | .rs r off _=>zkr σ r off m h lo
 | _=>.und
def slcKV (m h:Nat):AV->AV
 | .str s=>.str (s.extract m h)
 | .sl l=>.sl ((l.take h).drop m)
 | .rs r off _=>.rs r (off + m) (h - m)
 | _=>.und
def slcFz (lo:Nat):AV->List Nat
 | .rs r _ _=>if 2≤lo then [r] else []
 | _=>[]
def byOk (hid:List Nat) (σ:St):AV->Prop
 | .rs r _ _=>hid.contains r = false∧(σ.H r).isSome = true
 | .ptr r i _=>hid.contains r = false∧i < (z08 (σ.H r)).length
 | .und=>False
 | .own ..=>False
 | .clom ..=>False
 | .mp ..=>False
 | .vrs ..=>False
 | _=>True
def z1k (σ:St):AV->AV
 | .rs r off len=>.sl (((z08 (σ.H r)).drop off).take len)
 | .ptr r i f=>.rp (((z08 (σ.H r)).getD i .und).cells.drop f)
 | v=>v
def byFz:AV->List Nat
 | .rs r _ _=>[r]
 | .ptr r _ _=>[r]
 | _=>[]
theorem z3p {hid:List Nat} {σ:St} {v:AV}:(byOk hid σ v->σ.byval hid v = some (z1k σ v,byFz v))∧(¬ byOk hid σ v->σ.byval hid v = none):=by
 cases v with
 | rs r off len =>
  simp only [byOk,St.byval,z1k,byFz]
  cases hc:hid.contains r with
  | true=>simp
  | false =>
   cases ha:σ.H r with
   | none=>simp
   | some arr=>simp [z08]
 | ptr r i f =>
  simp only [byOk,St.byval,z1k,byFz]
  cases hc:hid.contains r with
  | true=>simp
  | false =>
   cases ha:σ.H r with
   | none=>simp [z08]
   | some arr =>
    simp only [z08,true_and,Bool.false_eq_true,if_false]
    rcases Nat.lt_or_ge i arr.cells.length with h | h
    ·simp [h,List.getElem?_eq_getElem h]
    ·simp [show ¬ i < arr.cells.length by omega,List.getElem?_eq_none h]
 | _=>simp [byOk,St.byval,z1k,byFz]
def z4z (hid:List Nat) (σ:St):List AV->Prop
 | []=>True
 | v :: l=>byOk hid σ v∧z4z hid σ l
def z17 (σ:St):List AV->List AV
 | []=>[]
 | v :: l=>z1k σ v :: z17 σ l
def z5q:List AV->List Nat
 | []=>[]
 | v :: l=>byFz v ++ z5q l
theorem z1q {hid:List Nat} {σ:St}:∀ {l:List AV},(z4z hid σ l->σ.byvals hid l = some (z17 σ l,z5q l))∧(¬ z4z hid σ l->σ.byvals hid l = none)
 | []=>by simp [z4z,St.byvals,z17,z5q]
 | v :: l=>by
  obtain ⟨h1,h2⟩:=z3p (hid:=hid) (σ:=σ) (v:=v)
  obtain ⟨h3,h4⟩:=z1q (hid:=hid) (σ:=σ) (l:=l)
  simp only [z4z,St.byvals,z17,z5q]
  by_cases a:byOk hid σ v
  ·rw [h1 a]
   by_cases b:z4z hid σ l
   ·rw [h3 b]; simp [a,b]
   ·rw [h4 b]; simp [a,b]
  ·rw [h2 a]; simp [a]
def mxOk (y:AV):AV->Prop
 | .int _ _=>y.isI = true
 | .str _=>y.isS = true
 | _=>False
def mxVal (isMax:Bool) (y:AV):AV->AV
 | .int k a=>.int k (if isMax then (if y.iv > a then y.iv else a) else (if y.iv < a then y.iv else a))
 | .str a=>.str (if isMax then mxS a y.sv else mnS a y.sv)
 | _=>.und
def okBld (n:Nat):List Part->List AV->Prop
 | p :: ps,v :: vs=>v.cells.length = p.z∧p.off + p.z≤n∧okBld n ps vs
 | [],[]=>True
 | _,_=>False
def zg1:List AV->List Part->List AV->List AV
 | cs,p :: ps,v :: vs=>zg1 (cs.take p.off ++ v.cells ++ cs.drop (p.off + p.z)) ps vs
 | cs,_,_=>cs
theorem zqn:∀ {ps:List Part} {vs:List AV} {cs:List AV},okBld cs.length ps vs->zej cs ((ps.zip vs).map fun q=>(q.1.off,q.1.z,q.2)) = some (zg1 cs ps vs)
 | [],[],cs,_=>rfl
 | p :: ps,v :: vs,cs,h=>by
  obtain ⟨h1,h2,h3⟩:=h
  simp only [List.zip_cons_cons,List.map_cons,zej,zg1]
  rw [if_pos ⟨h1,h2⟩]
  refine zqn ?_
  have e:(cs.take p.off ++ v.cells ++ cs.drop (p.off + p.z)).length = cs.length:=by
   rw [List.length_append,List.length_append,List.length_take,List.length_drop,h1]; omega
  rw [e]; exact h3
 | [],_ :: _,cs,h=>h.elim
 | _ :: _,[],cs,h=>h.elim
def pvOk (σ:St) (t:Nat):AV->Prop
 | .cst u=>(match σ.T t with
  | .vrs _ _ _ u'=>u' = u
  | _=>True)
 | _=>True
def pvVal (σ:St) (t:Nat):AV->AV
 | .cst u=>(match σ.T t with
  | .vrs q off len _=>.rs q off len
  | _=>.cst u)
 | c=>c
theorem privV_ok {σ:St} {t:Nat} {c:AV} {K:AV->Prop} (h1:pvOk σ t c) (h2:K (pvVal σ t c)):zb5 σ t c K:=by
 unfold zb5
 split
 ·rename_i u
  simp only [pvOk,pvVal] at h1 h2
  split
  ·rename_i e
   rw [e] at h1 h2
   exact ⟨h1,h2⟩
  ·rename_i hne
   split at h2
   ·rename_i e; exact absurd e (hne _ _ _ _)
   ·exact h2
 ·rename_i hne
  cases c <;> first | exact h2 | exact absurd rfl (hne _)
def plOk (σ:St) (hid:List Nat):Nat->List AV->Prop
 | _,[]=>True
 | t,c :: l=>(match c with
  | .cst u=>(match σ.T t with
   | .vrs q _ _ u'=>u' = u∧hid.contains q = false∧(σ.H q).isSome = true
   | _=>True)
  | _=>True)∧plOk σ hid (t + 1) l
def plV (σ:St) (t:Nat):AV->AV
 | .cst u=>(match σ.T t with
  | .vrs q off len _=>.sl (((z08 (σ.H q)).drop off).take len)
  | _=>nilV u)
 | c=>c
def plF (σ:St) (t:Nat):AV->List Nat
 | .cst _=>(match σ.T t with
  | .vrs q _ _ _=>[q]
  | _=>[])
 | _=>[]
def plVal (σ:St):Nat->List AV->List AV
 | _,[]=>[]
 | t,c :: l=>plV σ t c :: plVal σ (t + 1) l
def plFz (σ:St):Nat->List AV->List Nat
 | _,[]=>[]
 | t,c :: l=>plF σ t c ++ plFz σ (t + 1) l
theorem z8b {σ:St} {hid:List Nat}:∀ {l:List AV} {t:Nat} {K:List AV->List Nat->Prop},plOk σ hid t l->K (plVal σ t l) (plFz σ t l)->z5l σ hid t l K
 | [],t,K,h1,h2=>h2
 | c :: l,t,K,h1,h2=>by
  obtain ⟨h1,h3⟩:=h1
  simp only [plVal,plFz] at h2
  unfold z5l
  split
  ·rename_i u
   simp only [plV,plF] at h1 h2
   split
   ·rename_i q off len u' e
    rw [e] at h1 h2
    obtain ⟨g1,g2,g3⟩:=h1
    refine ⟨g1,g2,?_⟩
    obtain ⟨arr,ha⟩:=Option.isSome_iff_exists.1 g3
    simp only [ha,z08] at h2
    simp only [ha]
    exact z8b h3 h2
   ·rename_i hne
    split at h2
    ·rename_i e; exact absurd e (hne _ _ _ _)
    ·exact z8b h3 (by simpa using h2)
  ·rename_i hne
   cases c <;> first | exact z8b h3 (by simpa [plV,plF] using h2) | exact absurd rfl (hne _)
def pRt:AV->Nat
 | .ptr r _ _=>r
 | _=>0
def pOf (σ:St):AV->Nat
 | .ptr r i f=>i * objZ (σ.H r) + f
 | _=>0
def isPtr:AV->Bool
 | .ptr ..=>true
 | _=>false
def lpOk (hid:List Nat) (σ:St) (z:Nat) (v:AV):Bool->Prop
 | true=>plOk σ hid (vt (pRt v) (pOf σ v)) ((z1t σ v).take z)
 | false=>pvOk σ (vt (pRt v) (pOf σ v)) ((z1t σ v).headD .und)
def lpVal (σ:St) (z:Nat) (v:AV):Bool->AV
 | true=>.agg (plVal σ (vt (pRt v) (pOf σ v)) ((z1t σ v).take z))
 | false=>pvVal σ (vt (pRt v) (pOf σ v)) ((z1t σ v).headD .und)
def lpFz (σ:St) (z:Nat) (v:AV):Bool->List Nat
 | true=>plFz σ (vt (pRt v) (pOf σ v)) ((z1t σ v).take z)
 | false=>[]
def okV (hid:List Nat) (σ:St):IOp->Prop
 | .mv x=>True
 | .mvs x=>(σ.get x).isS = true
 | .pick c x y=>(σ.get c).isB = true
 | .bin op x y=>if (σ.get x).isI then (σ.get y).isI = true∧(σ.get x).ik = (σ.get y).ik∧zr7 op (σ.get y).iv else (σ.get x).isS = true∧(σ.get y).isS = true∧zr6 op (σ.get x).sv (σ.get y).sv
 | .beq _ x y=>(σ.get x).isB = true∧(σ.get y).isB = true
 | .feq _ sh x y=>(σ.get x).isA = true∧(σ.get y).isA = true∧okF (σ.get x).av (σ.get y).av sh
 | .bld zero ps=>z4z hid σ (ps.map fun p=>σ.get p.x)∧okBld zero.length ps (z17 σ (ps.map fun p=>σ.get p.x))
 | .un .not x=>(σ.get x).isB = true
 | .un .neg x=>(σ.get x).isI = true
 | .ext i x=>(σ.get x).isTu = true∧i < (σ.get x).tv.length
 | .load z agg p=>zkv hid σ (σ.get p)∧z3i agg z (z1t σ (σ.get p))
 | .faddr _ p=>faOk hid σ (σ.get p)
 | .fld off z agg x=>(σ.get x).isA = true∧z3i agg z ((σ.get x).av.drop off)
 | .iaddr z x i=>(σ.get i).isI = true∧iaOk hid σ z (σ.get i).iv (σ.get x)
 | .idx x i=>(σ.get i).isI = true∧(σ.get x).isS = true∧0≤(σ.get i).iv∧(σ.get i).iv < (σ.get x).sv.size
 | .idxA len z agg x i=>(σ.get i).isI = true∧(σ.get x).isA = true∧(0≤(σ.get i).iv∧(σ.get i).iv < len)∧z3i agg z ((σ.get x).av.drop ((σ.get i).iv.toNat * z))
 | .slc str z x lo hi=>zgb hid σ z str (σ.get x)∧bdOk σ hi∧bdOk σ lo∧z7q σ (z4k (σ.get x)) hi≤z4k (σ.get x)∧z7q σ 0 lo≤z7q σ (z4k (σ.get x)) hi
 | .len str x=>zle hid σ str (σ.get x)
 | .mx _ x y=>mxOk (σ.get y) (σ.get x)
 | .conv _ x=>(σ.get x).isI = true
 | .mkfn _ first caps=>z4z hid σ (first.map σ.get)∧z4z hid σ (caps.map σ.get)
 | .loadp z agg p=>match σ.get p with
  | .rp cs=>z3i agg z cs
  | v=>isPtr v = true∧zkv hid σ v∧z3i agg z (z1t σ v)∧lpOk hid σ z v agg
 | _=>False
def valV (σ:St):IOp->AV
 | .mv x=>σ.get x
 | .mvs x=>σ.get x
 | .pick c x y=>if (σ.get c).bv then σ.get x else σ.get y
 | .bin op x y=>if (σ.get x).isI then binIV op (σ.get x).ik (σ.get x).iv (σ.get y).iv else binSV op (σ.get x).sv (σ.get y).sv
 | .beq neq x y=>.bool (if neq then !((σ.get x).bv == (σ.get y).bv) else (σ.get x).bv == (σ.get y).bv)
 | .feq neq sh x y=>.bool (if neq then !(valF (σ.get x).av (σ.get y).av sh) else valF (σ.get x).av (σ.get y).av sh)
 | .bld zero ps=>.agg (zg1 zero ps (z17 σ (ps.map fun p=>σ.get p.x)))
 | .un .not x=>.bool (!(σ.get x).bv)
 | .un .neg x=>.int (σ.get x).ik ((σ.get x).ik.wrap (0 - (σ.get x).iv))
 | .ext i x=>(σ.get x).tv.getD i .und
 | .load z agg p=>z30 agg z (z1t σ (σ.get p))
 | .faddr off p=>faVal off (σ.get p)
 | .fld off z agg x=>z30 agg z ((σ.get x).av.drop off)
 | .iaddr z x i=>iaVal (σ.get i).iv (σ.get x)
 | .idx x i=>.int .u8 ((σ.get x).sv.data.toList.getD (σ.get i).iv.toNat 0).toNat
 | .idxA len z agg x i=>z30 agg z ((σ.get x).av.drop ((σ.get i).iv.toNat * z))
 | .slc str z x lo hi=>if str then slcKV (z7q σ 0 lo) (z7q σ (z4k (σ.get x)) hi) (σ.get x) else zbg σ (loK lo) (z7q σ 0 lo) (z7q σ (z4k (σ.get x)) hi) (σ.get x)
 | .len _ x=>za4 (σ.get x)
 | .mx isMax x y=>mxVal isMax (σ.get y) (σ.get x)
 | .conv k x=>.int k (k.wrap (σ.get x).iv)
 | .mkfn f first caps=>.clo f (z17 σ (first.map σ.get)) (z17 σ (caps.map σ.get))
 | .loadp z agg p=>match σ.get p with
  | .rp cs=>z30 agg z cs
  | v=>lpVal σ z v agg
 | _=>.und
def fzV (σ:St):IOp->List Nat
 | .slc str _ x lo _=>if str then [] else slcFz (loK lo) (σ.get x)
 | .mkfn _ first caps=>z5q (first.map σ.get) ++ z5q (caps.map σ.get)
 | .loadp z agg p=>match σ.get p with
  | .rp _=>[]
  | v=>lpFz σ z v agg
 | .bld _ ps=>z5q (ps.map fun p=>σ.get p.x)
 | _=>[]
theorem z49 {σ:St} {x:Option IOpd} {d:Nat} {K:Nat->Prop}:z33 σ x d K = (bdOk σ x∧K (z7q σ d x)):=by
 cases x with
 | none=>simp [z33,bdOk,z7q]
 | some x =>
  simp only [z33,bdOk,z7q]
  cases hx:σ.get x <;> simp [AV.isI,AV.iv]
theorem zqo {hid:List Nat} {σ:St} {K:AV->List Nat->Prop} {io:IOp} (h:okV hid σ io∧K (valV σ io) (fzV σ io)):z05 hid σ K io:=by
 obtain ⟨h1,h2⟩:=h
 cases io with
 | mv x=>exact h2
 | mvs x =>
  simp only [okV,valV,fzV,z05] at *
  cases hx:σ.get x <;> simp_all [AV.isS]
 | pick c x y =>
  simp only [okV,valV,fzV,z05] at *
  cases hc:σ.get c <;> rw [hc] at h1 h2 <;> simp [AV.isB] at h1
  rename_i b
  cases b <;> simpa [AV.bv] using h2
 | bin op x y =>
  simp only [okV,valV,fzV,z05] at *
  cases hx:σ.get x <;> rw [hx] at h1 h2 <;> simp [AV.isI,AV.isS] at h1
  ·cases hy:σ.get y <;> rw [hy] at h1 h2 <;> simp [AV.isI] at h1
   simp only [binI_ok]
   exact ⟨by simpa [AV.ik] using h1.1,by simpa [AV.iv] using h1.2,by simpa [AV.isI,AV.ik,AV.iv] using h2⟩
  ·cases hy:σ.get y <;> rw [hy] at h1 h2 <;> simp [AV.isS] at h1
   simp only [binS_ok]
   exact ⟨by simpa [AV.sv] using h1,by simpa [AV.isI,AV.sv] using h2⟩
 | beq neq x y =>
  simp only [okV,valV,fzV,z05] at *
  cases hx:σ.get x <;> rw [hx] at h1 h2 <;> simp [AV.isB] at h1
  cases hy:σ.get y <;> rw [hy] at h1 h2 <;> simp [AV.isB] at h1
  exact h2
 | feq neq sh x y =>
  simp only [okV,valV,fzV,z05] at *
  cases hx:σ.get x <;> rw [hx] at h1 h2 <;> simp only [AV.isA,Bool.false_eq_true,false_and] at h1
  cases hy:σ.get y <;> rw [hy] at h1 h2 <;> simp only [AV.isA,Bool.false_eq_true,false_and,and_false] at h1
  exact ⟨h1.2.2,h2⟩
 | bld zero ps =>
  simp only [okV,valV,fzV,z05] at *
  rw [z1q.1 h1.1]
  simp only [zqn h1.2]
  exact h2
 | un op x =>
  cases op <;> simp only [okV,valV,fzV,z05] at *
  ·cases hx:σ.get x <;> rw [hx] at h1 h2 <;> simp [AV.isI] at h1
   exact h2
  ·cases hx:σ.get x <;> rw [hx] at h1 h2 <;> simp [AV.isB] at h1
   exact h2
 | ext i x =>
  simp only [okV,valV,fzV,z05] at *
  cases hx:σ.get x <;> rw [hx] at h1 h2 <;> simp [AV.isTu,AV.tv] at h1
  rename_i vs
  simp only [AV.tv] at h2
  rw [List.getD_eq_getElem?_getD,List.getElem?_eq_getElem h1] at h2
  simp only [List.getElem?_eq_getElem h1]
  exact h2
 | load z agg p =>
  simp only [okV,valV,fzV,z05] at *
  cases hp:σ.get p <;> rw [hp] at h1 h2 <;> simp only [zkv,z1t,false_and] at h1 h2 <;> try exact h1.elim
  ·simp only [z4y]; exact ⟨h1.2,h2⟩
  ·rename_i r i f
   obtain ⟨⟨g1,g2⟩,g3⟩:=h1
   refine ⟨g1,?_⟩
   cases ha:σ.H r with
   | none=>rw [ha] at g2; simp [z08] at g2
   | some arr =>
    rw [ha] at g2 g3 h2
    simp only [z08] at g2 g3 h2
    rw [List.getD_eq_getElem?_getD,List.getElem?_eq_getElem g2] at g3 h2
    simp only [List.getElem?_eq_getElem g2,z4y]
    exact ⟨g3,h2⟩
 | loadp z agg p =>
  simp only [okV,valV,fzV,z05] at *
  cases hp:σ.get p <;> rw [hp] at h1 h2 <;> simp only [isPtr,Bool.false_eq_true,false_and] at h1 h2
  case rp cs=>simp only [z4y]; exact ⟨h1,h2⟩
  rename_i r i f
  obtain ⟨-,h1,h3,h4⟩:=h1
  simp only [zkv] at h1
  obtain ⟨g1,g2⟩:=h1
  refine ⟨g1,?_⟩
  cases ha:σ.H r with
  | none=>rw [ha] at g2; simp [z08] at g2
  | some arr =>
   simp only [z1t,ha,z08,lpVal,lpFz,lpOk,pRt,pOf,objZ] at g2 h2 h3 h4
   simp only [ha,z08,List.getD_eq_getElem?_getD,List.getElem?_eq_getElem g2,Option.getD_some] at h2 h3 h4
   simp only [List.getElem?_eq_getElem g2]
   cases agg with
   | true =>
    rw [if_pos rfl]
    simp only [ha,z08,objZ,List.getD_eq_getElem?_getD,List.getElem?_eq_getElem g2,Option.getD_some] at h2 h4
    exact ⟨h3,z8b h4 h2⟩
   | false =>
    rw [if_neg (by simp)]
    simp only [ha,z08,objZ,List.getD_eq_getElem?_getD,List.getElem?_eq_getElem g2,Option.getD_some] at h2 h4
    simp only [z3i] at h3
    match hc:List.drop f (arr.cells[i]).cells,h3 with
    | c :: cs,_ =>
     rw [hc] at h2 h4
     exact privV_ok h4 h2
 | faddr off p =>
  simp only [okV,valV,fzV,z05] at *
  cases hp:σ.get p <;> rw [hp] at h1 h2 <;> simp only [faOk,faVal] at h1 h2 <;> try exact h1.elim
  ·exact h2
  ·rename_i r i f
   refine ⟨h1.1,?_⟩
   cases ha:σ.H r with
   | none=>rw [ha] at h1; cases h1.2
   | some arr=>exact h2
 | fld off z agg x =>
  simp only [okV,valV,fzV,z05] at *
  cases hx:σ.get x <;> rw [hx] at h1 h2 <;> simp only [AV.isA,AV.av,Bool.false_eq_true,false_and] at h1 h2
  simp only [z4y]
  exact ⟨h1.2,h2⟩
 | iaddr z x i =>
  simp only [okV,valV,fzV,z05] at *
  cases hi:σ.get i <;> rw [hi] at h1 h2 <;> simp only [AV.isI,AV.iv,Bool.false_eq_true,false_and] at h1 h2
  cases hx:σ.get x <;> rw [hx] at h1 h2 <;> simp only [iaOk,iaVal,and_false] at h1 h2
  ·exact ⟨h1.2.1,h1.2.2,h2⟩
  ·rename_i r off len
   obtain ⟨-,g1,g2,g3,g4⟩:=h1
   refine ⟨g1,g2,?_⟩
   cases ha:σ.H r with
   | none=>rw [ha] at g3; cases g3
   | some arr=>rw [ha] at g4; exact ⟨g4,h2⟩
 | idx x i =>
  simp only [okV,valV,fzV,z05] at *
  cases hi:σ.get i <;> rw [hi] at h1 h2 <;> simp only [AV.isI,AV.iv,Bool.false_eq_true,false_and] at h1 h2
  cases hx:σ.get x <;> rw [hx] at h1 h2 <;> simp only [AV.isS,AV.sv,Bool.false_eq_true,false_and,and_false] at h1 h2
  exact ⟨h1.2.2,h2⟩
 | idxA len z agg x i =>
  simp only [okV,valV,fzV,z05] at *
  cases hi:σ.get i <;> rw [hi] at h1 h2 <;> simp only [AV.isI,AV.iv,Bool.false_eq_true,false_and] at h1 h2
  cases hx:σ.get x <;> rw [hx] at h1 h2 <;> simp only [AV.isA,AV.av,Bool.false_eq_true,false_and,and_false] at h1 h2
  simp only [z4y]
  exact ⟨h1.2.2.1,h1.2.2.2,h2⟩
 | slc str z x lo hi =>
  cases str
  ·simp only [okV,valV,fzV,z05,Bool.false_eq_true,if_false] at *
   obtain ⟨g1,g2,g3,g4,g5⟩:=h1
   cases hx:σ.get x <;> rw [hx] at g1 g4 g5 h2 <;> simp only [zgb,z4k,zbg,slcFz] at g1 g4 g5 h2 <;> try exact g1.elim
   ·simp only [z49]
    exact ⟨g2,g4,g3,g5,g1,h2⟩
   ·rename_i r off len
    refine ⟨g1.1,?_⟩
    cases ha:σ.H r with
    | none=>rw [ha] at g1; cases g1.2.1
    | some arr =>
     rw [ha] at g1
     refine ⟨g1.2.2,?_⟩
     rw [z49]
     refine ⟨g2,g4,?_⟩
     unfold z5c
     have hk:loK lo = 0∨(loK lo = 1∧z7q σ 0 lo = 1)∨loK lo = 2:=by
      unfold loK
      split
      ·exact .inl rfl
      ·rename_i k1 n1
       split
       ·rename_i e1
        have:n1 = 1:=by simpa using e1
        subst this
        exact .inr (.inl ⟨rfl,rfl⟩)
       ·exact .inr (.inr rfl)
      ·exact .inr (.inr rfl)
     rcases hk with hk | ⟨hk,hb⟩ | hk
     ·rw [hk] at h2 ⊢
      simpa [zkr] using h2
     ·rw [hk] at h2 ⊢
      rw [hb] at g5
      exact ⟨g5,by simpa [zkr] using h2⟩
     ·rw [hk] at h2 ⊢
      simp only [z49]
      exact ⟨g3,g5,by simpa [zkr,z08,ha] using h2⟩
  ·simp only [okV,valV,fzV,z05,if_true] at *
   obtain ⟨g1,g2,g3,g4,g5⟩:=h1
   cases hx:σ.get x <;> rw [hx] at g1 g4 g5 h2 <;> simp only [zgb,z4k,slcKV] at g1 g4 g5 h2 <;> try exact g1.elim
   ·simp only [z49]
    exact ⟨g1,g2,g4,g3,g5,h2⟩
   ·simp only [z49]
    exact ⟨g1.1,g2,g4,g3,g5,g1.2,h2⟩
   ·rename_i r off len
    refine ⟨g1.1,g1.2.1,?_⟩
    cases ha:σ.H r with
    | none=>rw [ha] at g1; cases g1.2.2.1
    | some arr =>
     rw [ha] at g1
     refine ⟨g1.2.2.2,?_⟩
     rw [z49]
     refine ⟨g2,g4,?_⟩
     simp only [z49]
     exact ⟨g3,g5,h2⟩
 | len str x =>
  simp only [okV,valV,fzV,z05] at *
  cases str
  ·cases hx:σ.get x <;> rw [hx] at h1 h2 <;> simp only [zle,za4] at h1 h2 <;> try exact h1.elim
   ·exact h2
   ·rename_i r off len
    refine ⟨h1.1,?_⟩
    cases ha:σ.H r with
    | none=>rw [ha] at h1; cases h1.2
    | some arr=>exact h2
  ·cases hx:σ.get x <;> rw [hx] at h1 h2 <;> simp only [zle,za4] at h1 h2 <;> try exact h1.elim
   exact h2
 | mx b x y =>
  simp only [okV,valV,fzV,z05] at *
  cases hx:σ.get x <;> rw [hx] at h1 h2 <;> simp only [mxOk,Bool.false_eq_true] at h1
  ·cases hy:σ.get y <;> rw [hy] at h1 h2 <;> simp only [AV.isI,Bool.false_eq_true,and_false] at h1
   exact h2
  ·cases hy:σ.get y <;> rw [hy] at h1 h2 <;> simp only [AV.isS,Bool.false_eq_true,and_false] at h1
   exact h2
 | conv k x =>
  simp only [okV,valV,fzV,z05] at *
  cases hx:σ.get x <;> rw [hx] at h1 h2 <;> simp only [AV.isI,Bool.false_eq_true] at h1
  exact h2
 | mkfn f first caps =>
  simp only [okV,valV,fzV,z05] at *
  rw [z1q.1 h1.1,z1q.1 h1.2]
  exact h2
 | _=>exact h1.elim
end Go.Proofs.YtlhblpbfhfhlpaaGreatDoor
end
section
namespace Go.Proofs.YtlhblpbfhfhlpaaGreatDoor
open Go.RowKit
def zhr (z:Nat) (ty:TypeId) (d:AV):Option Arr:=some ⟨z,ty,[d],0⟩
def zj0 (z:Nat):List AV->Prop
 | []=>True
 | d :: l=>(d.cells.length = z∧d.cells.all AV.one = true)∧zj0 z l
theorem z7s {z:Nat}:∀ {l:List AV},zj0 z l->∀ d,d ∈ l->d.cells.length = z∧d.cells.all AV.one = true
 | d :: l,h,x,hx=>by
  rcases List.mem_cons.1 hx with e | e
  ·subst e; exact h.1
  ·exact z7s h.2 x e
def z82 (σ:St) (d:Nat) (fz:List Nat):AV->St
 | .own z ty l=>(σ.fzs fz).made d (.rs d 0 l.length) (some ⟨z,ty,l,0⟩)
 | r=>if r.flatB then σ.made d r none else (σ.fzs fz).made d r none
def z1w (hid:List Nat) (d:Nat):AV->Bool
 | .own ..=>!hid.contains d
 | r=>z12 hid r
def stOk (σ:St) (z:Nat) (v:AV):AV->Prop
 | .ptr r i f=>byOk [] σ v∧i < (z08 (σ.H r)).length∧(z1k σ v).cells.length = z∧f + z≤((z08 (σ.H r)).getD i .und).cells.length∧z1o ((σ.fzs (byFz v)).H r)≤i∧(z1k σ v).cells.all AV.one = true
 | _=>False
def stArr (σ:St) (z:Nat) (v:AV) (i f:Nat):Option Arr->Option Arr
 | some a=>some ⟨a.z,a.ty,a.cells.set i ((a.cells.getD i .und).patch f z (z1k σ v)),a.prot⟩
 | none=>none
def stSt (σ:St) (z:Nat) (v:AV):AV->St
 | .ptr r i f=>⟨σ.T,upd (σ.fzs (byFz v)).H r (stArr σ z v i f ((σ.fzs (byFz v)).H r))⟩
 | _=>σ
def stpOk (σ:St) (z:Nat):AV->AV->Prop
 | .rs q _ _,.ptr r i f=>z = 1∧i < (z08 (σ.H r)).length∧f + 1≤((z08 (σ.H r)).getD i .und).cells.length∧z1o (σ.H r)≤i∧(σ.H q).isSome = true
 | .sl _,.ptr r i f=>z = 1∧i < (z08 (σ.H r)).length∧f + 1≤((z08 (σ.H r)).getD i .und).cells.length∧z1o (σ.H r)≤i
 | _,_=>False
def zg8 (c:AV) (i f:Nat):Option Arr->Option Arr
 | some a=>some ⟨a.z,a.ty,a.cells.set i ((a.cells.getD i .und).patch f 1 c),a.prot⟩
 | none=>none
def zg7 (σ:St) (u:Value):AV->AV->St
 | .rs q off len,.ptr r i f=>⟨upd σ.T (vt r (i * objZ (σ.H r) + f)) (.vrs q off len u),upd σ.H r (zg8 (.cst u) i f (σ.H r))⟩
 | .sl l,.ptr r i f=>⟨σ.T,upd σ.H r (zg8 (.sl l) i f (σ.H r))⟩
 | _,_=>σ
def z7r (p:Value->Prop):Prop:=∀ u:Value,u.oneCell' = true->p u
theorem z7r.intro {p:Value->Prop} (h:∀ u:Value,u.oneCell' = true->p u):z7r p:=h
def clOk (σ:St) (z:Nat) (d:AV):AV->Prop
 | .rs r off len=>(σ.H r).isSome = true∧objZ (σ.H r) = z∧z1o (σ.H r)≤off∧d.cells.length = z∧d.cells.all AV.one = true
 | _=>False
def clArr (d:AV) (off len:Nat):Option Arr->Option Arr
 | some a=>some ⟨a.z,a.ty,a.cells.take off ++ List.replicate len d ++ a.cells.drop (off + len),a.prot⟩
 | none=>none
def clSt (σ:St) (d:AV):AV->St
 | .rs r off len=>⟨σ.T,upd σ.H r (clArr d off len (σ.H r))⟩
 | _=>σ
def zkh (F0 hid wr:List Nat) (σ:St) (z:Nat) (v:AV):AV->Prop
 | .ptr r i f=>wr.contains r = true∧hid.contains r = false∧F0.contains r = false∧byOk hid σ v∧(byFz v).all F0.contains = true∧i < (z08 (σ.H r)).length∧(z1k σ v).cells.length = z∧f + z≤((z08 (σ.H r)).getD i .und).cells.length∧z1o (σ.H r)≤i∧(z1k σ v).cells.all AV.one = true
 | _=>False
def zkg (σ:St) (z:Nat) (v:AV):AV->St
 | .ptr r i f=>⟨σ.T,upd σ.H r (stArr σ z v i f (σ.H r))⟩
 | _=>σ
def apOk (σ:St) (z ty bytes:Nat) (v:AV):AV->Prop
 | .rs r off len=>byOk [] σ v∧(∃ l,z1k σ v = .sl l∧(σ.H r).isSome = true∧objZ (σ.H r) = z∧(objTy (σ.H r) = ty)∧z1o ((σ.fzs (byFz v)).H r)≤off + len∧fitsV (len + l.length) bytes∧r < 1000∧∀ d,d ∈ l->d.cells.length = z∧d.cells.all AV.one = true)
 | _=>False
where objTy:Option Arr->Nat | some a=>a.ty | none=>0
def slOf:AV->List AV | .sl l=>l | _=>[]
def apArr (l:List AV) (len:Nat):Option Arr->Option Arr
 | some a=>some ⟨a.z,a.ty,a.cells.take len ++ l,a.prot⟩
 | none=>none
def apSt (σ:St) (d:Nat) (v:AV):AV->St
 | .rs r off len=>⟨upd (z6e σ.T r) d (.rs r off (len + (slOf (z1k σ v)).length)),upd (σ.fzs (byFz v)).H r (apArr (slOf (z1k σ v)) (off + len) ((σ.fzs (byFz v)).H r))⟩
 | _=>σ
def apTwo:AV->Prop
 | .rs _ 0 _=>False
 | .rs _ (_ + 1) _=>True
 | _=>False
def zr9 (l:List AV) (off len:Nat):Option Arr->Option Arr
 | some a=>some ⟨a.z,a.ty,(a.cells.drop off).take len ++ l,0⟩
 | none=>none
def apSt2 (σ:St) (d:Nat) (v:AV):AV->St
 | .rs r off len=>⟨upd (z6e σ.T r) d (.rs r 0 (len + (slOf (z1k σ v)).length)),upd (σ.fzs (byFz v)).H r (zr9 (slOf (z1k σ v)) off len ((σ.fzs (byFz v)).H r))⟩
 | _=>σ
def nilOk (σ:St):AV->Prop
 | .sl _=>True
 | .rs r _ _=>(σ.H r).isSome = true
 | _=>False
def zhv:AV->Prop
 | .sl l=>l.isEmpty = true
 | .rs _ _ len=>len = 0
 | _=>False
def zml (C:FuncId->List AV->AV->Prop) (f:FuncId) (args:List AV) (hid:List Nat) (d:Nat) (fz:List Nat) (σ:St) (R:St->(St->Prop)->Prop) (K:St->Prop):Prop :=
 ∃ r,C f args r∧z1w hid d r = true∧R (z82 σ d fz r) K
def z1y (C:FuncId->List AV->AV->Prop) (R:St->(St->Prop)->Prop) (K:St->Prop) (σ:St) (d:Nat) (hid:List Nat):IOp->Prop
 | .alloc z ty zero=>zero.cells.length = z∧0 < z∧zero.cells.all AV.one = true∧hid.contains d = false∧R (σ.made d (.ptr d 0 0) (zhr z ty zero)) K
 | .box z ty x=>byOk hid σ (σ.get x)∧(z1k σ (σ.get x)).cells.length = z∧0 < z∧(z1k σ (σ.get x)).cells.all AV.one = true∧hid.contains d = false∧R ((σ.fzs (byFz (σ.get x))).made d (.ptr d 0 0) (zhr z ty (z1k σ (σ.get x)))) K
 | .mknil z ty=>0 < z∧hid.contains d = false∧R (σ.made d (.rs d 0 0) (some ⟨z,ty,[],0⟩)) K
 | .bsl z ty xs=>z4z hid σ (xs.map σ.get)∧0 < z∧zj0 z (z17 σ (xs.map σ.get))∧hid.contains d = false∧R ((σ.fzs (z5q (xs.map σ.get))).made d (.rs d 0 (z17 σ (xs.map σ.get)).length) (some ⟨z,ty,z17 σ (xs.map σ.get),0⟩)) K
 | .callv fx xs=>(σ.get fx).isC = true∧z4z hid σ (xs.map σ.get)∧zml C (σ.get fx).cf ((σ.get fx).c1 ++ z17 σ (xs.map σ.get) ++ (σ.get fx).c2) hid d (z5q (xs.map σ.get)) σ R K
 | .call p xs=>z4z hid σ (xs.map σ.get)∧z3u p (z17 σ (xs.map σ.get))∧z1w hid d (z1n p (z17 σ (xs.map σ.get))) = true∧R (z82 σ d (z5q (xs.map σ.get)) (z1n p (z17 σ (xs.map σ.get)))) K
 | .append z ty bytes x y=>apOk σ z ty bytes (σ.get y) (σ.get x)∧R (apSt σ d (σ.get y) (σ.get x)) K∧(apTwo (σ.get x)->R (apSt2 σ d (σ.get y) (σ.get x)) K)
 | .nileq neq x=>nilOk σ (σ.get x)∧(zhv (σ.get x)->R (σ.set d (.bool (!neq))) K)∧R (σ.set d (.bool neq)) K
 | io=>okV hid σ io∧z12 hid (valV σ io) = true∧R ((σ.fzs (fzV σ io)).made d (valV σ io) none) K
def gB:AV->Bool | .bool _=>true | .tup []=>true | _=>false
def gIs:Bool->AV->Bool | true,.bool b=>b | false,.bool b=>!b | _,_=>false
def z0a (C:FuncId->List AV->AV->Prop):List ROp->St->(St->Prop)->Prop
 | [],σ,K=>K σ
 | ⟨io,some d,none,hid,wr⟩ :: l,σ,K=>z1y C (z0a C l) K σ d hid io
 | ⟨io,none,none,_,_⟩ :: l,σ,K=>(match io with
  | .store z p x=>stOk σ z (σ.get x) (σ.get p)∧z0a C l (stSt σ z (σ.get x) (σ.get p)) K
  | .storep z p x=>stpOk σ z (σ.get x) (σ.get p)∧z7r fun u=>z0a C l (zg7 σ u (σ.get x) (σ.get p)) K
  | .copy z x (.c d)=>clOk σ z d (σ.get x)∧z0a C l (clSt σ d (σ.get x)) K
  | _=>False)
 | ⟨io,some d,some (t,w),hid,wr⟩ :: l,σ,K=>gB (σ.T t) = true∧(gIs w (σ.T t) = true->z1y C (z0a C l) K (σ.set t (.bool w)) d hid io) ∧
   (gIs w (σ.T t) = false->z0a C l ((if (σ.T t).isB then σ.set t (.bool (!w)) else σ).set d (.tup [])) K)
 | _ :: _,_,_=>False
theorem z57 {hid:List Nat} {d:Nat} (h:hid.contains d = false) {i f:Nat}:z12 hid (.ptr d i f) = true:=by simp only [z12,AV.name]; rw [h]; rfl
theorem z2o {hid:List Nat} {d:Nat} (h:hid.contains d = false) {i f:Nat}:z12 hid (.rs d i f) = true:=by simp only [z12,AV.name]; rw [h]; rfl
theorem runOp_M {C:FuncId->List AV->AV->Prop} {σ:St} {d:Nat} {hid:List Nat} {R:St->(St->Prop)->Prop} {K:St->Prop} {io:IOp} (hm:io.isMut = false) (h:z1y C R K σ d hid io):z0x C d hid σ (fun v s fz=>z12 hid v = true∧R ((σ.fzs fz).made d v s) K) io:=by
 cases io with
 | alloc z ty zero=>exact ⟨h.1,h.2.1,h.2.2.1,z57 h.2.2.2.1,h.2.2.2.2⟩
 | box z ty x =>
  simp only [z1y,z0x] at *
  rw [z3p.1 h.1]
  exact ⟨h.2.1,h.2.2.1,h.2.2.2.1,z57 h.2.2.2.2.1,h.2.2.2.2.2⟩
 | mknil z ty=>exact ⟨h.1,z2o h.2.1,h.2.2⟩
 | bsl z ty xs =>
  simp only [z1y,z0x] at *
  rw [z1q.1 h.1]
  exact ⟨h.2.1,z7s h.2.2.1,z2o h.2.2.2.1,h.2.2.2.2⟩
 | callv fx xs =>
  simp only [z1y,z0x,zml] at *
  obtain ⟨h1,h2,r,h3,h4,h5⟩:=h
  cases hf:σ.get fx <;> rw [hf] at h1 h3 <;> simp only [AV.isC,Bool.false_eq_true] at h1
  rw [z1q.1 h2]
  refine ⟨r,h3,?_⟩
  cases r with
  | own z ty l=>exact ⟨z2o (by simpa [z1w] using h4),h5⟩
  | _ =>
   simp only [z1e]
   simp only [z82] at h5
   simp only [z1w] at h4
   split
   ·rename_i hb; rw [if_pos hb] at h5; exact ⟨h4,h5⟩
   ·rename_i hb; rw [if_neg hb] at h5; exact ⟨h4,h5⟩
 | call p xs =>
  simp only [z1y,z0x] at *
  obtain ⟨h2,h3,h4,h5⟩:=h
  rw [z1q.1 h2]
  refine ⟨h3,?_⟩
  generalize z1n p (z17 σ (xs.map σ.get)) = r at h4 h5
  cases r with
  | own z ty l=>exact ⟨z2o (by simpa [z1w] using h4),h5⟩
  | _ =>
   simp only [z1e]
   simp only [z82] at h5
   simp only [z1w] at h4
   split
   ·rename_i hb; rw [if_pos hb] at h5; exact ⟨h4,h5⟩
   ·rename_i hb; rw [if_neg hb] at h5; exact ⟨h4,h5⟩
 | store z p x=>cases hm
 | append z ty b x y=>cases hm
 | nileq neq x=>cases hm
 | storep z p x=>cases hm
 | copy z x y=>cases hm
 | _=>exact zqo (K:=fun v fz=>z12 hid v = true∧R ((σ.fzs fz).made d v none) K) h
theorem zqj {σ:St} {fz:List Nat} {r:Nat} (h:(σ.H r).isSome = true):∃ arr arr',σ.H r = some arr∧(σ.fzs fz).H r = some arr'∧arr'.cells = arr.cells∧arr'.z = arr.z∧arr'.ty = arr.ty:=by
 obtain ⟨arr,ha⟩:=Option.isSome_iff_exists.1 h
 obtain ⟨a',q1,q2,_⟩:=z7j (l:=fz) ha
 exact ⟨arr,a',ha,q1,q2.cells,q2.z,q2.ty⟩
theorem run_store {σ:St} {K:St->Prop} {z:Nat} {p x:IOpd} (h:stOk σ z (σ.get x) (σ.get p)∧K (stSt σ z (σ.get x) (σ.get p))):z14 σ none K (.store z p x):=by
 obtain ⟨h1,h2⟩:=h
 simp only [z14]
 cases hp:σ.get p <;> rw [hp] at h1 h2 <;> simp only [stOk,stSt] at h1 h2
 rename_i r i f
 obtain ⟨g1,g2,g3,g4,g5,g6⟩:=h1
 rw [z3p.1 g1]
 have hs:(σ.H r).isSome = true:=by
  cases ha:σ.H r with
  | none=>rw [ha] at g2; simp [z08] at g2
  | some arr=>rfl
 obtain ⟨arr,arr',q1,q2,q3,q4,q5⟩:=zqj (fz:=byFz (σ.get x)) hs
 rw [q1] at g2 g4
 rw [q2] at g5 h2
 simp only [z08,z1o] at g2 g4 g5
 simp only [q2,q3]
 rw [List.getD_eq_getElem?_getD,List.getElem?_eq_getElem g2] at g4
 rw [List.getElem?_eq_getElem g2]
 refine ⟨g3,g4,g5,g6,?_⟩
 simp only [stArr,q3] at h2
 rw [List.getD_eq_getElem?_getD,List.getElem?_eq_getElem g2] at h2
 exact h2
theorem run_storep {σ:St} {K:St->Prop} {z:Nat} {p x:IOpd} (h:stpOk σ z (σ.get x) (σ.get p)∧z7r fun u=>K (zg7 σ u (σ.get x) (σ.get p))):z14 σ none K (.storep z p x):=by
 obtain ⟨h1,h2⟩:=h
 simp only [z14]
 cases hx:σ.get x <;> rw [hx] at h1 h2 <;> try exact h1.elim
 ·cases hp:σ.get p <;> rw [hp] at h1 h2 <;> try exact h1.elim
  rename_i l r i f
  obtain ⟨g1,g2,g3,g4⟩:=h1
  cases ha:σ.H r with
  | none=>rw [ha] at g2; simp [z08] at g2
  | some arr =>
   simp only [ha,z08,z1o] at g2 g3 g4
   rw [List.getD_eq_getElem?_getD,List.getElem?_eq_getElem g2] at g3
   simp only [ha,List.getElem?_eq_getElem g2]
   refine ⟨g1,g3,g4,?_⟩
   have:=h2 (.bool true) rfl
   simp only [zg7,zg8,ha,List.getD_eq_getElem?_getD,List.getElem?_eq_getElem g2,Option.getD_some] at this
   exact this
 ·cases hp:σ.get p <;> rw [hp] at h1 h2 <;> try exact h1.elim
  rename_i q off len r i f
  obtain ⟨g1,g2,g3,g4,g5⟩:=h1
  cases ha:σ.H r with
  | none=>rw [ha] at g2; simp [z08] at g2
  | some arr =>
   simp only [ha,z08,z1o] at g2 g3 g4
   rw [List.getD_eq_getElem?_getD,List.getElem?_eq_getElem g2] at g3
   simp only [ha,List.getElem?_eq_getElem g2]
   refine ⟨g1,g3,g4,g5,fun u hu=>?_⟩
   have:=h2 u hu
   simp only [zg7,zg8,objZ,ha,List.getD_eq_getElem?_getD,List.getElem?_eq_getElem g2,Option.getD_some] at this
   exact this
theorem run_clr {σ:St} {K:St->Prop} {z:Nat} {x:IOpd} {d:AV} (h:clOk σ z d (σ.get x)∧K (clSt σ d (σ.get x))):z14 σ none K (.copy z x (.c d)):=by
 obtain ⟨h1,h2⟩:=h
 simp only [z14]
 cases hx:σ.get x <;> rw [hx] at h1 h2 <;> simp only [clOk,clSt] at h1 h2
 rename_i r off len
 obtain ⟨g1,g2,g3,g4,g5⟩:=h1
 obtain ⟨arr,ha⟩:=Option.isSome_iff_exists.1 g1
 simp only [ha,objZ,z1o,clArr] at g2 g3 h2 ⊢
 exact ⟨g2,g3,g4,g5,trivial,h2⟩
theorem zbk {σ:St} {K:St->Prop} {z ty bytes d:Nat} {x y:IOpd} (h:apOk σ z ty bytes (σ.get y) (σ.get x)∧K (apSt σ d (σ.get y) (σ.get x))∧(apTwo (σ.get x)->K (apSt2 σ d (σ.get y) (σ.get x)))):z14 σ (some d) K (.append z ty bytes x y):=by
 obtain ⟨h1,h2,h3⟩:=h
 simp only [z14]
 cases hx:σ.get x <;> rw [hx] at h1 h2 h3 <;> simp only [apOk,apSt,apSt2] at h1 h2 h3
 rename_i r off len
 obtain ⟨g1,l,g2,g3,g4,g5,g6,g7,g9,g8⟩:=h1
 rw [z3p.1 g1,g2]
 obtain ⟨arr,arr',q1,q2,q3,q4,q5⟩:=zqj (fz:=byFz (σ.get y)) g3
 rw [q1] at g4 g5
 rw [q2] at g6 h2 h3
 simp only [objZ,apOk.objTy,z1o] at g4 g5 g6
 simp only [q2]
 refine ⟨g9,by rw [q4]; exact g4,by rw [q5]; exact g5,g6,g7,g8,?_,fun h0=>?_⟩
 ·simp only [apArr,g2,slOf] at h2
  exact h2
 ·simp only [zr9,g2,slOf] at h3
  refine h3 ?_
  cases off with
  | zero=>exact absurd rfl h0
  | succ n=>trivial
theorem zgd {σ:St} {K:St->Prop} {neq:Bool} {d:Nat} {x:IOpd} (h:nilOk σ (σ.get x)∧(zhv (σ.get x)->K (σ.set d (.bool (!neq))))∧K (σ.set d (.bool neq))):z14 σ (some d) K (.nileq neq x):=by
 obtain ⟨h1,h2,h3⟩:=h
 simp only [z14]
 cases hx:σ.get x <;> rw [hx] at h1 h2 <;> simp only [nilOk,zhv] at h1 h2
 ·exact ⟨h2,h3⟩
 ·exact ⟨h1,h2,h3⟩
theorem z8d {v:AV} (h:gB v = true):(∃ b,v = .bool b)∨v = .tup []:=by
 unfold gB at h
 split at h
 ·exact .inl ⟨_,rfl⟩
 ·exact .inr rfl
 ·cases h
theorem z11 {C:FuncId->List AV->AV->Prop}:∀ {l:List ROp} {σ:St} {K:St->Prop},z0a C l σ K->z0f C l σ K
 | [],σ,K,h=>h
 | ⟨io,some d,none,hid,wr⟩ :: l,σ,K,h=>by
  simp only [z0a] at h
  simp only [z0f,z1g,z6f]
  cases hm:io.isMut with
  | true =>
   rw [if_pos rfl]
   cases io <;> first
    | (cases hm; done)
    | (simp only [z1y,okV,false_and] at h; done)
    | (refine z1u (fun σ hk=>z11 hk) (zbk (K:=fun σ=>z0a C l σ K) h))
    | (refine z1u (fun σ hk=>z11 hk) (zgd (K:=fun σ=>z0a C l σ K) h))
  | false =>
   rw [if_neg (by simp)]
   exact z3a (fun v s fz hk=>⟨hk.1,z11 hk.2⟩) (runOp_M hm h)
 | ⟨io,none,none,hid,wr⟩ :: l,σ,K,h=>by
  cases io <;> simp only [z0a] at h <;> try exact h.elim
  ·simp only [z0f,z1g,z6f,IOp.isMut,if_true]
   exact z1u (fun σ hk=>z11 hk) (run_store (K:=fun σ=>z0a C l σ K) h)
  ·rename_i z x y
   cases y with
   | t k=>exact h.elim
   | c d =>
    simp only [z0f,z1g,z6f,IOp.isMut,if_true]
    exact z1u (fun σ hk=>z11 hk) (run_clr (K:=fun σ=>z0a C l σ K) h)
  ·simp only [z0f,z1g,z6f,IOp.isMut,if_true]
   exact z1u (fun σ hk=>z11 hk) (run_storep (K:=fun σ=>z0a C l σ K) h)
 | ⟨io,some d,some (t,w),hid,wr⟩ :: l,σ,K,h=>by
  simp only [z0a] at h
  obtain ⟨h1,h2,h3⟩:=h
  simp only [z0f,z1g]
  rcases z8d h1 with ⟨b,e⟩ | e
  ·rw [e] at h2 h3
   rw [e]
   refine ⟨fun hb=>?_,fun hb=>?_⟩
   ·subst hb
    have h:=h2 (by cases b <;> rfl)
    simp only [z6f]
    cases hm:io.isMut with
    | true =>
     rw [if_pos rfl]
     cases io <;> first
      | (cases hm; done)
      | (simp only [z1y,okV,false_and] at h; done)
      | (refine z1u (fun σ hk=>z11 hk) (zbk (K:=fun σ=>z0a C l σ K) h))
      | (refine z1u (fun σ hk=>z11 hk) (zgd (K:=fun σ=>z0a C l σ K) h))
    | false =>
     rw [if_neg (by simp)]
     exact z3a (fun v s fz hk=>⟨hk.1,z11 hk.2⟩) (runOp_M hm h)
   ·subst hb
    have h:=h3 (by cases w <;> rfl)
    simp only [AV.isB,if_true] at h
    exact z11 h
  ·rw [e] at h3
   rw [e]
   have h:=h3 (by cases w <;> rfl)
   simp only [AV.isB,Bool.false_eq_true,if_false] at h
   exact z11 h
 | ⟨io,none,some g,hid,wr⟩ :: l,σ,K,h=>by simp only [z0a] at h
def zfw (C:FuncId->List AV->AV->Prop) (F0:List Nat) (f:FuncId) (args:List AV) (hid:List Nat) (d:Nat) (fz:List Nat) (σ:St) (R:St->(St->Prop)->Prop) (K:St->Prop):Prop :=
 ∃ r,C f args r∧z1w hid d r = true∧(r.flatB || fz.all F0.contains) = true∧R (z82 σ d [] r) K
def z0n (C:FuncId->List AV->AV->Prop) (F0:List Nat) (R:St->(St->Prop)->Prop) (K:St->Prop) (σ:St) (d:Nat) (hid:List Nat):IOp->Prop
 | .alloc z ty zero=>zero.cells.length = z∧0 < z∧zero.cells.all AV.one = true∧hid.contains d = false∧R (σ.made d (.ptr d 0 0) (zhr z ty zero)) K
 | .box z ty x=>byOk hid σ (σ.get x)∧(byFz (σ.get x)).all F0.contains = true∧(z1k σ (σ.get x)).cells.length = z∧0 < z∧(z1k σ (σ.get x)).cells.all AV.one = true∧hid.contains d = false∧R (σ.made d (.ptr d 0 0) (zhr z ty (z1k σ (σ.get x)))) K
 | .mknil z ty=>0 < z∧hid.contains d = false∧R (σ.made d (.rs d 0 0) (some ⟨z,ty,[],0⟩)) K
 | .bsl z ty xs=>z4z hid σ (xs.map σ.get)∧(z5q (xs.map σ.get)).all F0.contains = true∧0 < z∧zj0 z (z17 σ (xs.map σ.get))∧hid.contains d = false∧R (σ.made d (.rs d 0 (z17 σ (xs.map σ.get)).length) (some ⟨z,ty,z17 σ (xs.map σ.get),0⟩)) K
 | .callv fx xs=>(σ.get fx).isC = true∧z4z hid σ (xs.map σ.get)∧zfw C F0 (σ.get fx).cf ((σ.get fx).c1 ++ z17 σ (xs.map σ.get) ++ (σ.get fx).c2) hid d (z5q (xs.map σ.get)) σ R K
 | .call p xs=>z4z hid σ (xs.map σ.get)∧z3u p (z17 σ (xs.map σ.get))∧z1w hid d (z1n p (z17 σ (xs.map σ.get))) = true∧((z1n p (z17 σ (xs.map σ.get))).flatB || (z5q (xs.map σ.get)).all F0.contains) = true∧R (z82 σ d [] (z1n p (z17 σ (xs.map σ.get)))) K
 | io=>okV hid σ io∧z12 hid (valV σ io) = true∧(fzV σ io).all F0.contains = true∧R (σ.made d (valV σ io) none) K
def z07 (C:FuncId->List AV->AV->Prop) (F0:List Nat) (tl:List ROp):List ROp->St->(St->Prop)->Prop
 | [],σ,K=>z0a C tl σ K
 | ⟨io,some d,none,hid,wr⟩ :: l,σ,K=>z0n C F0 (z07 C F0 tl l) K σ d hid io
 | ⟨io,some d,some (t,w),hid,wr⟩ :: l,σ,K=>gB (σ.T t) = true∧(gIs w (σ.T t) = true->z0n C F0 (z07 C F0 tl l) K (σ.set t (.bool w)) d hid io) ∧
   (gIs w (σ.T t) = false->z07 C F0 tl l ((if (σ.T t).isB then σ.set t (.bool (!w)) else σ).set d (.tup [])) K)
 | ⟨io,none,none,hid,wr⟩ :: l,σ,K=>(match io with
  | .store z p x=>zkh F0 hid wr σ z (σ.get x) (σ.get p)∧z07 C F0 tl l (zkg σ z (σ.get x) (σ.get p)) K
  | _=>False)
 | _ :: _,_,_=>False
theorem run_storeH {F0 hid wr:List Nat} {σ:St} {K:St->Prop} {z:Nat} {p x:IOpd} (h:zkh F0 hid wr σ z (σ.get x) (σ.get p)∧K (zkg σ z (σ.get x) (σ.get p))):zim F0 hid wr σ (fun r arr=>K ⟨σ.T,upd σ.H r (some arr)⟩) (.store z p x):=by
 obtain ⟨h1,h2⟩:=h
 simp only [zim]
 cases hp:σ.get p <;> rw [hp] at h1 h2 <;> simp only [zkh,zkg] at h1 h2
 rename_i r i f
 obtain ⟨a1,a2,a3,g1,a4,g2,g3,g4,g5,g6⟩:=h1
 refine ⟨a1,a2,a3,?_⟩
 rw [z3p.1 g1]
 refine ⟨a4,?_⟩
 cases ha:σ.H r with
 | none=>rw [ha] at g2; simp [z08] at g2
 | some arr =>
  rw [ha] at g2 g4 g5 h2
  simp only [z08,z1o] at g2 g4 g5
  simp only
  rw [List.getD_eq_getElem?_getD,List.getElem?_eq_getElem g2] at g4
  rw [List.getElem?_eq_getElem g2]
  refine ⟨g3,g4,g5,g6,?_⟩
  simp only [stArr] at h2
  rw [List.getD_eq_getElem?_getD,List.getElem?_eq_getElem g2] at h2
  exact h2
theorem zqi {C:FuncId->List AV->AV->Prop} {F0:List Nat} {R:St->(St->Prop)->Prop} {σ:St} {d:Nat} {hid:List Nat} {K:St->Prop} {io:IOp} (h:z0n C F0 R K σ d hid io):z0x C d hid σ (fun v s fz=>fz.all F0.contains = true∧z12 hid v = true∧R (σ.made d v s) K) io:=by
 cases io with
 | alloc z ty zero=>exact ⟨h.1,h.2.1,h.2.2.1,rfl,z57 h.2.2.2.1,h.2.2.2.2⟩
 | box z ty x =>
  simp only [z0n,z0x] at *
  rw [z3p.1 h.1]
  exact ⟨h.2.2.1,h.2.2.2.1,h.2.2.2.2.1,h.2.1,z57 h.2.2.2.2.2.1,h.2.2.2.2.2.2⟩
 | mknil z ty=>exact ⟨h.1,rfl,z2o h.2.1,h.2.2⟩
 | bsl z ty xs =>
  simp only [z0n,z0x] at *
  rw [z1q.1 h.1]
  exact ⟨h.2.2.1,z7s h.2.2.2.1,h.2.1,z2o h.2.2.2.2.1,h.2.2.2.2.2⟩
 | callv fx xs =>
  simp only [z0n,z0x,zfw] at *
  obtain ⟨h1,h2,r,h3,h4,h5,h6⟩:=h
  cases hf:σ.get fx <;> rw [hf] at h1 h3 <;> simp only [AV.isC,Bool.false_eq_true] at h1
  rw [z1q.1 h2]
  refine ⟨r,h3,?_⟩
  have hres:∀ b,(if b = true then σ.made d r none else (σ.fzs []).made d r none) = σ.made d r none:=fun b=>by cases b <;> rfl
  cases r with
  | own z ty l=>exact ⟨by simpa [AV.flatB] using h5,z2o (by simpa [z1w] using h4),h6⟩
  | _ =>
   simp only [z1e]
   simp only [z82,hres] at h6
   simp only [z1w] at h4
   split
   ·exact ⟨rfl,h4,h6⟩
   ·rename_i hb
    simp only [Bool.not_eq_true] at hb
    rw [hb,Bool.false_or] at h5
    exact ⟨h5,h4,h6⟩
 | call p xs =>
  simp only [z0n,z0x] at *
  obtain ⟨h2,h3,h4,h5,h6⟩:=h
  rw [z1q.1 h2]
  refine ⟨h3,?_⟩
  generalize z1n p (z17 σ (xs.map σ.get)) = r at h4 h5 h6
  have hres:∀ b,(if b = true then σ.made d r none else (σ.fzs []).made d r none) = σ.made d r none:=fun b=>by cases b <;> rfl
  cases r with
  | own z ty l=>exact ⟨by simpa [AV.flatB] using h5,z2o (by simpa [z1w] using h4),h6⟩
  | _ =>
   simp only [z1e]
   simp only [z82,hres] at h6
   simp only [z1w] at h4
   split
   ·exact ⟨rfl,h4,h6⟩
   ·rename_i hb
    simp only [Bool.not_eq_true] at hb
    rw [hb,Bool.false_or] at h5
    exact ⟨h5,h4,h6⟩
 | store z p x=>simp only [z0n,okV,false_and] at h
 | append z ty b x y=>simp only [z0n,okV,false_and] at h
 | nileq neq x=>simp only [z0n,okV,false_and] at h
 | storep z p x=>simp only [z0n,okV,false_and] at h
 | copy z x y=>simp only [z0n,okV,false_and] at h
 | _=>exact zqo (K:=fun v fz=>fz.all F0.contains = true∧z12 hid v = true∧R (σ.made d v none) K) ⟨h.1,h.2.2.1,h.2.1,h.2.2.2⟩
theorem z1s {C:FuncId->List AV->AV->Prop} {F0:List Nat} {tl:List ROp}:∀ {l:List ROp} {σ:St} {K:St->Prop},z07 C F0 tl l σ K->z0m C F0 l σ fun σ=>z0f C tl σ K
 | [],σ,K,h=>z11 h
 | ⟨io,some d,none,hid,wr⟩ :: l,σ,K,h=>by
  simp only [z07] at h
  simp only [z0m,z1g]
  exact z3a (fun v s fz hk=>⟨hk.1,hk.2.1,z1s hk.2.2⟩) (zqi h)
 | ⟨io,none,none,hid,wr⟩ :: l,σ,K,h=>by
  cases io <;> simp only [z07] at h <;> try exact h.elim
  simp only [z0m,z1g]
  exact zcn (fun r a hk=>z1s hk) (run_storeH (K:=fun σ=>z07 C F0 tl l σ K) h)
 | ⟨io,some d,some (t,w),hid,wr⟩ :: l,σ,K,h=>by
  simp only [z07] at h
  obtain ⟨h1,h2,h3⟩:=h
  simp only [z0m,z1g]
  rcases z8d h1 with ⟨b,e⟩ | e
  ·rw [e] at h2 h3
   rw [e]
   refine ⟨fun hb=>?_,fun hb=>?_⟩
   ·subst hb
    exact z3a (fun v s fz hk=>⟨hk.1,hk.2.1,z1s hk.2.2⟩) (zqi (h2 (by cases b <;> rfl)))
   ·subst hb
    have h:=h3 (by cases w <;> rfl)
    simp only [AV.isB,if_true] at h
    exact z1s h
  ·rw [e] at h3
   rw [e]
   have h:=h3 (by cases w <;> rfl)
   simp only [AV.isB,Bool.false_eq_true,if_false] at h
   exact z1s h
 | ⟨io,none,some g,hid,wr⟩ :: l,σ,K,h=>by simp only [z07] at h
def z1d (C:FuncId->List AV->AV->Prop) (g:Reg) (σ:St) (K:St->Prop):Prop :=
 match g.draw with
 | true=>z07 C (g.fzT.filterMap fun t=>((σ.kills g.kills).T t).name) g.tail g.head ((σ.kills g.kills).fzs (g.fzT.filterMap fun t=>((σ.kills g.kills).T t).name)) K
 | false=>z0a C g.tail (σ.kills g.kills) K
theorem zgh {C:FuncId->List AV->AV->Prop} {g:Reg} {σ:St} {K:St->Prop} (h:z1d C g σ K):z3h C g σ K:=by
 unfold z1d at h
 unfold z3h
 split at h
 ·rename_i e; rw [if_pos e]; exact z1s h
 ·rename_i e; rw [if_neg (by rw [e]; simp)]; exact z11 h
def ckOk (σ:St):AV->Prop
 | .ptr r _ _=>(σ.H r).isSome = true
 | .rp _=>True
 | _=>False
def cloOk (σ:St):AV->Prop
 | .ptr r 0 0=>(σ.H r).isSome = true
 | _=>False
def ptrAt:AV->Nat
 | .ptr r _ _=>r
 | _=>0
def mOk (σ:St):AV->Prop
 | .ptr _ _ _=>True
 | v=>byOk [] σ v
def mVal (σ:St):AV->AV
 | .ptr r i f=>.ptr r i f
 | v=>z1k σ v
def mFz:AV->List Nat
 | .ptr _ _ _=>[]
 | v=>byFz v
theorem mval_ok {σ:St} {v:AV} (h:mOk σ v):σ.mval v = some (mVal σ v,mFz v):=by
 cases v with
 | und=>exact h.elim
 | own z ty l=>exact h.elim
 | clom f r=>exact h.elim
 | mp r es=>exact h.elim
 | vrs r o l u=>exact h.elim
 | rs r o l =>
  have h':byOk [] σ (.rs r o l):=h
  exact z3p.1 h'
 | _=>rfl
def mOks (σ:St):List AV->Prop
 | []=>True
 | v :: l=>mOk σ v∧mOks σ l
def zlb (σ:St):List AV->List AV
 | []=>[]
 | v :: l=>mVal σ v :: zlb σ l
def mFzs:List AV->List Nat
 | []=>[]
 | v :: l=>mFz v ++ mFzs l
theorem zq5 {σ:St}:∀ {l:List AV},mOks σ l->σ.mvals l = some (zlb σ l,mFzs l)
 | [],_=>rfl
 | v :: l,h=>by
  simp only [St.mvals,mval_ok h.1,zq5 h.2,zlb,mFzs]
def zi2 (σ:St):AV->Prop
 | .clo _ [] []=>True
 | .clom _ q=>(σ.H q).isSome = true
 | _=>False
def mFn:AV->FuncId
 | .clo f _ _=>f
 | .clom f _=>f
 | _=>0
def mArgs (ds:List AV):AV->List AV
 | .clom _ q=>ds ++ [.ptr q 0 0]
 | _=>ds
def z8i (P:Program) (f:FuncId) (args:List AV) (T:Nat->AV) (H:Nat->Option Arr) (d:Nat) (R:St->(St->Prop)->Prop) (K:St->Prop):Prop:=∃ r H',MFn P f args H r H'∧R ⟨upd T d r,H'⟩ K
def zb7 (σ:St):AV->Prop
 | .mp r _=>(σ.H r).isSome = true
 | .mv _=>True
 | _=>False
def ents:AV->List (Int × AV)
 | .mp _ es=>es
 | .mv es=>es
 | _=>[]
def kI:AV->Bool
 | .int .i64 _=>true
 | _=>false
def mpOk (σ:St):AV->Prop
 | .mp r _=>r < 1000∧(σ.H r).isSome = true
 | _=>False
def mpR:AV->Nat
 | .mp r _=>r
 | _=>0
def remT (r:Nat) (es:List (Int × AV)) (T:Nat->AV):Nat->AV:=fun t=>remp r es (T t)
theorem kI_of {v:AV} (h:kI v = true):∃ q,v = .int .i64 q:=by
 cases v with
 | int k q=>cases k <;> first | exact ⟨q,rfl⟩ | cases h
 | _=>cases h
theorem entOk_of {σ:St} {v:AV} (h:zb7 σ v):zqp σ v = some (ents v):=by
 cases v with
 | mp r es=>exact if_pos h
 | mv es=>rfl
 | _=>exact h.elim
def wOk (σ:St):AV->Prop
 | .rs _ _ _=>True
 | v=>mOk σ v
def wVal (σ:St):AV->AV
 | .rs r off len=>.rs r off len
 | v=>mVal σ v
def wFz:AV->List Nat
 | .rs _ _ _=>[]
 | v=>mFz v
theorem wval_ok {σ:St} {v:AV} (h:wOk σ v):σ.wval v = some (wVal σ v,wFz v):=by
 cases v with
 | rs r off len=>rfl
 | _ =>
  simp only [wOk] at h
  simp only [St.wval,wVal,wFz]
  exact mval_ok h
def wOks (σ:St):List AV->Prop
 | []=>True
 | v :: l=>wOk σ v∧wOks σ l
def wVals (σ:St):List AV->List AV
 | []=>[]
 | v :: l=>wVal σ v :: wVals σ l
def wFzs:List AV->List Nat
 | []=>[]
 | v :: l=>wFz v ++ wFzs l
theorem zmm {σ:St}:∀ {l:List AV},wOks σ l->σ.wvals l = some (wVals σ l,wFzs l)
 | [],_=>rfl
 | v :: l,h=>by
  simp only [St.wvals,wval_ok h.1,zmm h.2,wVals,wFzs]
def wCalOk:AV->Prop
 | .clo _ [] []=>True
 | _=>False
def clR:AV->Nat
 | .clom _ r=>r
 | _=>0
def gCalOk:AV->Prop
 | .clom _ r=>r < 500∨r = 1000
 | _=>False
def GCalling (P:Program) (f:FuncId) (r:Nat) (ds:List AV) (d:Nat) (σ:St) (R:St->(St->Prop)->Prop) (K:St->Prop):Prop:=∃ S res Rl,GFn P f (ds ++ [.ptr 1000 0 0]) S res Rl∧gsIn σ.T σ.H r S∧∀ S',Rl S'->R ⟨upd (zcw σ r S').T d res,(zcw σ r S').H⟩ K
def runX (P:Program) (C:FuncId->List AV->AV->Prop):XOp->St->(St->Prop)->Prop
 | .op k r,σ,K=>z0a C [r] (σ.kills k) K
 | .nilck d x none,σ,K=>ckOk σ (σ.get x)∧K (σ.set d (σ.get x))
 | .nilck d x (some (t,w)),σ,K=>gB (σ.T t) = true∧(gIs w (σ.T t) = true->ckOk (σ.set t (.bool w)) ((σ.set t (.bool w)).get x)∧K ((σ.set t (.bool w)).set d ((σ.set t (.bool w)).get x))) ∧
   (gIs w (σ.T t) = false->K ((if (σ.T t).isB then σ.set t (.bool (!w)) else σ).set d (.tup [])))
 | .mkclo d f x,σ,K=>cloOk σ (σ.get x)∧K (σ.set d (.clom f (ptrAt (σ.get x))))
 | .mcall d fx xs,σ,K=>mOks σ (xs.map σ.get)∧zi2 (σ.fzs (mFzs (xs.map σ.get))) (σ.get fx)∧z8i P (mFn (σ.get fx)) (mArgs (zlb σ (xs.map σ.get)) (σ.get fx)) σ.T (σ.fzs (mFzs (xs.map σ.get))).H d (fun σ K=>K σ) K
 | .mkmap d ty,σ,K=>K ((σ.kill d).made d (.mp d []) (some ⟨1,ty,[],0⟩))
 | .mlook d ok m k z none,σ,K=>zb7 σ (σ.get m)∧kI (σ.get k) = true∧K (σ.set d (lkV ok z (lkp (ents (σ.get m)) (σ.get k).iv)))
 | .mlook d ok m k z (some (t,w)),σ,K=>gB (σ.T t) = true∧(gIs w (σ.T t) = true->zb7 (σ.set t (.bool w)) ((σ.set t (.bool w)).get m)∧kI ((σ.set t (.bool w)).get k) = true ∧
   K ((σ.set t (.bool w)).set d (lkV ok z (lkp (ents ((σ.set t (.bool w)).get m)) ((σ.set t (.bool w)).get k).iv))))∧(gIs w (σ.T t) = false->K ((if (σ.T t).isB then σ.set t (.bool (!w)) else σ).set d (.tup [])))
 | .mupd m k x,σ,K=>mpOk σ (σ.get m)∧kI (σ.get k) = true∧byOk [] σ (σ.get x)∧K ⟨remT (mpR (σ.get m)) (upk (ents (σ.get m)) (σ.get k).iv (z1k σ (σ.get x))) σ.T,(σ.fzs (byFz (σ.get x))).H⟩
 | .wcall d fx xs,σ,K=>wOks σ (xs.map σ.get)∧wCalOk (σ.get fx)∧z8i P (mFn (σ.get fx)) (wVals σ (xs.map σ.get)) σ.T (σ.fzs (wFzs (xs.map σ.get))).H d (fun σ K=>K σ) K
 | .gcall d fx xs,σ,K=>z4z [] σ (xs.map σ.get)∧gCalOk (σ.get fx)∧GCalling P (mFn (σ.get fx)) (clR (σ.get fx)) (z17 σ (xs.map σ.get)) d (σ.fzs (z5q (xs.map σ.get))) (fun σ K=>K σ) K
def z0q (P:Program) (C:FuncId->List AV->AV->Prop):List XOp->St->(St->Prop)->Prop
 | [],σ,K=>K σ
 | x :: l,σ,K=>runX P C x σ fun σ'=>z0q P C l σ' K
theorem runX_ok {P:Program} {C:FuncId->List AV->AV->Prop} {x:XOp} {σ:St} {K:St->Prop} (h:runX P C x σ K):z1j P C x σ K:=by
 cases x with
 | op k r=>exact z11 h
 | nilck d x g =>
  have key:∀ {σ:St},ckOk σ (σ.get x)∧K (σ.set d (σ.get x))->zc7 σ d x K:=by
   intro σ h
   unfold zc7
   cases hx:σ.get x <;> rw [hx] at h <;> simp only [ckOk,false_and,true_and] at h
   ·exact h
   ·exact h
  cases g with
  | none=>exact key h
  | some g =>
   obtain ⟨t,w⟩:=g
   simp only [runX] at h
   obtain ⟨h1,h2,h3⟩:=h
   simp only [z1j,z1g]
   rcases z8d h1 with ⟨b,e⟩ | e
   ·rw [e] at h2 h3
    rw [e]
    refine ⟨fun hb=>?_,fun hb=>?_⟩
    ·subst hb
     exact key (h2 (by cases b <;> rfl))
    ·subst hb
     have h:=h3 (by cases w <;> rfl)
     simp only [AV.isB,if_true] at h
     exact h
   ·rw [e] at h3
    rw [e]
    have h:=h3 (by cases w <;> rfl)
    simp only [AV.isB,Bool.false_eq_true,if_false] at h
    exact h
 | mkclo d f x =>
  simp only [runX] at h
  simp only [z1j]
  cases hx:σ.get x <;> rw [hx] at h <;> try exact h.1.elim
  rename_i r i f'
  cases i with
  | succ i=>exact h.1.elim
  | zero =>
   cases f' with
   | succ f'=>exact h.1.elim
   | zero=>exact h
 | mcall d fx xs =>
  simp only [runX] at h
  obtain ⟨h1,h2,r,H',h3,h4⟩:=h
  simp only [z1j]
  rw [zq5 h1]
  cases hf:σ.get fx <;> rw [hf] at h2 h3 <;> try exact h2.elim
  ·rename_i f first caps
   cases first with
   | cons a l=>exact h2.elim
   | nil =>
    cases caps with
    | cons a l=>exact h2.elim
    | nil=>exact ⟨r,H',h3,h4⟩
  ·exact ⟨h2,r,H',h3,h4⟩
 | mkmap d ty=>exact h
 | mlook d ok m k z g =>
  have key:∀ {σ:St},zb7 σ (σ.get m)∧kI (σ.get k) = true∧K (σ.set d (lkV ok z (lkp (ents (σ.get m)) (σ.get k).iv)))->zca σ d ok m k z K:=by
   intro σ h
   obtain ⟨h1,h2,h3⟩:=h
   unfold zca
   obtain ⟨q,hq⟩:=kI_of h2
   rw [entOk_of h1,hq]
   rw [hq] at h3
   exact h3
  cases g with
  | none=>exact key h
  | some g =>
   obtain ⟨t,w⟩:=g
   simp only [runX] at h
   obtain ⟨h1,h2,h3⟩:=h
   simp only [z1j,z1g]
   rcases z8d h1 with ⟨b,e⟩ | e
   ·rw [e] at h2 h3
    rw [e]
    refine ⟨fun hb=>?_,fun hb=>?_⟩
    ·subst hb
     exact key (h2 (by cases b <;> rfl))
    ·subst hb
     have h:=h3 (by cases w <;> rfl)
     simp only [AV.isB,if_true] at h
     exact h
   ·rw [e] at h3
    rw [e]
    have h:=h3 (by cases w <;> rfl)
    simp only [AV.isB,Bool.false_eq_true,if_false] at h
    exact h
 | mupd m k x =>
  simp only [runX] at h
  obtain ⟨h1,h2,h3,h4⟩:=h
  simp only [z1j]
  unfold z9v
  obtain ⟨q,hq⟩:=kI_of h2
  rw [z3p.1 h3,hq]
  rw [hq] at h4
  cases hm:σ.get m <;> rw [hm] at h1 h4 <;> try exact h1.elim
  exact ⟨h1.1,h1.2,h4⟩
 | wcall d fx xs =>
  simp only [runX] at h
  obtain ⟨h1,h2,r,H',h3,h4⟩:=h
  simp only [z1j]
  rw [zmm h1]
  cases hf:σ.get fx <;> rw [hf] at h2 h3 <;> try exact h2.elim
  rename_i f first caps
  cases first with
  | cons a l=>exact h2.elim
  | nil =>
   cases caps with
   | cons a l=>exact h2.elim
   | nil=>exact ⟨r,H',h3,h4⟩
 | gcall d fx xs =>
  simp only [runX] at h
  obtain ⟨h1,h2,S,res,Rl,h3,h4,h5⟩:=h
  simp only [z1j]
  rw [z1q.1 h1]
  cases hf:σ.get fx <;> rw [hf] at h2 h3 h4 h5 <;> try exact h2.elim
  exact ⟨h2,S,res,Rl,h3,h4,h5⟩
theorem z6k {P:Program} {C:FuncId->List AV->AV->Prop}:∀ {l:List XOp} {σ:St} {K:St->Prop},z0q P C l σ K->z13 P C l σ K
 | [],σ,K,h=>h
 | x :: l,σ,K,h=>zcm (fun σ=>z6k) (runX_ok h)
def isPtrR:AV->Nat->Prop
 | .ptr r _ _,s=>r = s
 | _,_=>False
def isRsR:AV->Nat->Prop
 | .rs r _ _,s=>r = s
 | _,_=>False
def nmB (v:AV):Bool:=v.name.isSome
def nmD (v:AV):Nat:=v.name.getD 0
def zko (C:FuncId->List AV->AV->Prop) (g:Reg) (s:Nat) (σ:St) (K:St->Prop):Prop :=
 nmB (σ.T s) = true∧1000≤nmD (σ.T s)∧z1d C (g.ren s (nmD (σ.T s))) σ K
theorem runRegW_ok {C:FuncId->List AV->AV->Prop} {g:Reg} {s:Nat} {σ:St} {K:St->Prop} (h:zko C g s σ K):z58 C g s σ K:=by
 unfold zko nmB nmD at h
 unfold z58
 cases hn:(σ.T s).name with
 | none=>rw [hn] at h; cases h.1
 | some q =>
  rw [hn] at h
  exact ⟨h.2.1,zgh h.2.2⟩
def zdu (P:Program) (C:FuncId->List AV->AV->Prop) (g:Reg) (l:List XOp) (σ:St) (K:St->Prop):Prop :=
 z07 C (g.fzT.filterMap fun t=>((σ.kills g.kills).T t).name) [] g.head ((σ.kills g.kills).fzs (g.fzT.filterMap fun t=>((σ.kills g.kills).T t).name)) fun σ=>z0q P C l σ K
theorem runRegD_ok {P:Program} {C:FuncId->List AV->AV->Prop} {g:Reg} {l:List XOp} {σ:St} {K:St->Prop} (h:zdu P C g l σ K):z6u P C g l σ K :=
 z0d (fun σ hk=>z6k (by simpa only [z0f] using hk)) (z1s h)
def stpSrc (tp tv s0:Nat) (σ:St):Prop:=isPtrR (σ.T tp) s0∧isRsR (σ.T tv) tv
def zkp (P:Program) (C:FuncId->List AV->AV->Prop) (g:Reg) (z s0 tp tv:Nat) (l:List XOp) (σ:St) (K:St->Prop):Prop :=
 z07 C [] [] g.head (σ.kills g.kills) fun σ=>stpSrc tp tv s0 σ∧z0q P C (.op [] ⟨.storep z (.t tp) (.t tv),none,none,[],[]⟩ :: l) σ K
theorem runRegP_ok {P:Program} {C:FuncId->List AV->AV->Prop} {g:Reg} {z s0 tp tv:Nat} {l:List XOp} {σ:St} {K:St->Prop} (h:zkp P C g z s0 tp tv l σ K):z6t P C g z s0 tp tv l σ K:=by
 refine z0d (fun σ hk=>?_) (z1s h)
 have hk:stpSrc tp tv s0 σ∧z0q P C (.op [] ⟨.storep z (.t tp) (.t tv),none,none,[],[]⟩ :: l) σ K:=by simpa only [z0f] using hk
 obtain ⟨⟨h1,h2⟩,hk⟩:=hk
 have hx:=z6k hk
 simp only [z13,z1j,z0f,z1g,z6f,IOp.isMut,if_true,St.kills] at hx
 unfold zal
 cases hp:σ.T tp <;> rw [hp] at h1 <;> try exact h1.elim
 cases hv:σ.T tv <;> rw [hv] at h2 <;> try exact h2.elim
 exact ⟨h1,h2,hx⟩
def zdt (P:Program) (C:FuncId->List AV->AV->Prop) (g:Reg) (lt:List Nat) (mo ko vo:IOpd) (l:List XOp) (σ:St) (K:St->Prop):Prop :=
 z07 C [] [] g.head σ fun σ=>z83 lt σ∧(σ.get vo).byFree = true∧z0q P C (.mupd mo ko vo :: l) σ K
theorem runRegM_ok {P:Program} {C:FuncId->List AV->AV->Prop} {g:Reg} {lt:List Nat} {mo ko vo:IOpd} {l:List XOp} {σ:St} {K:St->Prop} (h:zdt P C g lt mo ko vo l σ K):z8g P C g lt mo ko vo l σ K:=by
 refine z0d (fun σ hk=>?_) (z1s h)
 have hk:z83 lt σ∧(σ.get vo).byFree = true∧z0q P C (.mupd mo ko vo :: l) σ K:=by simpa only [z0f] using hk
 exact ⟨hk.1,hk.2.1,z6k hk.2.2⟩
def run (C:FuncId->List AV->AV->Prop):IR->(XK->St->Prop)->St->Prop
 | .gini l,Q,σ=>z6s l σ (Q .normal)
 | .skip,Q,σ=>Q .normal σ
 | .reg g,Q,σ=>z1d C g σ (Q .normal)
 | .regw g s,Q,σ=>zko C g s σ (Q .normal)
 | .regd P g l,Q,σ=>zdu P C g l σ (Q .normal)
 | .regp P g z s0 tp tv l,Q,σ=>zkp P C g z s0 tp tv l σ (Q .normal)
 | .regm P g lt mo ko vo l,Q,σ=>zdt P C g lt mo ko vo l σ (Q .normal)
 | .regx P l,Q,σ=>z0q P C l σ (Q .normal)
 | .seq x y,Q,σ=>run C x (z3j (run C y Q) Q) σ
 | .cond c x y,Q,σ=>(σ.get c).isB = true∧((σ.get c).bv = true->run C x Q σ)∧((σ.get c).bv = false->run C y Q σ)
 | .block id b,Q,σ=>run C b (z4g id Q) σ
 | .loop b,Q,σ=>awp C (.loop b) Q σ
 | .exit id,Q,σ=>Q (.exit id) σ
 | .ret,Q,σ=>Q .ret σ
theorem z0g {C:FuncId->List AV->AV->Prop}:∀ {c:IR} {Q:XK->St->Prop} {σ:St},run C c Q σ->awp C c Q σ
 | .gini l,Q,σ,h=>h
 | .skip,Q,σ,h=>h
 | .reg g,Q,σ,h=>zgh h
 | .regw g s,Q,σ,h=>runRegW_ok h
 | .regd P g l,Q,σ,h=>runRegD_ok h
 | .regp P g z s0 tp tv l,Q,σ,h=>runRegP_ok h
 | .regm P g lt mo ko vo l,Q,σ,h=>runRegM_ok h
 | .regx P l,Q,σ,h=>z6k h
 | .seq x y,Q,σ,h=>by
  simp only [run] at h
  simp only [awp]
  refine z34 x (fun e σ' hq=>?_) σ (z0g h)
  cases e with
  | normal=>exact z0g hq
  | exit id=>exact hq
  | ret=>exact hq
 | .cond c x y,Q,σ,h=>by
  simp only [run] at h
  simp only [awp]
  cases hc:σ.get c <;> rw [hc] at h <;> simp only [AV.isB,AV.bv,Bool.false_eq_true,false_and] at h
  exact ⟨fun e=>z0g (h.2.1 e),fun e=>z0g (h.2.2 e)⟩
 | .block id b,Q,σ,h=>z0g (c:=b) h
 | .loop b,Q,σ,h=>h
 | .exit id,Q,σ,h=>h
 | .ret,Q,σ,h=>h
theorem z0c {C:FuncId->List AV->AV->Prop} {b:IR} {Q:XK->St->Prop} (I:Nat->St->Prop) {σ:St} {k:Nat} (h0:I k σ)
  (hstep:∀ k σ,I k σ->run C b (z3j (fun σ'=>∃ m,m < k∧I m σ') Q) σ):awp C (.loop b) Q σ :=
 loop_inv I h0 fun k σ h=>z0g (hstep k σ h)
def AV.isSl:AV->Bool | .sl _=>true | _=>false
def zht:Option Arr->Nat | some a=>a.ty | none=>0
theorem apOk_rs (σ:St) (z ty bytes:Nat) (v:AV) (r off len:Nat):apOk σ z ty bytes v (.rs r off len) = (byOk [] σ v∧(z1k σ v).isSl = true∧(σ.H r).isSome = true∧objZ (σ.H r) = z∧zht (σ.H r) = ty∧z1o ((σ.fzs (byFz v)).H r)≤off + len∧fitsV (len + (slOf (z1k σ v)).length) bytes∧r < 1000∧∀ d,d ∈ slOf (z1k σ v)->d.cells.length = z∧d.cells.all AV.one = true):=by
 have ht:apOk.objTy (σ.H r) = zht (σ.H r):=by cases σ.H r <;> rfl
 apply propext
 simp only [apOk,ht]
 constructor
 ·rintro ⟨h1,l,h2,h3⟩
  rw [h2]
  exact ⟨h1,rfl,h3⟩
 ·rintro ⟨h1,h2,h3⟩
  refine ⟨h1,slOf (z1k σ v),?_,h3⟩
  cases hv:z1k σ v <;> rw [hv] at h2 <;> first | rfl | cases h2
theorem z3z (b:Bool) (X Y:Prop):(if b = true then X else Y) = ((b = true->X)∧(b = false->Y)):=by
 cases b <;> simp
theorem zlf (b:Bool) [inst:Decidable (b = false)] (X Y:Prop):(if b = false then X else Y) = ((b = false->X)∧(b = true->Y)):=by
 cases b <;> simp
theorem ite_branch (b:Bool) [inst:Decidable (b = true)] (X Y:Prop):(if b = true then X else Y) = ((b = true->X)∧(b = false->Y)):=by
 cases b <;> simp
theorem set_T (σ:St) (t s:Nat) (v:AV):(σ.set t v).T s = if s = t then v else σ.T s:=rfl
theorem set_H (σ:St) (t:Nat) (v:AV):(σ.set t v).H = σ.H:=rfl
theorem made_T (σ:St) (t s:Nat) (v:AV) (o:Option Arr):(σ.made t v o).T s = if s = t then v else σ.T s:=rfl
theorem zla (σ:St) (t s:Nat) (v:AV):(σ.made t v none).H s = σ.H s:=rfl
theorem zl9 (σ:St) (t s:Nat) (v:AV) (arr:Arr):(σ.made t v (some arr)).H s = if s = t then some arr else σ.H s:=rfl
theorem upd_at {α:Type} (f:Nat->α) (r s:Nat) (x:α):upd f r x s = if s = r then x else f s:=rfl
theorem sweep_at (T:Nat->AV) (r t:Nat):z6e T r t = if (T t).name = some r then .und else T t:=rfl
def keepS (σ:St):AV->AV
 | .rs r off len=>if (σ.H r).isSome = true then .sl (((z08 (σ.H r)).drop off).take len) else .und
 | _=>.und
theorem keepS_ok (σ:St) (v:AV):keepV σ.H v = keepS σ v:=by
 cases v with
 | rs r off len =>
  simp only [keepV,keepS]
  cases σ.H r <;> rfl
 | _=>rfl
theorem kill_T (σ:St) (r t:Nat):(σ.kill r).T t = if (σ.T t).name = some r then keepS σ (σ.T t) else σ.T t:=by
 rw [← keepS_ok]; rfl
theorem kill_H (σ:St) (r s:Nat):(σ.kill r).H s = if s = r then none else σ.H s:=rfl
theorem kills_nil (σ:St):σ.kills [] = σ:=rfl
theorem kills_cons (σ:St) (r:Nat) (l:List Nat):σ.kills (r :: l) = (σ.kill r).kills l:=rfl
theorem fz_T' (σ:St) (r t:Nat):(σ.fz r).T t = σ.T t:=rfl
theorem fz_H' (σ:St) (r s:Nat):(σ.fz r).H s = if s = r then (σ.H r).map Arr.freeze else σ.H s:=rfl
theorem fzs_nil (σ:St):σ.fzs [] = σ:=rfl
theorem fzs_cons (σ:St) (r:Nat) (l:List Nat):σ.fzs (r :: l) = (σ.fz r).fzs l:=rfl
theorem init_T (args:List AV) (t:Nat):(z0h args).T t = args.getD t .und:=rfl
theorem init_H (args:List AV) (t:Nat):(z0h args).H t = none:=rfl
theorem get_t (σ:St) (t:Nat):σ.get (.t t) = σ.T t:=rfl
theorem get_c (σ:St) (v:AV):σ.get (.c v) = v:=rfl
theorem freeze_mk (z ty:Nat) (l:List AV) (p:Nat):Arr.freeze ⟨z,ty,l,p⟩ = ⟨z,ty,l,l.length⟩:=rfl
theorem zg5 (K:St->Prop) (Q:XK->St->Prop) (σ:St):z3j K Q .normal σ = K σ:=rfl
theorem thenQ_exit (K:St->Prop) (Q:XK->St->Prop) (i:Nat) (σ:St):z3j K Q (.exit i) σ = Q (.exit i) σ:=rfl
theorem thenQ_ret (K:St->Prop) (Q:XK->St->Prop) (σ:St):z3j K Q .ret σ = Q .ret σ:=rfl
theorem zfp (i:Nat) (Q:XK->St->Prop) (σ:St):z4g i Q .normal σ = Q .normal σ:=rfl
theorem blockQ_ret (i:Nat) (Q:XK->St->Prop) (σ:St):z4g i Q .ret σ = Q .ret σ:=rfl
theorem zmg (i j:Nat) (Q:XK->St->Prop) (σ:St):z4g i Q (.exit j) σ = if j = i then Q .normal σ else Q (.exit j) σ:=rfl
theorem endQ_ret (ds:List RDesc) (r:AV) (σ:St):endQ ds r .ret σ = retV ds r σ:=rfl
theorem zly (ds:List RDesc) (r:AV) (σ:St):endQ ds r .normal σ = retV ds r σ:=rfl
theorem z01 {C:FuncId->List AV->AV->Prop} {f:FuncId} {args:List AV} {hid:List Nat} {d:Nat} {fz:List Nat} {σ:St} {R:St->(St->Prop)->Prop} {K:St->Prop} {r:AV} (h:C f args r) (hk:z1w hid d r = true∧R (z82 σ d fz r) K):zml C f args hid d fz σ R K:=⟨r,h,hk⟩
theorem z00 {C:FuncId->List AV->AV->Prop} {F0:List Nat} {f:FuncId} {args:List AV} {hid:List Nat} {d:Nat} {fz:List Nat} {σ:St} {R:St->(St->Prop)->Prop} {K:St->Prop} {r:AV} (h:C f args r) (hk:z1w hid d r = true∧(r.flatB || fz.all F0.contains) = true∧R (z82 σ d [] r) K):zfw C F0 f args hid d fz σ R K:=⟨r,h,hk⟩
theorem run_skip (C:FuncId->List AV->AV->Prop) (Q:XK->St->Prop) (σ:St):run C .skip Q σ = Q .normal σ:=rfl
theorem run_reg (C:FuncId->List AV->AV->Prop) (g:Reg) (Q:XK->St->Prop) (σ:St):run C (.reg g) Q σ = z1d C g σ (Q .normal):=rfl
theorem run_regd (C:FuncId->List AV->AV->Prop) (P:Program) (g:Reg) (l:List XOp) (Q:XK->St->Prop) (σ:St):run C (.regd P g l) Q σ = zdu P C g l σ (Q .normal):=rfl
theorem run_regm (C:FuncId->List AV->AV->Prop) (P:Program) (g:Reg) (lt:List Nat) (mo ko vo:IOpd) (l:List XOp) (Q:XK->St->Prop) (σ:St):run C (.regm P g lt mo ko vo l) Q σ = zdt P C g lt mo ko vo l σ (Q .normal):=rfl
theorem noMps_nil (σ:St):z83 [] σ = True:=rfl
theorem noMps_cons (t:Nat) (l:List Nat) (σ:St):z83 (t :: l) σ = ((σ.T t).isMp = false∧z83 l σ):=rfl
theorem run_seq (C:FuncId->List AV->AV->Prop) (x y:IR) (Q:XK->St->Prop) (σ:St):run C (.seq x y) Q σ = run C x (z3j (run C y Q) Q) σ:=rfl
theorem run_cond (C:FuncId->List AV->AV->Prop) (c:IOpd) (x y:IR) (Q:XK->St->Prop) (σ:St):run C (.cond c x y) Q σ = ((σ.get c).isB = true∧if (σ.get c).bv = true then run C x Q σ else run C y Q σ):=by
 rw [z3z]; rfl
theorem run_block (C:FuncId->List AV->AV->Prop) (id:Nat) (b:IR) (Q:XK->St->Prop) (σ:St):run C (.block id b) Q σ = run C b (z4g id Q) σ:=rfl
theorem run_loop' (C:FuncId->List AV->AV->Prop) (b:IR) (Q:XK->St->Prop) (σ:St):run C (.loop b) Q σ = awp C (.loop b) Q σ:=rfl
theorem run_exit (C:FuncId->List AV->AV->Prop) (id:Nat) (Q:XK->St->Prop) (σ:St):run C (.exit id) Q σ = Q (.exit id) σ:=rfl
theorem run_ret (C:FuncId->List AV->AV->Prop) (Q:XK->St->Prop) (σ:St):run C .ret Q σ = Q .ret σ:=rfl
theorem runOps_nil (C:FuncId->List AV->AV->Prop) (σ:St) (K:St->Prop):z0a C [] σ K = K σ:=rfl
theorem runOps_op (C:FuncId->List AV->AV->Prop) (io:IOp) (d:Nat) (hid wr:List Nat) (l:List ROp) (σ:St) (K:St->Prop):z0a C (⟨io,some d,none,hid,wr⟩ :: l) σ K = z1y C (z0a C l) K σ d hid io:=rfl
theorem runOps_st (C:FuncId->List AV->AV->Prop) (z:Nat) (p x:IOpd) (hid wr:List Nat) (l:List ROp) (σ:St) (K:St->Prop):z0a C (⟨.store z p x,none,none,hid,wr⟩ :: l) σ K = (stOk σ z (σ.get x) (σ.get p)∧z0a C l (stSt σ z (σ.get x) (σ.get p)) K):=rfl
theorem runOps_g (C:FuncId->List AV->AV->Prop) (io:IOp) (d t:Nat) (w:Bool) (hid wr:List Nat) (l:List ROp) (σ:St) (K:St->Prop):z0a C (⟨io,some d,some (t,w),hid,wr⟩ :: l) σ K = (gB (σ.T t) = true∧if gIs w (σ.T t) = true then z1y C (z0a C l) K (σ.set t (.bool w)) d hid io else z0a C l ((if (σ.T t).isB then σ.set t (.bool (!w)) else σ).set d (.tup [])) K):=by
 rw [z3z]; rfl
theorem zkq (C:FuncId->List AV->AV->Prop) (F0:List Nat) (tl:List ROp) (σ:St) (K:St->Prop):z07 C F0 tl [] σ K = z0a C tl σ K:=rfl
theorem runHead_op (C:FuncId->List AV->AV->Prop) (F0:List Nat) (tl:List ROp) (io:IOp) (d:Nat) (hid wr:List Nat) (l:List ROp) (σ:St) (K:St->Prop):z07 C F0 tl (⟨io,some d,none,hid,wr⟩ :: l) σ K = z0n C F0 (z07 C F0 tl l) K σ d hid io:=rfl
theorem runHead_st (C:FuncId->List AV->AV->Prop) (F0:List Nat) (tl:List ROp) (z:Nat) (p x:IOpd) (hid wr:List Nat) (l:List ROp) (σ:St) (K:St->Prop):z07 C F0 tl (⟨.store z p x,none,none,hid,wr⟩ :: l) σ K = (zkh F0 hid wr σ z (σ.get x) (σ.get p)∧z07 C F0 tl l (zkg σ z (σ.get x) (σ.get p)) K):=rfl
theorem runHead_g (C:FuncId->List AV->AV->Prop) (F0:List Nat) (tl:List ROp) (io:IOp) (d t:Nat) (w:Bool) (hid wr:List Nat) (l:List ROp) (σ:St) (K:St->Prop):z07 C F0 tl (⟨io,some d,some (t,w),hid,wr⟩ :: l) σ K = (gB (σ.T t) = true∧if gIs w (σ.T t) = true then z0n C F0 (z07 C F0 tl l) K (σ.set t (.bool w)) d hid io else z07 C F0 tl l ((if (σ.T t).isB then σ.set t (.bool (!w)) else σ).set d (.tup [])) K):=by
 rw [z3z]; rfl
theorem zl4 {hid:List Nat} {v:AV} (h:v.name = none):z12 hid v = true:=by unfold z12; rw [h]
theorem zl3 (hid:List Nat) (r i f:Nat):z12 hid (.ptr r i f) = !hid.contains r:=rfl
theorem nameOk_rs' (hid:List Nat) (r i f:Nat):z12 hid (.rs r i f) = !hid.contains r:=rfl
theorem run_regx (C:FuncId->List AV->AV->Prop) (P:Program) (l:List XOp) (Q:XK->St->Prop) (σ:St):run C (.regx P l) Q σ = z0q P C l σ (Q .normal):=rfl
theorem runXs_nil (P:Program) (C:FuncId->List AV->AV->Prop) (σ:St) (K:St->Prop):z0q P C [] σ K = K σ:=rfl
theorem runXs_op (P:Program) (C:FuncId->List AV->AV->Prop) (k:List Nat) (r:ROp) (l:List XOp) (σ:St) (K:St->Prop):z0q P C (.op k r :: l) σ K = z0a C [r] (σ.kills k) fun σ'=>z0q P C l σ' K:=rfl
theorem zkj (P:Program) (C:FuncId->List AV->AV->Prop) (d:Nat) (x:IOpd) (l:List XOp) (σ:St) (K:St->Prop):z0q P C (.nilck d x none :: l) σ K = (ckOk σ (σ.get x)∧z0q P C l (σ.set d (σ.get x)) K):=rfl
theorem zgf (P:Program) (C:FuncId->List AV->AV->Prop) (d:Nat) (x:IOpd) (t:Nat) (w:Bool) (l:List XOp) (σ:St) (K:St->Prop):z0q P C (.nilck d x (some (t,w)) :: l) σ K = (gB (σ.T t) = true∧if gIs w (σ.T t) = true then ckOk (σ.set t (.bool w)) ((σ.set t (.bool w)).get x)∧z0q P C l ((σ.set t (.bool w)).set d ((σ.set t (.bool w)).get x)) K else z0q P C l ((if (σ.T t).isB then σ.set t (.bool (!w)) else σ).set d (.tup [])) K):=by
 rw [z3z]; rfl
theorem zkm (P:Program) (C:FuncId->List AV->AV->Prop) (d:Nat) (f:FuncId) (x:IOpd) (l:List XOp) (σ:St) (K:St->Prop):z0q P C (.mkclo d f x :: l) σ K = (cloOk σ (σ.get x)∧z0q P C l (σ.set d (.clom f (ptrAt (σ.get x)))) K):=rfl
theorem zkn (P:Program) (C:FuncId->List AV->AV->Prop) (d:Nat) (fx:IOpd) (xs:List IOpd) (l:List XOp) (σ:St) (K:St->Prop):z0q P C (.mcall d fx xs :: l) σ K = (mOks σ (xs.map σ.get)∧zi2 (σ.fzs (mFzs (xs.map σ.get))) (σ.get fx)∧z8i P (mFn (σ.get fx)) (mArgs (zlb σ (xs.map σ.get)) (σ.get fx)) σ.T (σ.fzs (mFzs (xs.map σ.get))).H d (z0q P C l) K):=rfl
theorem zkl (P:Program) (C:FuncId->List AV->AV->Prop) (d:Nat) (ty:TypeId) (l:List XOp) (σ:St) (K:St->Prop):z0q P C (.mkmap d ty :: l) σ K = z0q P C l ((σ.kill d).made d (.mp d []) (some ⟨1,ty,[],0⟩)) K:=rfl
theorem zkk (P:Program) (C:FuncId->List AV->AV->Prop) (d:Nat) (ok:Bool) (m k:IOpd) (z:AV) (l:List XOp) (σ:St) (K:St->Prop):z0q P C (.mlook d ok m k z none :: l) σ K = (zb7 σ (σ.get m)∧kI (σ.get k) = true∧z0q P C l (σ.set d (lkV ok z (lkp (ents (σ.get m)) (σ.get k).iv))) K):=rfl
theorem zgg (P:Program) (C:FuncId->List AV->AV->Prop) (d:Nat) (ok:Bool) (m k:IOpd) (z:AV) (t:Nat) (w:Bool) (l:List XOp) (σ:St) (K:St->Prop):z0q P C (.mlook d ok m k z (some (t,w)) :: l) σ K = (gB (σ.T t) = true∧if gIs w (σ.T t) = true then zb7 (σ.set t (.bool w)) ((σ.set t (.bool w)).get m)∧kI ((σ.set t (.bool w)).get k) = true∧z0q P C l ((σ.set t (.bool w)).set d (lkV ok z (lkp (ents ((σ.set t (.bool w)).get m)) ((σ.set t (.bool w)).get k).iv))) K else z0q P C l ((if (σ.T t).isB then σ.set t (.bool (!w)) else σ).set d (.tup [])) K):=by
 rw [z3z]; rfl
theorem runXs_mupd (P:Program) (C:FuncId->List AV->AV->Prop) (m k x:IOpd) (l:List XOp) (σ:St) (K:St->Prop):z0q P C (.mupd m k x :: l) σ K = (mpOk σ (σ.get m)∧kI (σ.get k) = true∧byOk [] σ (σ.get x)∧z0q P C l ⟨remT (mpR (σ.get m)) (upk (ents (σ.get m)) (σ.get k).iv (z1k σ (σ.get x))) σ.T,(σ.fzs (byFz (σ.get x))).H⟩ K):=rfl
theorem nameOk_mp (hid:List Nat) (r:Nat) (es:List (Int × AV)):z12 hid (.mp r es) = !hid.contains r:=rfl
theorem zl5 (hid:List Nat) (f:FuncId) (r:Nat):z12 hid (.clom f r) = !hid.contains r:=rfl
theorem initM_T (args:List AV) (H:Nat->Option Arr) (t:Nat):(initM args H).T t = sh (args.getD t .und):=rfl
theorem initM_H (args:List AV) (H:Nat->Option Arr):(initM args H).H = shH H:=rfl
theorem shH_big (H:Nat->Option Arr) (r:Nat):shH H (r + 1000) = H r:=by unfold shH; rw [if_neg (by omega),Nat.add_sub_cancel]
theorem shH_small (H:Nat->Option Arr) (r:Nat) (h:r < 1000):shH H r = none:=if_pos h
theorem endM_ret (ds:List RDesc) (r:AV) (H':Nat->Option Arr) (σ:St):endM ds r H' .ret σ = retM ds r H' σ:=rfl
theorem zlz (ds:List RDesc) (r:AV) (H':Nat->Option Arr) (σ:St):endM ds r H' .normal σ = retM ds r H' σ:=rfl
theorem run_gini (C:FuncId->List AV->AV->Prop) (l:List GIni) (Q:XK->St->Prop) (σ:St):run C (.gini l) Q σ = z6s l σ (Q .normal):=rfl
theorem giniV_nil (σ:St) (K:St->Prop):z6s [] σ K = K σ:=rfl
theorem giniV_cons (r j q z:Nat) (ty:TypeId) (l:List GIni) (σ:St) (K:St->Prop):z6s (⟨r,j,q,z,ty⟩ :: l) σ K = (q < 1000∧0 < z∧z6s l ⟨upd (σ.kill q).T (vt r j) (.vrs q 0 0 (.slice none 0 0)),upd (σ.kill q).H q (some ⟨z,ty,[],0⟩)⟩ K):=rfl
theorem runOps_clr (C:FuncId->List AV->AV->Prop) (z:Nat) (x:IOpd) (d:AV) (hid wr:List Nat) (l:List ROp) (σ:St) (K:St->Prop):z0a C (⟨.copy z x (.c d),none,none,hid,wr⟩ :: l) σ K = (clOk σ z d (σ.get x)∧z0a C l (clSt σ d (σ.get x)) K):=rfl
theorem runOps_stp (C:FuncId->List AV->AV->Prop) (z:Nat) (p x:IOpd) (hid wr:List Nat) (l:List ROp) (σ:St) (K:St->Prop):z0a C (⟨.storep z p x,none,none,hid,wr⟩ :: l) σ K = (stpOk σ z (σ.get x) (σ.get p)∧z7r fun u=>z0a C l (zg7 σ u (σ.get x) (σ.get p)) K):=rfl
end Go.Proofs.YtlhblpbfhfhlpaaGreatDoor
end
