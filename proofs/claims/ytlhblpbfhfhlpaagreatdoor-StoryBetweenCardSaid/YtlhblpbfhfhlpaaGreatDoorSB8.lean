/-
  Part 8 of a proof: AmN0, AmN.
-/
import Derived.LoopN
import Derived.Test.YtlhblpbfhfhlpaaGreatDoorSB7
set_option linter.unusedVariables false
set_option linter.unusedSimpArgs false
section
namespace Go.Proofs.YtlhblpbfhfhlpaaGreatDoor
open Go.RowKit
def renN (s q x:Nat):Nat:=if x = s then q else x
def ROp.ren (s q:Nat) (r:ROp):ROp:={ r with hid:=r.hid.map (renN s q),wr:=r.wr.map (renN s q) }
theorem renN_inj {s q x y:Nat} (hx:x ≠ q) (hy:y ≠ q) (h:renN s q x = renN s q y):x = y:=by
 unfold renN at h
 split at h <;> split at h <;> omega
theorem ren_wrs {s q:Nat} {r:ROp} (hd:r.dst ≠ some s):(r.ren s q).wrs = r.wrs.map (renN s q):=by
 unfold ROp.wrs ROp.ren
 cases h:r.dst with
 | none=>rfl
 | some d =>
  have hds:d ≠ s:=fun e=>hd (by rw [h,e])
  simp only
  split
  ·rfl
  ·show [d] = [renN s q d]
   unfold renN
   rw [if_neg hds]
theorem ren_hid {s q x:Nat} {r:ROp} (h:r.hid.contains x = true):(r.ren s q).hid.contains (renN s q x) = true:=by
 rw [List.contains_eq_mem,decide_eq_true_eq] at h ⊢
 exact List.mem_map.2 ⟨x,h,rfl⟩
theorem z2g {s q:Nat} {rs:List ROp} {i:Nat} {r:ROp} (h:(rs.map (ROp.ren s q))[i]? = some r):∃ r0,rs[i]? = some r0∧r = r0.ren s q:=by
 rw [List.getElem?_map,Option.map_eq_some_iff] at h
 obtain ⟨r0,h1,h2⟩:=h
 exact ⟨r0,h1,h2.symm⟩
theorem z42 {s q x:Nat} {r:ROp} (hd:r.dst ≠ some s) (h:x ∈ (r.ren s q).wrs):∃ y,y ∈ r.wrs∧x = renN s q y:=by
 rw [ren_wrs hd] at h
 obtain ⟨y,h1,h2⟩:=List.mem_map.1 h
 exact ⟨y,h1,h2.symm⟩
theorem z7t {s q:Nat} (hq:1000≤q):∀ {l:List ROp},(∀ r,r ∈ l->r.dst ≠ some s)->(∀ r,r ∈ l->∀ d,r.dst = some d->d < 1000)->z2n l->z2n (l.map (ROp.ren s q))
 | [],_,_,_=>trivial
 | o :: l,hs,hlt,h=>by
  refine ⟨fun r hr hp d hd=>?_,z7t hq (fun r hr=>hs r (List.mem_cons_of_mem _ hr)) (fun r hr=>hlt r (List.mem_cons_of_mem _ hr)) h.2⟩
  obtain ⟨r0,h0,e0⟩:=List.mem_map.1 hr
  subst e0
  have hd0:r0.dst = some d:=hd
  have k:=h.1 r0 h0 hp d hd0
  have hne:d ≠ s:=fun e=>hs r0 (List.mem_cons_of_mem _ h0) (by rw [hd0,e])
  have hc:=ren_hid (s:=s) (q:=q) k.1
  rw [show renN s q d = d from if_neg hne] at hc
  exact ⟨hc,k.2⟩
theorem DrawOk.ren {ops:Array Oper} {rs:List ROp} {m tl s q:Nat} (h:DrawOk ops rs m tl) (hq:1000≤q) (hs:∀ r,r ∈ rs->r.dst ≠ some s) (hlt:∀ r,r ∈ rs->∀ d,r.dst = some d->d < 1000) (hw:∀ r,r ∈ rs->∀ x,x ∈ r.wr->x < 1000):DrawOk ops (rs.map (ROp.ren s q)) m tl:=by
 have hwr:∀ r,r ∈ rs->∀ x,x ∈ r.wrs->x ≠ q:=fun r hr x hx=>by
  unfold ROp.wrs at hx
  cases hd:r.dst with
  | none=>rw [hd] at hx; have:=hw r hr x hx; omega
  | some d =>
   rw [hd] at hx
   simp only at hx
   split at hx
   ·cases hx
   ·rw [List.mem_singleton.1 hx]
    have:=hlt r hr d hd; omega
 have hmem:∀ {i:Nat} {r:ROp},rs[i]? = some r->r ∈ rs:=fun h=>List.mem_of_getElem? h
 refine ⟨by rw [List.length_map]; exact h.len,by rw [List.length_map]; exact h.mlt,h.edge,?_,?_,?_,?_,?_,?_,h.tail,?_⟩
 ·intro i j r r' d hi hj hd hd'
  rw [← List.map_take] at hi hj
  obtain ⟨r0,h0,e0⟩:=z2g hi
  obtain ⟨r1,h1,e1⟩:=z2g hj
  subst e0; subst e1
  exact h.dsts i j r0 r1 d h0 h1 hd hd'
 ·intro i r t k r' hi hr ht hk hr' hd hne
  obtain ⟨r0,h0,e0⟩:=z2g hr
  obtain ⟨r1,h1,e1⟩:=z2g hr'
  subst e0; subst e1
  exact h.opds i r0 t k r1 hi h0 ht hk h1 hd hne
 ·intro i r t b k r' hi hr ht hk hr' hd hne
  obtain ⟨r0,h0,e0⟩:=z2g hr
  obtain ⟨r1,h1,e1⟩:=z2g hr'
  subst e0; subst e1
  exact h.guards i r0 t b k r1 hi h0 ht hk h1 hd hne
 ·intro i r k r' x hi hr hr' hne hx
  obtain ⟨r0,h0,e0⟩:=z2g hr
  obtain ⟨r1,h1,e1⟩:=z2g hr'
  subst e0; subst e1
  obtain ⟨y,hy,ey⟩:=z42 (hs r1 (hmem h1)) hx
  subst ey
  rcases h.hids i r0 k r1 y hi h0 h1 hne hy with k1 | k1 | k1 | ⟨g1,g2,g3⟩
  ·exact Or.inl (ren_hid k1)
  ·exact Or.inr (.inl k1)
  ·exact Or.inr (.inr (.inl k1))
  ·refine Or.inr (.inr (.inr ⟨g1,g2,fun r hr hd=>?_⟩))
   obtain ⟨r2,h2,e2⟩:=List.mem_map.1 hr
   subst e2
   exact g3 r2 h2 hd
 ·intro i r k r' x hi hr hk hr' hne hx hx'
  obtain ⟨r0,h0,e0⟩:=z2g hr
  obtain ⟨r1,h1,e1⟩:=z2g hr'
  subst e0; subst e1
  obtain ⟨y,hy,ey⟩:=z42 (hs r0 (hmem h0)) hx
  obtain ⟨z,hz,ez⟩:=z42 (hs r1 (hmem h1)) hx'
  have hyz:y = z:=renN_inj (hwr r0 (hmem h0) y hy) (hwr r1 (hmem h1) z hz) (by rw [← ey,← ez])
  subst hyz
  exact h.ww i r0 k r1 y hi h0 hk h1 hne hy hz
 ·intro i r k r' d hi hr hk hr' hp hd hx
  obtain ⟨r0,h0,e0⟩:=z2g hr
  obtain ⟨r1,h1,e1⟩:=z2g hr'
  subst e0; subst e1
  have hd1:r1.dst = some d:=hd
  obtain ⟨y,hy,ey⟩:=z42 (hs r0 (hmem h0)) hx
  have hdl:=hlt r1 (hmem h1) d hd1
  have hyd:y = d:=by
   unfold renN at ey
   split at ey
   ·omega
   ·exact ey.symm
  subst hyd
  exact h.later i r0 k r1 y hi h0 hk h1 hp hd1 hy
 ·rw [← List.map_drop]
  exact z7t hq (fun r hr=>hs r (List.mem_of_mem_drop hr)) (fun r hr=>hlt r (List.mem_of_mem_drop hr)) h.hl
def dumR:ROp:=⟨.mv (.c .und),none,none,[],[]⟩
section
variable {pv:Bool} {P:Program} {w0:Start} {Pr0:Nat->Nat->Prop} {n:Nat} {μ:Nat->Option Nat} {σ:St} {a:Act} {w:World}
theorem zg0 {ops:Array Oper} {Q:Exit->Act->World->Prop} {K:St->Prop} {x:XOp} {o:Oper} {k:Nat} (ho:ops[k]? = some o) (hio:IsX pv P ops n o x) (hS:SR w0 Pr0 n μ σ a w) (hE:z1j P (AFn P) x σ K) :
  wpOp P ops Q k (fun a' w'=>∃ μ' σ',K σ'∧SR w0 Pr0 n μ' σ' a' w') a w:=by
 unfold wpOp
 rw [ho]
 simp only
 have plain:o.guard = none->(o.wp P a w (fun a' w'=>∃ μ' σ',K σ'∧SR w0 Pr0 n μ' σ' a' w') Q)->(if Region.wanted o (yielded ops a.tmps) = true then o.wp P a w (fun a' w'=>∃ μ' σ',K σ'∧SR w0 Pr0 n μ' σ' a' w') Q∨(o.asks P a w∧LetsOut Q) else (fun a' w'=>∃ μ' σ',K σ'∧SR w0 Pr0 n μ' σ' a' w') (a.put o.dst undef) w):=by
  intro hg hw
  rw [if_pos (by simp [Region.wanted,hg])]
  exact .inl hw
 cases x with
 | nilck d ix gd =>
  obtain ⟨hg,hd,hn,x,h1,h2⟩:=hio
  simp only [z1j] at hE
  rcases z2p hg hS hE with ⟨hw,σ',hy,hS',hσ⟩ | ⟨hw,σ',hy,hS',hσ⟩
  ·rw [if_pos hw]
   exact .inl (z9t h1 h2 hd hn hS' hy)
  ·rw [if_neg (by rw [hw]; simp)]
   rw [hd]
   exact ⟨_,_,hy,hS'.put hn (TR.of_VR (.tup [] [] rfl (fun j c v h=>by simp at h)))⟩
 | mkmap d ty =>
  obtain ⟨hg,hd,hn,h1⟩:=hio
  have hn':d < 1000:=Nat.lt_of_lt_of_le hn hS.small
  have hSk:=hS.kill d hn'
  refine plain hg (z9x (K:=K) h1 hd hn hSk (z03 _ _ _) (fun s e=>?_) (ty:=ty) hE)
  have e:(if (σ.T s).name = some d then keepV σ.H (σ.T s) else σ.T s).name = some d:=e
  split at e
  ·rw [z38] at e; cases e
  ·rename_i hne; exact hne e
 | mlook d ok m k z gd =>
  obtain ⟨hg,hd,hn,t,kt,et,y,iy,i,zv,h1,h2,h3,h4,h5,h6,h7,h8⟩:=hio
  simp only [z1j] at hE
  rcases z2p hg hS hE with ⟨hw,σ',hy,hS',hσ⟩ | ⟨hw,σ',hy,hS',hσ⟩
  ·rw [if_pos hw]
   exact .inl (z9w h1 h2 h3 h4 h5 h6 h7 h8 hd hn hS' hy)
  ·rw [if_neg (by rw [hw]; simp)]
   rw [hd]
   exact ⟨_,_,hy,hS'.put hn (TR.of_VR (.tup [] [] rfl (fun j c v h=>by simp at h)))⟩
 | mupd m k x =>
  obtain ⟨hg,hd,t,kt,et,y,iy,v,h1,h2,h3,h4,h5,h6⟩:=hio
  exact plain hg (zc9 (K:=K) h1 h2 h3 h4 h5 h6 hd hS hE)
 | mkclo d f ix =>
  obtain ⟨hg,hd,hn,first,caps,x,h1,h2,h3,h4⟩:=hio
  exact plain hg (z9y h1 h2 h3 h4 hd hn hS hE)
 | mcall d fx ys =>
  obtain ⟨hg,hd,hn,c,f,h1,h2,h3,h4⟩:=hio
  exact plain hg (za0 h1 h2 h3 h4 hd hn hS hE)
 | wcall d fx ys =>
  obtain ⟨hg,hd,hn,c,f,h1,h2,h3,h4⟩:=hio
  exact plain hg (z8m h1 h2 h3 h4 hd hn hS hE)
 | gcall d fx ys =>
  obtain ⟨hg,hd,hn,c,f,h1,h2,h3,h4⟩:=hio
  exact plain hg (zag h1 h2 h3 h4 hd hn hS hE)
 | op k0 r =>
  obtain ⟨hio,rfl⟩:=hio
  obtain ⟨μ1,hS1,hF1⟩:=za7 hio hS
  simp only [z1j,z0f] at hE
  rcases z43 hio hS1 hE with ⟨hw,σ',hy,hS',hσ⟩ | ⟨hw,σ',hy,hS',hσ⟩
  ·rw [if_pos hw]
   exact .inl (z55 hio hS' (z0w.guard hF1 hσ) hy)
  ·rw [if_neg (by rw [hw]; simp)]
   exact ⟨_,_,hy,z3t hio hS'⟩
theorem zmb {ops : Array Oper} {hd : List ROp} {l : List XOp} {m id : Nat} {Q : Exit → Act → World → Prop} {F0 : List Nat} {K : St → Prop} (hm : P.follows .mixedOrders = true) (hok : DrawOk ops (hd ++ List.replicate (ops.size - m) dumR) m m) (hhm : hd.length = m) (hsz : m + l.length = ops.size)
    (hio : ∀ (j : Nat) (r : ROp), hd[j]? = some r → ∃ o, ops[j]? = some o ∧ IsOp pv P ops n o r) (hix : ∀ (j : Nat) (x : XOp), l[j]? = some x → ∃ o, ops[m + j]? = some o ∧ IsX pv P ops n o x) (hS : SR w0 Pr0 n μ σ a w) (hF : z0w hd σ)
    (hfz : ∀ r, r ∈ F0 → (∀ arr, σ.H r = some arr → arr.prot = arr.cells.length) ∧ ∀ x, x ∈ hd → x.io.pure = false → x.dst ≠ some r)
    (hE : z0m (AFn P) F0 hd σ (fun σ => z13 P (AFn P) l σ K)) (hQ : ∀ μ σ' a w, K σ' → SR w0 Pr0 n μ σ' a w → Q .normal a w) :
    (Code.region id ops true).wp P Q a w := by
  generalize hrs : hd ++ List.replicate (ops.size - m) dumR = rs at hok
  have htk : rs.take m = hd := by rw [← hrs, List.take_append_of_le_length (by omega), List.take_of_length_le (by omega)]
  have hgetl : ∀ {j : Nat}, j < m → rs[j]? = hd[j]? := fun hj => by rw [← hrs, List.getElem?_append_left (by omega)]
  have hmem : ∀ x, x ∈ rs → x.io.pure = false → x ∈ hd := fun x hx hp => by
    rw [← hrs] at hx
    rcases List.mem_append.1 hx with h | h
    · exact h
    · rw [List.eq_of_mem_replicate h] at hp; cases hp
  have hF' : z0w rs σ := fun r hr hp => hF r (hmem r hr hp) hp
  have hfz' : ∀ r, r ∈ F0 → (∀ arr, σ.H r = some arr → arr.prot = arr.cells.length) ∧ ∀ x, x ∈ rs → x.io.pure = false → x.dst ≠ some r := fun r hr => ⟨(hfz r hr).1, fun x hx hp => (hfz r hr).2 x (hmem x hx hp) hp⟩
  have hio' : ∀ (j : Nat) (r : ROp), j < m → rs[j]? = some r → ∃ o, ops[j]? = some o ∧ IsOp pv P ops n o r := fun j r hj h => hio j r (by rw [← hgetl hj]; exact h)
  obtain ⟨es, σm, hseq, hl, hK⟩ := z3n hE
  rw [← htk] at hseq hl
  obtain ⟨hIm, hat⟩ := zab (rs.take m) es [] [] (σ0 := σ) rfl hok.dsts (by simpa using HInv.start (rs.take m) es σ) hseq
  simp only [List.nil_append, List.length_nil, Nat.zero_add] at hIm hat
  have htl : (rs.take m).length = m := by rw [List.length_take, Nat.min_eq_left hok.mlt]
  have hend : ∀ {S : Nat → Bool} {σ' : St}, HInv (rs.take m) es σ S σ' → (∀ j, j < m → S j = true) → σ' = σm := by
    intro S σ' hI hall
    have hT : σ'.T = σm.T := by
      funext t
      refine hI.T_eq hl hIm (fun i r h1 _ => ?_)
      have him := (List.getElem?_eq_some_iff.1 h1).1
      rw [htl] at him
      rw [hall i him, htl]; simp [him]
    have hH : σ'.H = σm.H := by
      funext x
      refine hI.H_eq hIm (fun i e arr h1 _ => ?_)
      have him := (List.getElem?_eq_some_iff.1 h1).1
      rw [hl, htl] at him
      rw [hall i him, htl]; simp [him]
    cases σ'; cases σm
    simp only at hT hH
    rw [hT, hH]
  let I : (Nat → Bool) → Act → World → Prop := fun S a w => (∀ i o, ops[i]? = some o → S i = true → ∀ j, j ∈ z0b o → S j = true) ∧
    (((∀ j, m ≤ j → S j = false) ∧ ∃ μ σ', SR w0 Pr0 n μ σ' a w ∧ HInv (rs.take m) es σ S σ') ∨
     ∃ k, m ≤ k ∧ (∀ j, j < ops.size → S j = decide (j < k)) ∧ ∃ μ σ', SR w0 Pr0 n μ σ' a w ∧ z13 P (AFn P) (l.drop (k - m)) σ' K)
  refine z35 hm hok.edge I ?_ ?_ ⟨(fun i o h e => by cases e), .inl ⟨fun _ _ => rfl, μ, σ, hS.drew, HInv.start _ _ _⟩⟩
  · intro S a' w' i o hI ho hSi hdir
    obtain ⟨hcl, hI⟩ := hI
    have hi : i < ops.size := (Array.getElem?_eq_some_iff.1 ho).1
    have hdeps := z0r (S := S) ops.toList (fun i o h => hcl i o (by rw [← Array.getElem?_toList]; exact h)) i o (by rw [Array.getElem?_toList]; exact ho) hdir
    have hcl' : ∀ i' o', ops[i']? = some o' → (decide (i' = i) || S i') = true → ∀ j, j ∈ z0b o' → (decide (j = i) || S j) = true := by
      intro i' o' h1 h2 j hj
      by_cases e : i' = i
      · subst e
        rw [ho] at h1; cases h1
        simp [hdir j hj]
      · have : S i' = true := by simpa [e] using h2
        simp [hcl i' o' h1 this j hj]
    have tailStep : ∀ {k : Nat} {μ : Nat → Option Nat} {σ' : St}, m ≤ k → (∀ j, j < ops.size → S j = decide (j < k)) → SR w0 Pr0 n μ σ' a' w' → z13 P (AFn P) (l.drop (k - m)) σ' K → i = k →
        wpOp P ops Q i (I fun j => decide (j = i) || S j) a' w' := by
      intro k μ' σ' hmk hSk hS' hE' e
      subst e
      have hlt : i - m < l.length := by omega
      obtain ⟨o2, ho2, hx2⟩ := hix (i - m) _ (List.getElem?_eq_getElem hlt)
      rw [show m + (i - m) = i by omega] at ho2
      rw [List.drop_eq_getElem_cons hlt] at hE'
      simp only [z13] at hE'
      refine wpOp_mono ?_ (zg0 ho2 hx2 hS' hE')
      rintro a2 w2 ⟨μ2, σ2, g1, g2⟩
      refine ⟨hcl', .inr ⟨i + 1, by omega, fun j hj => ?_, μ2, σ2, g2, ?_⟩⟩
      · show (decide (j = i) || S j) = _
        rw [hSk j hj, Bool.eq_iff_iff]
        simp; omega
      · rw [show i + 1 - m = i - m + 1 by omega]; exact g1
    rcases hI with ⟨hS0, μ', σ', hS', hH⟩ | ⟨k, hmk, hSk, μ', σ', hS', hE'⟩
    · rcases Nat.lt_or_ge i m with him | him
      · refine wpOp_mono ?_ (z6q hok hio' hF' hfz' hl hat him ho hSi hdeps hcl hS' hH)
        rintro a2 w2 ⟨μ2, σ2, g1, g2⟩
        exact ⟨hcl', .inl ⟨fun j hj => by simp [hS0 j hj, show j ≠ i by omega], μ2, σ2, g1, g2⟩⟩
      · have hbefore : ∀ j, j < i → S j = true := fun j hj => hdeps j (hok.tail i him hi j hj)
        have e : i = m := by
          rcases Nat.lt_or_ge m i with h | h
          · have := hbefore m h; rw [hS0 m (Nat.le_refl _)] at this; cases this
          · omega
        have hσ : σ' = σm := hend hH (fun j hj => hbefore j (by omega))
        subst hσ
        refine tailStep (Nat.le_refl _) (fun j hj => ?_) hS' (by rw [Nat.sub_self]; exact hK) e
        rcases Nat.lt_or_ge j m with h | h
        · rw [hbefore j (by omega)]; simp [h]
        · rw [hS0 j h]; simp; omega
    · have e : i = k := by
        have h1 : ¬ i < k := fun h => by rw [hSk i hi] at hSi; simp at hSi; omega
        rcases Nat.lt_or_ge k i with h | h
        · have := hdeps k (hok.tail i (by omega) hi k h)
          rw [hSk k (by omega)] at this
          simp at this
        · omega
      exact tailStep hmk hSk hS' hE' e
  · intro S a' w' hI hall
    obtain ⟨_, hI⟩ := hI
    rcases hI with ⟨hS0, μ', σ', hS', hH⟩ | ⟨k, hmk, hSk, μ', σ', hS', hE'⟩
    · have hms : ops.size = m := by
        rcases Nat.lt_or_ge m ops.size with h | h
        · have h1 := hall m (by omega); rw [hS0 m (Nat.le_refl _)] at h1; cases h1
        · omega
      have hσ : σ' = σm := hend hH (fun j hj => hall j (by omega))
      subst hσ
      obtain rfl : l = [] := List.length_eq_zero_iff.1 (by omega)
      exact hQ _ _ _ _ hK hS'
    · have hk : ops.size ≤ k := by
        rcases Nat.lt_or_ge k ops.size with h | h
        · have h1 := hall k (by omega)
          rw [hSk k (by omega)] at h1
          simp at h1
        · exact h
      rw [List.drop_eq_nil_of_le (by omega)] at hE'
      exact hQ _ _ _ _ hE' hS'
def AV.isMp:AV->Bool | .mp ..=>true | _=>false
theorem zgn {r:Nat} {es:List (Int × AV)} {v:AV} (h:v.isMp = false):remp r es v = v:=by
 cases v <;> first | rfl | cases h
def AV.byFree:AV->Bool
 | .int .. | .bool _ | .str _ | .agg _=>true
 | _=>false
theorem ziw {v:AV} (h:v.byFree = true) (σ:St) (hid:List Nat):σ.byval hid v = some (v,[]):=by
 cases v <;> first | rfl | cases h
def z83:List Nat->St->Prop
 | [],_=>True
 | t :: l,σ=>(σ.T t).isMp = false∧z83 l σ
theorem z9q:∀ {l:List Nat} {σ:St},z83 l σ->∀ t,t ∈ l->(σ.T t).isMp = false
 | x :: l,σ,h,t,ht=>by
  rcases List.mem_cons.1 ht with e | e
  ·rw [e]; exact h.1
  ·exact z9q h.2 t e
theorem HInv.congr {rs:List ROp} {es:List HEff} {σ0 σ:St} {S S':Nat->Bool} (hl:es.length = rs.length) (h:HInv rs es σ0 S σ) (hS:∀ i,i < rs.length->S' i = S i):HInv rs es σ0 S' σ:=by
 have h1:∀ {i:Nat} {r:ROp},rs[i]? = some r->i < rs.length:=fun h=>(List.getElem?_eq_some_iff.1 h).1
 have h2:∀ {i:Nat} {e:HEff},es[i]? = some e->i < rs.length:=fun h=>by rw [← hl]; exact (List.getElem?_eq_some_iff.1 h).1
 refine ⟨fun i r e d hr he hs hd=>h.dst i r e d hr he (by rw [← hS i (h1 hr)]; exact hs) hd,fun i e x arr he hs hx hlast=>h.obj i e x arr he (by rw [← hS i (h2 he)]; exact hs) hx (fun j e' arr' g1 g2 g3=>hlast j e' arr' g1 (by rw [hS j (h2 g1)]; exact g2) g3),fun t ht=>h.T t (fun i r hr hs=>ht i r hr (by rw [hS i (h1 hr)]; exact hs)),fun x hx=>h.H x (fun i e arr he hs=>hx i e arr he (by rw [hS i (h2 he)]; exact hs))⟩
structure MapAt (tab:List (List Nat)) (hd:List ROp) (m:Nat) (mo ko vo:IOpd) (lt:List Nat):Prop where
 pure:∀ r,r ∈ hd->r.dst.isSome = true∧r.io.pure = true
 opds:∀ t,(.t t = mo∨.t t = ko∨.t t = vo)->∀ (k:Nat) (r:ROp),hd[k]? = some r->r.dst = some t->k ∈ tab.getD m []
 late:∀ (i:Nat) (r:ROp),hd[i]? = some r->i ∉ tab.getD m []->r.guard = none∧r.io.ghost = false∧(∀ t,.t t ∈ r.io.opds->t ∈ lt∧∀ (k:Nat) (q:ROp),hd[k]? = some q->q.dst = some t->k < i)∧∀ d,r.dst = some d->d ∈ lt
theorem zmd {ops : Array Oper} {hd : List ROp} {l : List XOp} {m id : Nat} {mo ko vo : IOpd} {lt : List Nat} {Q : Exit → Act → World → Prop} {K : St → Prop} (hm : P.follows .mixedOrders = true) (hok : DrawOk ops (hd ++ List.replicate (ops.size - m) dumR) m (m + 1)) (hhm : hd.length = m) (hsz : m + 1 + l.length = ops.size)
    (hma : MapAt (z0p ops.toList) hd m mo ko vo lt)
    (hio : ∀ (j : Nat) (r : ROp), hd[j]? = some r → ∃ o, ops[j]? = some o ∧ IsOp pv P ops n o r) (hox : ∃ o, ops[m]? = some o ∧ IsX pv P ops n o (.mupd mo ko vo)) (hix : ∀ (j : Nat) (x : XOp), l[j]? = some x → ∃ o, ops[m + 1 + j]? = some o ∧ IsX pv P ops n o x) (hS : SR w0 Pr0 n μ σ a w)
    (hE : z0m (AFn P) [] hd σ (fun σ => z83 lt σ ∧ (σ.get vo).byFree = true ∧ z9v σ mo ko vo (fun σ => z13 P (AFn P) l σ K))) (hQ : ∀ μ σ' a w, K σ' → SR w0 Pr0 n μ σ' a w → Q .normal a w) :
    (Code.region id ops true).wp P Q a w := by
  generalize hrs : hd ++ List.replicate (ops.size - m) dumR = rs at hok
  have htk : rs.take m = hd := by rw [← hrs, List.take_append_of_le_length (by omega), List.take_of_length_le (by omega)]
  have hgetl : ∀ {j : Nat}, j < m → rs[j]? = hd[j]? := fun hj => by rw [← hrs, List.getElem?_append_left (by omega)]
  have hpr : ∀ x, x ∈ rs → x.io.pure = true := fun x hx => by
    rw [← hrs] at hx
    rcases List.mem_append.1 hx with h | h
    · exact (hma.pure x h).2
    · rw [List.eq_of_mem_replicate h]; rfl
  have hF' : z0w rs σ := fun r hr hp => by rw [hpr r hr] at hp; cases hp
  have hfz' : ∀ r, r ∈ ([] : List Nat) → (∀ arr, σ.H r = some arr → arr.prot = arr.cells.length) ∧ ∀ x, x ∈ rs → x.io.pure = false → x.dst ≠ some r := fun r hr => by cases hr
  have hio' : ∀ (j : Nat) (r : ROp), j < m → rs[j]? = some r → ∃ o, ops[j]? = some o ∧ IsOp pv P ops n o r := fun j r hj h => hio j r (by rw [← hgetl hj]; exact h)
  obtain ⟨es, σm, hseq, hl, hno, hbf, hK⟩ := z3n hE
  rw [← htk] at hseq hl
  obtain ⟨hIm, hat⟩ := zab (rs.take m) es [] [] (σ0 := σ) rfl hok.dsts (by simpa using HInv.start (rs.take m) es σ) hseq
  simp only [List.nil_append, List.length_nil, Nat.zero_add] at hIm hat
  have htl : (rs.take m).length = m := by rw [List.length_take, Nat.min_eq_left hok.mlt]
  -- no objects are made or written
  have hnos : ∀ (i : Nat) (e : HEff), es[i]? = some e → e.s = none := by
    intro i e he
    have hi := (List.getElem?_eq_some_iff.1 he).1
    rw [hl] at hi
    obtain ⟨ri, hr⟩ : ∃ ri, (rs.take m)[i]? = some ri := ⟨_, List.getElem?_eq_getElem hi⟩
    obtain ⟨σi, _, hop⟩ := hat i ri e hr he
    have hmem := List.mem_of_getElem? hr
    rw [htk] at hmem
    obtain ⟨p1, p2⟩ := hma.pure ri hmem
    cases hs : e.s with
    | none => rfl
    | some q =>
      obtain ⟨x, arr⟩ := q
      have := (hop.made x arr hs).1
      obtain ⟨d, hd⟩ := Option.isSome_iff_exists.1 p1
      unfold ROp.wrs at this
      rw [hd] at this
      simp [p2] at this
  have hHc : ∀ {S : Nat → Bool} {σ' : St}, HInv (rs.take m) es σ S σ' → σ'.H = σ.H := fun hI => funext fun x => hI.H x (fun i e arr he _ hs => by rw [hnos i e he] at hs; cases hs)
  have hend : ∀ {S : Nat → Bool} {σ' : St}, HInv (rs.take m) es σ S σ' → (∀ j, j < m → S j = true) → σ' = σm := by
    intro S σ' hI hall
    have hT : σ'.T = σm.T := by
      funext t
      refine hI.T_eq hl hIm (fun i r h1 _ => ?_)
      have him := (List.getElem?_eq_some_iff.1 h1).1
      rw [htl] at him
      rw [hall i him, htl]; simp [him]
    have hH : σ'.H = σm.H := by rw [hHc hI, hHc hIm]
    cases σ'; cases σm
    simp only at hT hH
    rw [hT, hH]
  -- the update
  unfold z9v at hK
  rw [ziw hbf] at hK
  split at hK
  · rename_i r es0 q d fz e1 e2 e3
    cases e3
    obtain ⟨hr1, hr2, hK⟩ := hK
    let xed : St → St := fun σ' => ⟨fun t => remp r (upk es0 q (σm.get vo)) (σ'.T t), σ'.H⟩
    have hK : z13 P (AFn P) l (xed σm) K := hK
    let I : (Nat → Bool) → Act → World → Prop := fun S a w => (∀ i o, ops[i]? = some o → S i = true → ∀ j, j ∈ z0b o → S j = true) ∧
      (((∀ j, m ≤ j → S j = false) ∧ ∃ μ σ', SR w0 Pr0 n μ σ' a w ∧ HInv (rs.take m) es σ S σ') ∨
       (S m = true ∧ (∀ j, m + 1 ≤ j → S j = false) ∧ ∃ μ σ', SR w0 Pr0 n μ (xed σ') a w ∧ HInv (rs.take m) es σ S σ') ∨
       ∃ k, m + 1 ≤ k ∧ (∀ j, j < ops.size → S j = decide (j < k)) ∧ ∃ μ σ', SR w0 Pr0 n μ σ' a w ∧ z13 P (AFn P) (l.drop (k - (m + 1))) σ' K)
    refine z35 hm hok.edge I ?_ ?_ ⟨(fun i o h e => by cases e), .inl ⟨fun _ _ => rfl, μ, σ, hS.drew, HInv.start _ _ _⟩⟩
    · intro S a' w' i o hI ho hSi hdir
      obtain ⟨hcl, hI⟩ := hI
      have hi : i < ops.size := (Array.getElem?_eq_some_iff.1 ho).1
      have hdeps := z0r (S := S) ops.toList (fun i o h => hcl i o (by rw [← Array.getElem?_toList]; exact h)) i o (by rw [Array.getElem?_toList]; exact ho) hdir
      have hcl' : ∀ i' o', ops[i']? = some o' → (decide (i' = i) || S i') = true → ∀ j, j ∈ z0b o' → (decide (j = i) || S j) = true := by
        intro i' o' h1 h2 j hj
        by_cases e : i' = i
        · subst e
          rw [ho] at h1; cases h1
          simp [hdir j hj]
        · have : S i' = true := by simpa [e] using h2
          simp [hcl i' o' h1 this j hj]
      have tailStep : ∀ {k : Nat} {μ : Nat → Option Nat} {σ' : St}, m + 1 ≤ k → (∀ j, j < ops.size → S j = decide (j < k)) → SR w0 Pr0 n μ σ' a' w' → z13 P (AFn P) (l.drop (k - (m + 1))) σ' K → i = k →
          wpOp P ops Q i (I fun j => decide (j = i) || S j) a' w' := by
        intro k μ' σ' hmk hSk hS' hE' e
        subst e
        have hlt : i - (m + 1) < l.length := by omega
        obtain ⟨o2, ho2, hx2⟩ := hix (i - (m + 1)) _ (List.getElem?_eq_getElem hlt)
        rw [show m + 1 + (i - (m + 1)) = i by omega] at ho2
        rw [List.drop_eq_getElem_cons hlt] at hE'
        simp only [z13] at hE'
        refine wpOp_mono ?_ (zg0 ho2 hx2 hS' hE')
        rintro a2 w2 ⟨μ2, σ2, g1, g2⟩
        refine ⟨hcl', .inr (.inr ⟨i + 1, by omega, fun j hj => ?_, μ2, σ2, g2, ?_⟩)⟩
        · show (decide (j = i) || S j) = _
          rw [hSk j hj, Bool.eq_iff_iff]
          simp; omega
        · rw [show i + 1 - (m + 1) = i - (m + 1) + 1 by omega]; exact g1
      rcases hI with ⟨hS0, μ', σ', hS', hH⟩ | ⟨hSm, hS0, μ', σ', hS', hH⟩ | ⟨k, hmk, hSk, μ', σ', hS', hE'⟩
      · rcases Nat.lt_trichotomy i m with him | him | him
        · refine wpOp_mono ?_ (z6q hok hio' hF' hfz' hl hat him ho hSi hdeps hcl hS' hH)
          rintro a2 w2 ⟨μ2, σ2, g1, g2⟩
          exact ⟨hcl', .inl ⟨fun j hj => by simp [hS0 j hj, show j ≠ i by omega], μ2, σ2, g1, g2⟩⟩
        · subst him
          obtain ⟨o2, ho2, hx2⟩ := hox
          have hTx : ∀ x : IOpd, (x = mo ∨ x = ko ∨ x = vo) → σ'.get x = σm.get x := by
            intro x hx
            cases x with
            | c v => rfl
            | t t =>
              refine hH.T_eq hl hIm (fun k r' h1 h2 => ?_)
              have hk := (List.getElem?_eq_some_iff.1 h1).1
              rw [htk] at h1
              rw [hdeps k (hma.opds t hx k r' h1 h2)]
              exact (decide_eq_true hk).symm
          have hmu : z9v σ' mo ko vo (fun σ'' => σ'' = xed σ') := by
            unfold z9v
            rw [hTx mo (.inl rfl), hTx ko (.inr (.inl rfl)), hTx vo (.inr (.inr rfl)), ziw hbf, e1, e2]
            exact ⟨hr1, by rw [hHc hH, ← hHc hIm]; exact hr2, rfl⟩
          refine wpOp_mono ?_ (zg0 (K := fun σ'' => σ'' = xed σ') ho2 hx2 hS' (show z1j P (AFn P) (.mupd mo ko vo) σ' _ from hmu))
          rintro a2 w2 ⟨μ2, σ2, rfl, g2⟩
          refine ⟨hcl', .inr (.inl ⟨by simp, fun j hj => by simp [hS0 j (by omega), show j ≠ i by omega], μ2, σ', g2, HInv.congr hl hH (fun j hj => ?_)⟩)⟩
          rw [htl] at hj
          simp [show j ≠ i by omega]
        · have := hdeps m (hok.tail i (by omega) hi m (by omega))
          rw [hS0 m (Nat.le_refl _)] at this; cases this
      · rcases Nat.lt_trichotomy i m with him | him | him
        · -- a late read
          obtain ⟨ri, hri⟩ : ∃ ri, hd[i]? = some ri := ⟨_, List.getElem?_eq_getElem (by omega)⟩
          have hrt : (rs.take m)[i]? = some ri := by rw [htk]; exact hri
          obtain ⟨e, he⟩ : ∃ e, es[i]? = some e := ⟨_, List.getElem?_eq_getElem (by rw [hl, htl]; exact him)⟩
          obtain ⟨σi, hIi, hat'⟩ := hat i ri e hrt he
          obtain ⟨o', ho', hop⟩ := hio i ri hri
          rw [ho] at ho'; cases ho'
          obtain ⟨om, hom, _⟩ := hox
          have hlate : i ∉ (z0p ops.toList).getD m [] := fun hmem => by
            have := z0r (S := S) ops.toList (fun i o h => hcl i o (by rw [← Array.getElem?_toList]; exact h)) m om (by rw [Array.getElem?_toList]; exact hom) (hcl m om hom hSm) i hmem
            rw [hSi] at this; cases this
          obtain ⟨lg, lgh, lo, ld⟩ := hma.late i ri hri hlate
          obtain ⟨pd, pp⟩ := hma.pure ri (List.mem_of_getElem? hri)
          obtain ⟨dst, hdst⟩ := Option.isSome_iff_exists.1 pd
          have hodst : o.dst = some dst := by rw [← hop.dst]; exact hdst
          have hog : o.guard = none := by
            have hg := hop.guard
            cases hgo : o.guard with
            | none => rfl
            | some g =>
              rw [hgo] at hg
              obtain ⟨t, _, _, h3⟩ := hg
              rw [lg] at h3; cases h3
          have hew : e.w = true := by
            cases hw : e.w with
            | true => rfl
            | false =>
              have := hat'.guard
              rw [hw, lg] at this
              obtain ⟨_, _, h, _⟩ := this
              cases h
          obtain ⟨fz, s, hes, hfzs, hrun⟩ := (hat'.run hew).1 dst hdst
          have hfz0 : fz = [] := by
            cases fz with
            | nil => rfl
            | cons x fz => simp at hfzs
          subst hfz0
          have hs0 : s = none := by
            have := hnos i e he
            rw [hes] at this
            cases s with
            | none => rfl
            | some _ => cases this
          subst hs0
          have hnot : ∀ k, i ∈ (z0p ops.toList).getD k [] → k < m → S k = false := by
            intro k hk hkm
            cases hs : S k with
            | false => rfl
            | true =>
              exfalso
              obtain ⟨rk, hrk⟩ : ∃ rk, rs[k]? = some rk := ⟨_, List.getElem?_eq_getElem (Nat.lt_of_lt_of_le hkm hok.mlt)⟩
              obtain ⟨ok, hok', hopk⟩ := hio' k rk hkm hrk
              have := z0r (S := S) ops.toList (fun i o h => hcl i o (by rw [← Array.getElem?_toList]; exact h)) k ok (by rw [Array.getElem?_toList]; exact hok') (hcl k ok hok' hs) i hk
              rw [hSi] at this; cases this
          have hri' : rs[i]? = some ri := by rw [hgetl him]; exact hri
          have hopd : ∀ t, .t t ∈ ri.io.opds → σ'.T t = σi.T t ∧ (σi.T t).isMp = false := by
            intro t ht
            obtain ⟨q1, q2⟩ := lo t ht
            refine ⟨hH.T_eq hl hIi (fun k r' h1 h2 => ?_), ?_⟩
            · have hkm := (List.getElem?_eq_some_iff.1 h1).1
              rw [htl] at hkm
              have h1' : rs[k]? = some r' := by rw [hgetl hkm, ← htk]; exact h1
              have hki := q2 k r' (by rw [← htk]; exact h1) h2
              rcases hok.opds i ri t k r' him hri' ht hkm h1' h2 (by omega) with ⟨g1, g2⟩ | ⟨g1, g2⟩
              · rw [hdeps k g1]; simp [g2]
              · omega
            · have : σi.T t = σm.T t := hIi.T_eq hl hIm (fun k r' h1 h2 => by
                have hkm := (List.getElem?_eq_some_iff.1 h1).1
                have := q2 k r' (by rw [← htk]; exact h1) h2
                rw [decide_eq_true this, decide_eq_true hkm])
              rw [this]; exact z9q hno t q1
          have halike : Alike ri.io ri.hid σi (xed σ') := by
            have hHe : (xed σ').H = σi.H := by
              show σ'.H = σi.H
              rw [hHc hH, hHc hIi]
            refine ⟨fun x hx => ?_, fun _ r2 arr _ ha => by rw [hHe]; exact ha, (fun hg => by rw [lgh] at hg; cases hg), fun r2 arr _ ha => ⟨arr, by rw [hHe]; exact ha, rfl⟩⟩
            cases x with
            | c v => rfl
            | t t =>
              obtain ⟨q1, q2⟩ := hopd t hx
              show remp r _ (σ'.T t) = σi.T t
              rw [q1]; exact zgn q2
          have hev := hrun (xed σ') (fun v s' f => v = e.v ∧ s' = none ∧ f = []) halike ⟨rfl, rfl, rfl⟩
          have hcm : zit pv P o = some ri.io := by
            have := hop.io
            unfold zar at this
            split at this
            · rename_i io hT
              cases this
              have := z6w hT
              exfalso
              revert hev
              cases hio2 : ri.io <;> rw [hio2] at this <;> first | (simp [IOp.isMut] at this; done) | (intro hev; exact False.elim hev)
            · exact this
          have hst := hH.step hok.dsts hrt he (fun j e' x arr arr' h1 h2 h3 h4 => by rw [hnos i e he] at h3; cases h3)
          have hv : (e.v).isMp = false := by
            rw [← hIm.dst i ri e dst hrt he (by simpa [htl] using him) hdst]
            exact z9q hno dst (ld dst hdst)
          unfold wpOp
          rw [ho]
          simp only
          rw [if_pos (by simp [Region.wanted, hog])]
          left
          refine Oper.wp_mono ?_ (z48 hcm hodst (hop.lt dst hodst) hS' (fun hp => by rw [pp] at hp; cases hp) hev)
          rintro a2 w2 ⟨μ2, v, s', f, ⟨rfl, rfl, rfl⟩, g2⟩
          refine ⟨hcl', .inr (.inl ⟨by simp [hSm], fun j hj => by simp [hS0 j hj, show j ≠ i by omega], μ2, _, ?_, hst⟩)⟩
          have hxe : xed (σ'.eff ri.dst e.v e.s) = ((xed σ').fzs []).made dst e.v none := by
            rw [hnos i e he, hdst]
            show (⟨fun t => remp r _ (upd σ'.T dst e.v t), σ'.H⟩ : St) = ⟨upd (fun t => remp r _ (σ'.T t)) dst e.v, σ'.H⟩
            have : (fun t => remp r (upk es0 q (σm.get vo)) (upd σ'.T dst e.v t)) = upd (fun t => remp r (upk es0 q (σm.get vo)) (σ'.T t)) dst e.v := by
              funext t
              by_cases ht : t = dst
              · subst ht; rw [z03, z03]; exact zgn hv
              · rw [z04 _ _ ht, z04 _ _ ht]
            rw [this]
          rw [hxe]; exact g2
        · subst him
          rw [hSm] at hSi; cases hSi
        · have hbefore : ∀ j, j < i → S j = true := fun j hj => hdeps j (hok.tail i (by omega) hi j hj)
          have e : i = m + 1 := by
            rcases Nat.lt_or_ge (m + 1) i with h | h
            · have := hbefore (m + 1) h; rw [hS0 (m + 1) (Nat.le_refl _)] at this; cases this
            · omega
          have hσ : σ' = σm := hend hH (fun j hj => hbefore j (by omega))
          subst hσ
          refine tailStep (Nat.le_refl _) (fun j hj => ?_) hS' (by rw [Nat.sub_self]; exact hK) e
          rcases Nat.lt_or_ge j (m + 1) with h | h
          · rw [hbefore j (by omega)]; simp [h]
          · rw [hS0 j h]; simp; omega
      · have e : i = k := by
          have h1 : ¬ i < k := fun h => by rw [hSk i hi] at hSi; simp at hSi; omega
          rcases Nat.lt_or_ge k i with h | h
          · have := hdeps k (hok.tail i (by omega) hi k h)
            rw [hSk k (by omega)] at this
            simp at this
          · omega
        exact tailStep hmk hSk hS' hE' e
    · intro S a' w' hI hall
      obtain ⟨_, hI⟩ := hI
      rcases hI with ⟨hS0, μ', σ', hS', hH⟩ | ⟨hSm, hS0, μ', σ', hS', hH⟩ | ⟨k, hmk, hSk, μ', σ', hS', hE'⟩
      · have h1 := hall m (by omega)
        rw [hS0 m (Nat.le_refl _)] at h1; cases h1
      · have hms : ops.size = m + 1 := by
          rcases Nat.lt_or_ge (m + 1) ops.size with h | h
          · have h1 := hall (m + 1) (by omega); rw [hS0 (m + 1) (Nat.le_refl _)] at h1; cases h1
          · omega
        have hσ : σ' = σm := hend hH (fun j hj => hall j (by omega))
        subst hσ
        obtain rfl : l = [] := List.length_eq_zero_iff.1 (by omega)
        exact hQ _ _ _ _ hK hS'
      · have hk : ops.size ≤ k := by
          rcases Nat.lt_or_ge k ops.size with h | h
          · have h1 := hall k (by omega)
            rw [hSk k (by omega)] at h1
            simp at h1
          · exact h
        rw [List.drop_eq_nil_of_le (by omega)] at hE'
        exact hQ _ _ _ _ hE' hS'
  · exact hK.elim
structure StpAt (tab:List (List Nat)) (hd:List ROp) (m s0 tp tv:Nat):Prop where
 dst:∀ r,r ∈ hd->r.dst.isSome = true∧r.dst ≠ some s0
 opds:∀ t,(t = tp∨t = tv)->∀ (k:Nat) (r:ROp),hd[k]? = some r->r.dst = some t->k ∈ tab.getD m []
 late:∀ (i:Nat) (r:ROp),hd[i]? = some r->i ∉ tab.getD m []->r.guard = none∧r.io.ghost = false∧r.hid.contains s0 = true∧∀ t,.t t ∈ r.io.opds->t < 1000
def zal (σ:St) (z s0 tp tv:Nat) (K:St->Prop):Prop:=match σ.T tp,σ.T tv with
 | .ptr r _ _,.rs q _ _=>r = s0∧q = tv∧z14 σ none K (.storep z (.t tp) (.t tv))
 | _,_=>False
theorem zmq {α:Type} {f:Nat->α} {a b:Nat} {x y:α} (h:a ≠ b):upd (upd f a x) b y = upd (upd f b y) a x:=by
 funext t
 by_cases h1:t = a
 ·subst h1; rw [z04 _ _ h,z03,z03]
 ·by_cases h2:t = b
  ·subst h2; rw [z03,z04 _ _ h1,z03]
  ·rw [z04 _ _ h2,z04 _ _ h1,z04 _ _ h1,z04 _ _ h2]
theorem zmc {ops : Array Oper} {hd : List ROp} {l : List XOp} {m id z s0 tp tv : Nat} {Q : Exit → Act → World → Prop} {K : St → Prop} (hm : P.follows .mixedOrders = true) (hok : DrawOk ops (hd ++ List.replicate (ops.size - m) dumR) m (m + 1)) (hhm : hd.length = m) (hsz : m + 1 + l.length = ops.size)
    (hpa : StpAt (z0p ops.toList) hd m s0 tp tv)
    (hio : ∀ (j : Nat) (r : ROp), hd[j]? = some r → ∃ o, ops[j]? = some o ∧ IsOp pv P ops n o r) (hox : ∃ o, ops[m]? = some o ∧ IsOp pv P ops n o ⟨.storep z (.t tp) (.t tv), none, none, [], []⟩) (hix : ∀ (j : Nat) (x : XOp), l[j]? = some x → ∃ o, ops[m + 1 + j]? = some o ∧ IsX pv P ops n o x) (hS : SR w0 Pr0 n μ σ a w) (hF : z0w hd σ)
    (hE : z0m (AFn P) [] hd σ (fun σ => zal σ z s0 tp tv (fun σ => z13 P (AFn P) l σ K))) (hQ : ∀ μ σ' a w, K σ' → SR w0 Pr0 n μ σ' a w → Q .normal a w) :
    (Code.region id ops true).wp P Q a w := by
  generalize hrs : hd ++ List.replicate (ops.size - m) dumR = rs at hok
  have htk : rs.take m = hd := by rw [← hrs, List.take_append_of_le_length (by omega), List.take_of_length_le (by omega)]
  have hgetl : ∀ {j : Nat}, j < m → rs[j]? = hd[j]? := fun hj => by rw [← hrs, List.getElem?_append_left (by omega)]
  have hmem : ∀ x, x ∈ rs → x.io.pure = false → x ∈ hd := fun x hx hp => by
    rw [← hrs] at hx
    rcases List.mem_append.1 hx with h | h
    · exact h
    · rw [List.eq_of_mem_replicate h] at hp; cases hp
  have hF' : z0w rs σ := fun r hr hp => hF r (hmem r hr hp) hp
  have hfz' : ∀ r, r ∈ ([] : List Nat) → (∀ arr, σ.H r = some arr → arr.prot = arr.cells.length) ∧ ∀ x, x ∈ rs → x.io.pure = false → x.dst ≠ some r := fun r hr => by cases hr
  have hio' : ∀ (j : Nat) (r : ROp), j < m → rs[j]? = some r → ∃ o, ops[j]? = some o ∧ IsOp pv P ops n o r := fun j r hj h => hio j r (by rw [← hgetl hj]; exact h)
  obtain ⟨es, σm, hseq, hl, hK⟩ := z3n hE
  rw [← htk] at hseq hl
  obtain ⟨hIm, hat⟩ := zab (rs.take m) es [] [] (σ0 := σ) rfl hok.dsts (by simpa using HInv.start (rs.take m) es σ) hseq
  simp only [List.nil_append, List.length_nil, Nat.zero_add] at hIm hat
  have htl : (rs.take m).length = m := by rw [List.length_take, Nat.min_eq_left hok.mlt]
  have hwr : ∀ (k : Nat) (e' : HEff) (x : Nat) (arr : Arr), es[k]? = some e' → e'.s = some (x, arr) → ∃ r', k < m ∧ hd[k]? = some r' ∧ r'.dst = some x ∧ r'.io.pure = false := by
    intro k e' x arr hk hx
    have hkl := (List.getElem?_eq_some_iff.1 hk).1
    rw [hl] at hkl
    obtain ⟨rk, hkt⟩ : ∃ rk, (rs.take m)[k]? = some rk := ⟨_, List.getElem?_eq_getElem hkl⟩
    obtain ⟨σk, _, hatk⟩ := hat k rk e' hkt hk
    have q1 := (hatk.made x arr hx).1
    rw [htl] at hkl
    rw [htk] at hkt
    obtain ⟨d, hd'⟩ := Option.isSome_iff_exists.1 (hpa.dst rk (List.mem_of_getElem? hkt)).1
    unfold ROp.wrs at q1
    rw [hd'] at q1
    simp only at q1
    split at q1
    · cases q1
    · rename_i hp
      rw [List.mem_singleton.1 q1]
      exact ⟨rk, hkl, hkt, hd', by simpa using hp⟩
  have hend : ∀ {S : Nat → Bool} {σ' : St}, HInv (rs.take m) es σ S σ' → (∀ j, j < m → S j = true) → σ' = σm := by
    intro S σ' hI hall
    have hT : σ'.T = σm.T := by
      funext t
      refine hI.T_eq hl hIm (fun i r h1 _ => ?_)
      have him := (List.getElem?_eq_some_iff.1 h1).1
      rw [htl] at him
      rw [hall i him, htl]; simp [him]
    have hH : σ'.H = σm.H := by
      funext x
      refine hI.H_eq hIm (fun i e arr h1 _ => ?_)
      have him := (List.getElem?_eq_some_iff.1 h1).1
      rw [hl, htl] at him
      rw [hall i him, htl]; simp [him]
    cases σ'; cases σm
    simp only at hT hH
    rw [hT, hH]
  have hHs0 : ∀ {S : Nat → Bool} {σ' : St}, HInv (rs.take m) es σ S σ' → σ'.H s0 = σ.H s0 := fun hI => hI.H s0 (fun i e arr he _ hs => by
    obtain ⟨r', _, h2, h3, _⟩ := hwr i e s0 arr he hs
    exact (hpa.dst r' (List.mem_of_getElem? h2)).2 h3)
  -- the store
  unfold zal at hK
  split at hK
  · rename_i r ii f q off len e1 e2
    obtain ⟨rfl, rfl, hK⟩ := hK
    simp only [z14] at hK
    rw [show σm.get (.t tp) = σm.T tp from rfl, e1, show σm.get (.t q) = σm.T q from rfl, e2] at hK
    simp only at hK
    split at hK
    · rename_i arr hA
      split at hK
      · rename_i old hO
        obtain ⟨k1, k2, k3, k4, hK⟩ := hK
        let xed : Value → St → St := fun u σ' => ⟨upd σ'.T (vt r (ii * arr.z + f)) (.vrs q off len u), upd σ'.H r (some { arr with cells := arr.cells.set ii (old.patch f 1 (.cst u)) })⟩
        have hK : ∀ u, u.oneCell' = true → z13 P (AFn P) l (xed u σm) K := hK
        let I : (Nat → Bool) → Act → World → Prop := fun S a w => (∀ i o, ops[i]? = some o → S i = true → ∀ j, j ∈ z0b o → S j = true) ∧
          (((∀ j, m ≤ j → S j = false) ∧ ∃ μ σ', SR w0 Pr0 n μ σ' a w ∧ HInv (rs.take m) es σ S σ') ∨
           (S m = true ∧ (∀ j, m + 1 ≤ j → S j = false) ∧ ∃ u μ σ', u.oneCell' = true ∧ SR w0 Pr0 n μ (xed u σ') a w ∧ HInv (rs.take m) es σ S σ') ∨
           ∃ k, m + 1 ≤ k ∧ (∀ j, j < ops.size → S j = decide (j < k)) ∧ ∃ μ σ', SR w0 Pr0 n μ σ' a w ∧ z13 P (AFn P) (l.drop (k - (m + 1))) σ' K)
        refine z35 hm hok.edge I ?_ ?_ ⟨(fun i o h e => by cases e), .inl ⟨fun _ _ => rfl, μ, σ, hS.drew, HInv.start _ _ _⟩⟩
        · intro S a' w' i o hI ho hSi hdir
          obtain ⟨hcl, hI⟩ := hI
          have hi : i < ops.size := (Array.getElem?_eq_some_iff.1 ho).1
          have hdeps := z0r (S := S) ops.toList (fun i o h => hcl i o (by rw [← Array.getElem?_toList]; exact h)) i o (by rw [Array.getElem?_toList]; exact ho) hdir
          have hcl' : ∀ i' o', ops[i']? = some o' → (decide (i' = i) || S i') = true → ∀ j, j ∈ z0b o' → (decide (j = i) || S j) = true := by
            intro i' o' h1 h2 j hj
            by_cases e : i' = i
            · subst e
              rw [ho] at h1; cases h1
              simp [hdir j hj]
            · have : S i' = true := by simpa [e] using h2
              simp [hcl i' o' h1 this j hj]
          have tailStep : ∀ {k : Nat} {μ : Nat → Option Nat} {σ' : St}, m + 1 ≤ k → (∀ j, j < ops.size → S j = decide (j < k)) → SR w0 Pr0 n μ σ' a' w' → z13 P (AFn P) (l.drop (k - (m + 1))) σ' K → i = k →
              wpOp P ops Q i (I fun j => decide (j = i) || S j) a' w' := by
            intro k μ' σ' hmk hSk hS' hE' e
            subst e
            have hlt : i - (m + 1) < l.length := by omega
            obtain ⟨o2, ho2, hx2⟩ := hix (i - (m + 1)) _ (List.getElem?_eq_getElem hlt)
            rw [show m + 1 + (i - (m + 1)) = i by omega] at ho2
            rw [List.drop_eq_getElem_cons hlt] at hE'
            simp only [z13] at hE'
            refine wpOp_mono ?_ (zg0 ho2 hx2 hS' hE')
            rintro a2 w2 ⟨μ2, σ2, g1, g2⟩
            refine ⟨hcl', .inr (.inr ⟨i + 1, by omega, fun j hj => ?_, μ2, σ2, g2, ?_⟩)⟩
            · show (decide (j = i) || S j) = _
              rw [hSk j hj, Bool.eq_iff_iff]
              simp; omega
            · rw [show i + 1 - (m + 1) = i - (m + 1) + 1 by omega]; exact g1
          rcases hI with ⟨hS0, μ', σ', hS', hH⟩ | ⟨hSm, hS0, u, μ', σ', hu, hS', hH⟩ | ⟨k, hmk, hSk, μ', σ', hS', hE'⟩
          · rcases Nat.lt_trichotomy i m with him | him | him
            · refine wpOp_mono ?_ (z6q hok hio' hF' hfz' hl hat him ho hSi hdeps hcl hS' hH)
              rintro a2 w2 ⟨μ2, σ2, g1, g2⟩
              exact ⟨hcl', .inl ⟨fun j hj => by simp [hS0 j hj, show j ≠ i by omega], μ2, σ2, g1, g2⟩⟩
            · subst him
              obtain ⟨o2, ho2, hx2⟩ := hox
              have hTx : ∀ t, (t = tp ∨ t = q) → σ'.T t = σm.T t := by
                intro t ht
                refine hH.T_eq hl hIm (fun k r' h1 h2 => ?_)
                have hk := (List.getElem?_eq_some_iff.1 h1).1
                rw [htk] at h1
                rw [hdeps k (hpa.opds t ht k r' h1 h2)]
                exact (decide_eq_true hk).symm
              have hHq : σ'.H q = σm.H q := hH.H_eq hIm (fun k e arr h1 h2 => by
                obtain ⟨r', g1, g2, g3, _⟩ := hwr k e q arr h1 h2
                rw [hdeps k (hpa.opds q (.inr rfl) k r' g2 g3), htl]
                exact (decide_eq_true g1).symm)
              have hHr : σ'.H r = some arr := by rw [hHs0 hH, ← hHs0 hIm]; exact hA
              have hmu : z14 σ' none (fun σ'' => ∃ u, u.oneCell' = true ∧ σ'' = xed u σ') (.storep z (.t tp) (.t q)) := by
                simp only [z14]
                rw [show σ'.get (.t tp) = σ'.T tp from rfl, hTx tp (.inl rfl), e1, show σ'.get (.t q) = σ'.T q from rfl, hTx q (.inr rfl), e2]
                simp only [hHr, hO]
                exact ⟨k1, k2, k3, by rw [hHq]; exact k4, fun u hu => ⟨u, hu, rfl⟩⟩
              refine wpOp_mono ?_ (zg0 (K := fun σ'' => ∃ u, u.oneCell' = true ∧ σ'' = xed u σ') (x := .op [] ⟨.storep z (.t tp) (.t q), none, none, [], []⟩) ho2 ⟨hx2, rfl⟩ hS' (by
                simp only [z1j, z0f, z1g, z6f, IOp.isMut, if_true, St.kills]
                exact hmu))
              rintro a2 w2 ⟨μ2, σ2, ⟨u, hu, rfl⟩, g2⟩
              refine ⟨hcl', .inr (.inl ⟨by simp, fun j hj => by simp [hS0 j (by omega), show j ≠ i by omega], u, μ2, σ', hu, g2, HInv.congr hl hH (fun j hj => ?_)⟩)⟩
              rw [htl] at hj
              simp [show j ≠ i by omega]
            · have := hdeps m (hok.tail i (by omega) hi m (by omega))
              rw [hS0 m (Nat.le_refl _)] at this; cases this
          · rcases Nat.lt_trichotomy i m with him | him | him
            · -- a late operation
              obtain ⟨ri, hri⟩ : ∃ ri, hd[i]? = some ri := ⟨_, List.getElem?_eq_getElem (by omega)⟩
              have hrt : (rs.take m)[i]? = some ri := by rw [htk]; exact hri
              have hri' : rs[i]? = some ri := by rw [hgetl him]; exact hri
              obtain ⟨e, he⟩ : ∃ e, es[i]? = some e := ⟨_, List.getElem?_eq_getElem (by rw [hl, htl]; exact him)⟩
              obtain ⟨σi, hIi, hat'⟩ := hat i ri e hrt he
              obtain ⟨o', ho', hop⟩ := hio i ri hri
              rw [ho] at ho'; cases ho'
              obtain ⟨om, hom, _⟩ := hox
              have hlate : i ∉ (z0p ops.toList).getD m [] := fun hmem => by
                have := z0r (S := S) ops.toList (fun i o h => hcl i o (by rw [← Array.getElem?_toList]; exact h)) m om (by rw [Array.getElem?_toList]; exact hom) (hcl m om hom hSm) i hmem
                rw [hSi] at this; cases this
              obtain ⟨lg, lgh, lh, lt⟩ := hpa.late i ri hri hlate
              obtain ⟨pd, pn⟩ := hpa.dst ri (List.mem_of_getElem? hri)
              obtain ⟨dst, hdst⟩ := Option.isSome_iff_exists.1 pd
              have hds0 : dst ≠ r := fun e => pn (by rw [hdst, e])
              have hodst : o.dst = some dst := by rw [← hop.dst]; exact hdst
              have hdlt : dst < 1000 := Nat.lt_of_lt_of_le (hop.lt dst hodst) hS'.small
              have hog : o.guard = none := by
                have hg := hop.guard
                cases hgo : o.guard with
                | none => rfl
                | some g =>
                  rw [hgo] at hg
                  obtain ⟨t, _, _, h3⟩ := hg
                  rw [lg] at h3; cases h3
              have hew : e.w = true := by
                cases hw : e.w with
                | true => rfl
                | false =>
                  have := hat'.guard
                  rw [hw, lg] at this
                  obtain ⟨_, _, h, _⟩ := this
                  cases h
              obtain ⟨fz, s, hes, hfzs, hrun⟩ := (hat'.run hew).1 dst hdst
              have hfz0 : fz = [] := by
                cases fz with
                | nil => rfl
                | cons x fz => simp at hfzs
              subst hfz0
              have hnot : ∀ k, i ∈ (z0p ops.toList).getD k [] → k < m → S k = false := by
                intro k hk hkm
                cases hs : S k with
                | false => rfl
                | true =>
                  exfalso
                  obtain ⟨rk, hrk⟩ : ∃ rk, rs[k]? = some rk := ⟨_, List.getElem?_eq_getElem (Nat.lt_of_lt_of_le hkm hok.mlt)⟩
                  obtain ⟨ok, hok', hopk⟩ := hio' k rk hkm hrk
                  have := z0r (S := S) ops.toList (fun i o h => hcl i o (by rw [← Array.getElem?_toList]; exact h)) k ok (by rw [Array.getElem?_toList]; exact hok') (hcl k ok hok' hs) i hk
                  rw [hSi] at this; cases this
              have hord : ∀ k, k ≠ i → k < m → Ord (z0p ops.toList) k i → S k = decide (k < i) := by
                intro k hki hkm hk
                rcases hk with ⟨g1, g2⟩ | ⟨g1, g2⟩
                · rw [hdeps k g1]; simp [g2]
                · rw [hnot k g1 hkm]
                  have : ¬ k < i := by omega
                  simp [this]
              have hopd : ∀ t, .t t ∈ ri.io.opds → σ'.T t = σi.T t := by
                intro t ht
                refine hH.T_eq hl hIi (fun k r' h1 h2 => ?_)
                have hkm := (List.getElem?_eq_some_iff.1 h1).1
                rw [htl] at hkm
                by_cases hki : k = i
                · subst hki; rw [hSi]; simp
                · have h1' : rs[k]? = some r' := by rw [hgetl hkm, ← htk]; exact h1
                  exact hord k hki hkm (hok.opds i ri t k r' him hri' ht hkm h1' h2 hki)
              have hobj : ∀ x arr2, ri.hid.contains x = false → σi.H x = some arr2 → (xed u σ').H x = some arr2 := by
                intro x arr2 hx ha
                have hxr : x ≠ r := fun e => by rw [e, lh] at hx; cases hx
                show upd σ'.H r _ x = _
                rw [z04 _ _ hxr, ← ha]
                refine hH.H_eq hIi (fun k ek ar h1 h2 => ?_)
                obtain ⟨r', hkm, hr', hxd, hxp⟩ := hwr k ek x ar h1 h2
                by_cases hki : k = i
                · subst hki; rw [hSi]; simp
                · have h1' : rs[k]? = some r' := by rw [hgetl hkm]; exact hr'
                  rcases hok.hids i ri k r' x him hri' h1' hki (by rw [ROp.wrs_maker hxp hxd]; simp) with g | g | ⟨g, _⟩ | ⟨g, _⟩
                  · rw [g] at hx; cases hx
                  · exact hord k hki hkm (.inl g)
                  · rw [hxd] at g; cases g
                  · rw [hxd] at g; cases g
              have hvt : 1000 ≤ vt r (ii * arr.z + f) := by unfold vt; omega
              have halike : Alike ri.io ri.hid σi (xed u σ') := by
                refine ⟨fun x hx => ?_, fun _ => hobj, (fun hg => by rw [lgh] at hg; cases hg), fun x arr2 hx ha => ⟨arr2, hobj x arr2 hx ha, rfl⟩⟩
                cases x with
                | c v => rfl
                | t t =>
                  have htl2 := lt t hx
                  show upd σ'.T _ _ t = σi.T t
                  rw [z04 _ _ (by omega)]
                  exact hopd t hx
              have hev := hrun (xed u σ') (fun v s' f => v = e.v ∧ s' = s ∧ f = []) halike ⟨rfl, rfl, rfl⟩
              have hfresh : ri.io.pure = false → (xed u σ').H dst = none ∧ ∀ t, ((xed u σ').T t).name ≠ some dst := by
                intro hp
                have hwrs := ROp.wrs_maker hp hdst
                obtain ⟨q1, q2⟩ := hF ri (List.mem_of_getElem? hri) hp dst hdst
                refine ⟨?_, fun t hn => ?_⟩
                · show upd σ'.H r _ dst = none
                  rw [z04 _ _ hds0, hH.H dst (fun k ek ar h1 h2 h3 => ?_)]
                  · exact q1
                  · obtain ⟨r', hkm, hr', hxd, _⟩ := hwr k ek dst ar h1 h3
                    have := hok.dsts k i r' ri dst (by rw [htk]; exact hr') hrt hxd hdst
                    subst this
                    rw [hSi] at h2; cases h2
                · have hn : (upd σ'.T (vt r (ii * arr.z + f)) (.vrs q off len u) t).name = some dst := hn
                  by_cases hg : t = vt r (ii * arr.z + f)
                  · subst hg
                    rw [z03] at hn
                    have hqd : q = dst := by injection hn
                    exact hlate (hpa.opds q (.inr rfl) i ri hri (by rw [hqd]; exact hdst))
                  · rw [z04 _ _ hg] at hn
                    by_cases qq : ∃ (k : Nat) (r' : ROp), (rs.take m)[k]? = some r' ∧ S k = true ∧ r'.dst = some t
                    · obtain ⟨k, r', h1, h2, h3⟩ := qq
                      have hkm := (List.getElem?_eq_some_iff.1 h1).1
                      obtain ⟨ek, hek⟩ : ∃ ek, es[k]? = some ek := ⟨_, List.getElem?_eq_getElem (by rw [hl]; exact hkm)⟩
                      rw [htl] at hkm
                      obtain ⟨σk, _, hatk⟩ := hat k r' ek h1 hek
                      rw [hH.dst k r' ek t h1 hek h2 h3] at hn
                      have hnm := hatk.name (by rw [h3]; rfl)
                      unfold z12 at hnm
                      rw [hn] at hnm
                      simp only [Bool.not_eq_true'] at hnm
                      have hki : i ≠ k := fun e => by subst e; rw [hSi] at h2; cases h2
                      have h1' : rs[k]? = some r' := by rw [hgetl hkm, ← htk]; exact h1
                      rcases hok.hids k r' i ri dst hkm h1' hri' hki (by rw [hwrs]; simp) with g | ⟨g1, g2⟩ | ⟨g, _⟩ | ⟨g, _⟩
                      · rw [g] at hnm; cases hnm
                      · rw [hnot k g1 hkm] at h2; cases h2
                      · rw [hdst] at g; cases g
                      · rw [hdst] at g; cases g
                    · rw [hH.T t (fun k r' h1 h2 h3 => qq ⟨k, r', h1, h2, h3⟩)] at hn
                      exact q2 t hn
              have hcm : zit pv P o = some ri.io := by
                have := hop.io
                unfold zar at this
                split at this
                · rename_i io hT
                  cases this
                  have := z6w hT
                  exfalso
                  revert hev
                  cases hio2 : ri.io <;> rw [hio2] at this <;> first | (simp [IOp.isMut] at this; done) | (intro hev; exact False.elim hev)
                · exact this
              have hst := hH.step hok.dsts hrt he (fun j e' x arr2 arr' h1 h2 h3 h4 => by
                obtain ⟨r', hkm, hr', hxd, _⟩ := hwr j e' x arr' h1 h4
                obtain ⟨r2, _, hr2, hxd2, _⟩ := hwr i e x arr2 he h3
                have := hok.dsts j i r' r2 x (by rw [htk]; exact hr') (by rw [htk]; exact hr2) hxd hxd2
                subst this
                rw [hSi] at h2; cases h2)
              unfold wpOp
              rw [ho]
              simp only
              rw [if_pos (by simp [Region.wanted, hog])]
              left
              refine Oper.wp_mono ?_ (z48 hcm hodst (hop.lt dst hodst) hS' hfresh hev)
              rintro a2 w2 ⟨μ2, v, s', f', ⟨rfl, rfl, rfl⟩, g2⟩
              refine ⟨hcl', .inr (.inl ⟨by simp [hSm], fun j hj => by simp [hS0 j hj, show j ≠ i by omega], u, μ2, _, hu, ?_, hst⟩)⟩
              have hxe : xed u (σ'.eff ri.dst e.v e.s) = ((xed u σ').fzs []).made dst e.v s' := by
                rw [hes, hdst, zem]
                have hTc : upd (upd σ'.T dst e.v) (vt r (ii * arr.z + f)) (.vrs q off len u) = upd (upd σ'.T (vt r (ii * arr.z + f)) (.vrs q off len u)) dst e.v := zmq (by omega)
                cases s' with
                | none =>
                  show (⟨upd (upd σ'.T dst e.v) _ _, upd σ'.H r _⟩ : St) = ⟨upd (upd σ'.T _ _) dst e.v, upd σ'.H r _⟩
                  rw [hTc]
                | some a3 =>
                  show (⟨upd (upd σ'.T dst e.v) _ _, upd (upd σ'.H dst (some a3)) r _⟩ : St) = ⟨upd (upd σ'.T _ _) dst e.v, upd (upd σ'.H r _) dst (some a3)⟩
                  rw [hTc, zmq hds0]
              rw [hxe]; exact g2
            · subst him
              rw [hSm] at hSi; cases hSi
            · have hbefore : ∀ j, j < i → S j = true := fun j hj => hdeps j (hok.tail i (by omega) hi j hj)
              have e : i = m + 1 := by
                rcases Nat.lt_or_ge (m + 1) i with h | h
                · have := hbefore (m + 1) h; rw [hS0 (m + 1) (Nat.le_refl _)] at this; cases this
                · omega
              have hσ : σ' = σm := hend hH (fun j hj => hbefore j (by omega))
              subst hσ
              refine tailStep (Nat.le_refl _) (fun j hj => ?_) hS' (by rw [Nat.sub_self]; exact hK u hu) e
              rcases Nat.lt_or_ge j (m + 1) with h | h
              · rw [hbefore j (by omega)]; simp [h]
              · rw [hS0 j h]; simp; omega
          · have e : i = k := by
              have h1 : ¬ i < k := fun h => by rw [hSk i hi] at hSi; simp at hSi; omega
              rcases Nat.lt_or_ge k i with h | h
              · have := hdeps k (hok.tail i (by omega) hi k h)
                rw [hSk k (by omega)] at this
                simp at this
              · omega
            exact tailStep hmk hSk hS' hE' e
        · intro S a' w' hI hall
          obtain ⟨_, hI⟩ := hI
          rcases hI with ⟨hS0, μ', σ', hS', hH⟩ | ⟨hSm, hS0, u, μ', σ', hu, hS', hH⟩ | ⟨k, hmk, hSk, μ', σ', hS', hE'⟩
          · have h1 := hall m (by omega)
            rw [hS0 m (Nat.le_refl _)] at h1; cases h1
          · have hms : ops.size = m + 1 := by
              rcases Nat.lt_or_ge (m + 1) ops.size with h | h
              · have h1 := hall (m + 1) (by omega); rw [hS0 (m + 1) (Nat.le_refl _)] at h1; cases h1
              · omega
            have hσ : σ' = σm := hend hH (fun j hj => hall j (by omega))
            subst hσ
            obtain rfl : l = [] := List.length_eq_zero_iff.1 (by omega)
            exact hQ _ _ _ _ (hK u hu) hS'
          · have hk : ops.size ≤ k := by
              rcases Nat.lt_or_ge k ops.size with h | h
              · have h1 := hall k (by omega)
                rw [hSk k (by omega)] at h1
                simp at h1
              · exact h
            rw [List.drop_eq_nil_of_le (by omega)] at hE'
            exact hQ _ _ _ _ hE' hS'
      · exact hK.elim
    · exact hK.elim
  · exact hK.elim
end
end Go.Proofs.YtlhblpbfhfhlpaaGreatDoor
end
section
namespace Go.Proofs.YtlhblpbfhfhlpaaGreatDoor
open Go.RowKit
structure Reg where
 head:List ROp
 tail:List ROp
 kills:List Nat
 fzT:List Nat
 draw:Bool
def z3h (C:FuncId->List AV->AV->Prop) (g:Reg) (σ:St) (K:St->Prop):Prop :=
 if g.draw then
  z0m C (g.fzT.filterMap fun t=>((σ.kills g.kills).T t).name) g.head ((σ.kills g.kills).fzs (g.fzT.filterMap fun t=>((σ.kills g.kills).T t).name)) fun σ=>z0f C g.tail σ K
 else z0f C g.tail (σ.kills g.kills) K
def Reg.ren (s q:Nat) (g:Reg):Reg:={ g with head:=g.head.map (ROp.ren s q),tail:=g.tail.map (ROp.ren s q) }
def renOk (s:Nat) (rs:List ROp):Bool:=rs.all fun r=>r.dst != some s && (match r.dst with | some d=>decide (d < 1000) | none=>true) && r.wr.all fun x=>decide (x < 1000)
theorem renOk_of {s:Nat} {rs:List ROp} (h:renOk s rs = true):(∀ r,r ∈ rs->r.dst ≠ some s)∧(∀ r,r ∈ rs->∀ d,r.dst = some d->d < 1000)∧(∀ r,r ∈ rs->∀ x,x ∈ r.wr->x < 1000):=by
 unfold renOk at h
 rw [List.all_eq_true] at h
 refine ⟨fun r hr=>?_,fun r hr d hd=>?_,fun r hr x hx=>?_⟩
 ·have:=h r hr
  simp only [Bool.and_eq_true,bne_iff_ne] at this
  exact this.1.1
 ·have:=h r hr
  rw [hd] at this
  simp only [Bool.and_eq_true,decide_eq_true_eq] at this
  exact this.1.2
 ·have:=h r hr
  simp only [Bool.and_eq_true,List.all_eq_true,decide_eq_true_eq] at this
  exact this.2 x hx
def z58 (C:FuncId->List AV->AV->Prop) (g:Reg) (s:Nat) (σ:St) (K:St->Prop):Prop :=
 match (σ.T s).name with
 | some q=>1000≤q∧z3h C (g.ren s q) σ K
 | none=>False
def z6u (P:Program) (C:FuncId->List AV->AV->Prop) (g:Reg) (l:List XOp) (σ:St) (K:St->Prop):Prop :=
 z0m C (g.fzT.filterMap fun t=>((σ.kills g.kills).T t).name) g.head ((σ.kills g.kills).fzs (g.fzT.filterMap fun t=>((σ.kills g.kills).T t).name)) fun σ=>z13 P C l σ K
def z8g (P:Program) (C:FuncId->List AV->AV->Prop) (g:Reg) (lt:List Nat) (mo ko vo:IOpd) (l:List XOp) (σ:St) (K:St->Prop):Prop :=
 z0m C [] g.head σ fun σ=>z83 lt σ∧(σ.get vo).byFree = true∧z9v σ mo ko vo (fun σ=>z13 P C l σ K)
def z6t (P:Program) (C:FuncId->List AV->AV->Prop) (g:Reg) (z s0 tp tv:Nat) (l:List XOp) (σ:St) (K:St->Prop):Prop :=
 z0m C [] g.head (σ.kills g.kills) fun σ=>zal σ z s0 tp tv (fun σ=>z13 P C l σ K)
structure GIni where
 r:Nat
 j:Nat
 q:Nat
 z:Nat
 ty:TypeId
def z6s:List GIni->St->(St->Prop)->Prop
 | [],σ,K=>K σ
 | g :: l,σ,K=>g.q < 1000∧0 < g.z∧z6s l ⟨upd (σ.kill g.q).T (vt g.r g.j) (.vrs g.q 0 0 (.slice none 0 0)),upd (σ.kill g.q).H g.q (some ⟨g.z,g.ty,[],0⟩)⟩ K
inductive IR where
 | gini (l:List GIni)
 | skip
 | reg (g:Reg)
 | regw (g:Reg) (s:Nat)
 | regd (P:Program) (g:Reg) (l:List XOp)
 | regp (P:Program) (g:Reg) (z s0 tp tv:Nat) (l:List XOp)
 | regm (P:Program) (g:Reg) (lt:List Nat) (mo ko vo:IOpd) (l:List XOp)
 | regx (P:Program) (l:List XOp)
 | seq (x y:IR)
 | cond (c:IOpd) (x y:IR)
 | block (id:Nat) (b:IR)
 | loop (b:IR)
 | exit (id:Nat)
 | ret
inductive XK where
 | normal
 | exit (id:Nat)
 | ret
def z3j (K:St->Prop) (Q:XK->St->Prop):XK->St->Prop
 | .normal,σ=>K σ
 | e,σ=>Q e σ
def z4g (id:Nat) (Q:XK->St->Prop):XK->St->Prop
 | .exit j,σ=>if j = id then Q .normal σ else Q (.exit j) σ
 | e,σ=>Q e σ
def iter (F:(XK->St->Prop)->St->Prop) (Q:XK->St->Prop):Nat->St->Prop
 | 0,_=>False
 | n + 1,σ=>F (z3j (iter F Q n) Q) σ
def awp (C:FuncId->List AV->AV->Prop):IR->(XK->St->Prop)->St->Prop
 | .gini l,Q,σ=>z6s l σ (Q .normal)
 | .skip,Q,σ=>Q .normal σ
 | .reg g,Q,σ=>z3h C g σ (Q .normal)
 | .regw g s,Q,σ=>z58 C g s σ (Q .normal)
 | .regd P g l,Q,σ=>z6u P C g l σ (Q .normal)
 | .regp P g z s0 tp tv l,Q,σ=>z6t P C g z s0 tp tv l σ (Q .normal)
 | .regm P g lt mo ko vo l,Q,σ=>z8g P C g lt mo ko vo l σ (Q .normal)
 | .regx P l,Q,σ=>z13 P C l σ (Q .normal)
 | .seq x y,Q,σ=>awp C x (z3j (awp C y Q) Q) σ
 | .cond c x y,Q,σ=>match σ.get c with
  | .bool b=>(b = true->awp C x Q σ)∧(b = false->awp C y Q σ)
  | _=>False
 | .block id b,Q,σ=>awp C b (z4g id Q) σ
 | .loop b,Q,σ=>∃ k,iter (awp C b) Q k σ
 | .exit id,Q,σ=>Q (.exit id) σ
 | .ret,Q,σ=>Q .ret σ
def zbb (pv:Bool) (P:Program) (n:Nat) (ops:Array Oper) (o:Oper):Option ROp :=
 match zar pv P o with
 | some io=>if o.dst.all (· < n) then match o.guard with
   | none=>some ⟨io,o.dst,none,[],[]⟩
   | some (j,w)=>match (ops[j]?).bind (·.dst) with
    | some t=>if t < n then some ⟨io,o.dst,some (t,w),[],[]⟩ else none
    | none=>none
  else none
 | none=>none
def z0t (rs:List ROp):List (Nat × Nat):=rs.zipIdx.filterMap fun p=>if p.1.io.pure then none else p.1.dst.map fun d=>(p.2,d)
def z4u:List ROp->Bool
 | []=>true
 | o :: l=>(l.all fun r=>r.io.pure || match r.dst with
   | some d=>o.hid.contains d && o.dst != some d
   | none=>true) && z4u l
def z3s (l:List IOpd):List Nat:=l.filterMap fun | .t t=>some t | .c _=>none
def ordB (tab:List (List Nat)) (k i:Nat):Bool:=((tab.getD i []).contains k && decide (k < i)) || ((tab.getD k []).contains i && decide (i < k))
def noMkB (rs:List ROp):Bool:=rs.all fun r=>r.dst.isNone || r.io.pure
def z7m (ops:Array Oper) (rs:List ROp) (m tl:Nat):Bool :=
 let tab:=z0p ops.toList
 let hd:=(rs.take m).zipIdx
 rs.length == ops.size && decide (m≤rs.length) &&
 (ops.toList.zipIdx.all fun p=>(z0b p.1).all fun j=>decide (j < p.2)) &&
 (hd.all fun p=>hd.all fun q=>p.2 == q.2 || p.1.dst != q.1.dst || p.1.dst.isNone) &&
 (hd.all fun p=>hd.all fun q=>match q.1.dst with
  | some t=>q.2 == p.2 || !((z3s p.1.io.opds).contains t || (match p.1.guard with | some (g,_)=>g == t | none=>false)) || ordB tab q.2 p.2
  | none=>true) &&
 (hd.all fun p=>rs.zipIdx.all fun q=>q.2 == p.2 || q.1.wrs.all fun x=>p.1.hid.contains x || ((tab.getD p.2 []).contains q.2 && decide (q.2 < p.2)) || (q.1.dst.isNone && (tab.getD q.2 []).contains p.2 && decide (p.2 < q.2)) || (q.1.dst.isNone && p.1.io.free && noMkB rs)) &&
 (hd.all fun p=>(rs.zipIdx.drop m).all fun q=>q.1.io.pure || match q.1.dst with
  | some d=>!p.1.wrs.contains d
  | none=>true) &&
 ((List.range ops.size).all fun k=>decide (k < tl) || (List.range k).all fun j=>(tab.getD k []).contains j) &&
 z4u (rs.drop m) &&
 (hd.all fun p=>hd.all fun q=>q.2 == p.2 || p.1.wrs.all fun x=>!q.1.wrs.contains x || ((tab.getD q.2 []).contains p.2 && decide (p.2 < q.2)) || ((tab.getD p.2 []).contains q.2 && decide (q.2 < p.2) && p.1.dst.isNone))
def z1m (rs:List ROp) (f:Nat->List Nat):List ROp:=rs.zipIdx.map fun p=>{ p.1 with hid:=f p.2 }
def rootOf (rs:List ROp):Nat->Nat->Nat
 | 0,t=>t
 | d + 1,t=>match rs.find? (fun r=>r.dst == some t) with
  | some r=>match r.io with
   | .faddr _ (.t s) | .iaddr _ (.t s) _ | .mv (.t s)=>rootOf rs d s
   | _=>t
  | none=>t
def z6i (rs:List ROp):List ROp:=rs.map fun r=>match r.io with
 | .store _ (.t p) _=>{ r with wr:=[rootOf rs 6 p] }
 | _=>r
def z8p (tab:List (List Nat)) (n:Nat):Nat:=n - ((List.range n).reverse.takeWhile fun k=>(List.range k).all fun j=>(tab.getD k []).contains j).length
def z5p (pv:Bool) (P:Program) (n:Nat) (fzT:List Nat) (ops:Array Oper) (draw:Bool):Option Reg :=
 match ops.toList.mapM (zbb pv P n ops) with
 | none=>none
 | some rs0 =>
  let mk:=z0t rs0
  if draw then
   let tab:=z0p ops.toList
   let m:=z8p tab ops.size
   let rs1:=z6i rs0
   let rs:=z1m rs1 fun i=>(mk.filterMap fun p=>if p.1 = i then none else if i < m then (if (tab.getD i []).contains p.1 then none else some p.2) else (if i < p.1 then some p.2 else none)) ++
    (if i < m && !(noMkB rs1 && (match rs1[i]? with | some r=>r.io.free | none=>false)) then (rs1.take m).zipIdx.flatMap fun p=>if p.2 = i then [] else if ordB tab p.2 i then [] else p.1.wr else [])
   if z7m ops rs m m then some ⟨rs.take m,rs.drop m,mk.map (·.2),fzT,true⟩ else none
  else
   let rs:=z1m rs0 fun i=>mk.filterMap fun p=>if i < p.1 then some p.2 else none
   if z4u rs then some ⟨[],rs,mk.map (·.2),[],false⟩ else none
def isTmpX:Operand->Bool | .tmp _=>true | _=>false
def anyPtr (P:Program) (ts:Array TypeId):Bool:=ts.any fun t=>match P.underlying t with | some (.pointer _)=>true | _=>false
def compG (n:Nat) (ops:Array Oper):Option (Nat × Bool)->Option (Option (Nat × Bool))
 | none=>some none
 | some (j,w)=>match (ops[j]?).bind (·.dst) with
  | some t=>if t < n then some (some (t,w)) else none
  | none=>none
def zq8 (P:Program) (t:TypeId):Option TypeId:=match P.underlying t with
 | some (.map kt et)=>match P.underlying kt with
  | some (.int .i64)=>some et
  | _=>none
 | _=>none
theorem zhy {P:Program} {t et:TypeId} (h:zq8 P t = some et):∃ kt,P.underlying t = some (.map kt et)∧P.underlying kt = some (.int .i64):=by
 unfold zq8 at h
 split at h
 ·rename_i kt et' h1
  split at h
  ·rename_i h2; cases h; exact ⟨kt,h1,h2⟩
  ·cases h
 ·cases h
def zeroI (P:Program) (et:TypeId):Option AV:=match P.info? et with
 | some i=>match i.zero with
  | some zv=>z1h zv
  | none=>none
 | none=>none
theorem zeroI_of {P:Program} {et:TypeId} {z:AV} (h:zeroI P et = some z):∃ i zv,P.info? et = some i∧i.zero = some zv∧z1h zv = some z:=by
 unfold zeroI at h
 split at h
 ·rename_i i h1
  split at h
  ·rename_i zv h2; exact ⟨i,zv,h1,h2,h⟩
  ·cases h
 ·cases h
def zr4 (P:Program) (n:Nat) (ops:Array Oper) (o:Oper) (t:TypeId) (x ix:Operand) (ok:Bool) (d:Nat):Option XOp :=
 if d < n then match zq8 P t with
  | some et=>match zeroI P et,z02 x,z02 ix,compG n ops o.guard with
   | some z,some m,some k,some gd=>some (.mlook d ok m k z gd)
   | _,_,_,_=>none
  | none=>none
 else none
def compUpd (P:Program) (t:TypeId) (x ix y:Operand):Option XOp:=match zq8 P t with
 | some _=>match z02 x,z02 ix,z02 y with
  | some m,some k,some v=>some (.mupd m k v)
  | _,_,_=>none
 | none=>none
def gMode (wc:Nat) (f:Operand):Bool:=match z02 f with
 | some (.c (.clo g [] []))=>g + 4 == wc
 | _=>false
def zis (pv:Bool) (P:Program) (n:Nat) (wc:Nat) (ops:Array Oper) (o:Oper):Option XOp :=
 let other:=(zbb pv P n ops o).map fun r=>.op (zcg r) r
 match o.op,o.dst,o.guard.isNone with
 | .nilCheck x,some d,_=>if d < n then match z02 x,compG n ops o.guard with
   | some ix,some gd=>some (.nilck d ix gd)
   | _,_=>none
  else none
 | .makeFunc (.func f) first caps,some d,true=>if 4≤wc then other else match first.toList,caps.toList with
  | [],[x]=>if d < n then (z02 x).map (.mkclo d f) else none
  | _,_=>other
 | .makeMap t none,some d,true=>if d < n then some (.mkmap d t) else none
 | .lookup t x ix ok,some d,_=>zr4 P n ops o t x ix ok d
 | .mapUpdate t x ix y,none,true=>compUpd P t x ix y
 | .call c,some d,true=>match c.callee with
  | .value f=>if wc == 1 || gMode wc f then
    (if d < n then match z02 f,z0k c.args.toList with
     | some fx,some xs=>some (.wcall d fx xs)
     | _,_=>none
    else none) else if decide (wc < 4) && (anyPtr P c.argTypes || isTmpX f) then
    (if d < n then match z02 f,z0k c.args.toList with
     | some fx,some xs=>some (if wc == 2 && isTmpX f then .gcall d fx xs else .mcall d fx xs)
     | _,_=>none
    else none) else other
  | _=>other
 | _,_,_=>other
def needsX (pv:Bool) (P:Program) (n:Nat) (ops:Array Oper):Bool:=ops.any fun o=>(zbb pv P n ops o).isNone || (match o.op with
 | .call c=>match c.callee with
  | .value _=>anyPtr P c.argTypes
  | _=>false
 | _=>false)
def giniOf (P:Program) (o:Oper):List GIni:=match o.op,o.dst with
 | .alloc e,some r=>match P.underlying e with
  | some (.struct fs)=>fs.toList.filterMap fun f=>match P.underlying f.type with
   | some (.slice et)=>(P.info? et).map fun i=>⟨r,f.offset,500 + (8 * r + f.offset % 8) % 500,i.size,et⟩
   | _=>none
  | some (.slice et)=>match P.info? et with
   | some i=>[⟨r,0,500 + 8 * r % 500,i.size,et⟩]
   | none=>[]
  | _=>[]
 | _,_=>[]
def zb1 (pv:Bool) (P:Program) (ops:Array Oper) (x:IR):IR:=if pv then match ops.toList.flatMap (giniOf P) with
 | []=>x
 | l=>.seq x (.gini l)
 else x
def slotW (g:Reg):Option Nat:=((g.head ++ g.tail).filterMap fun r=>r.wr.head?).head?
def regRow (w draw:Bool) (g:Reg):IR:=if w && draw then match slotW g with
 | some s=>if renOk s (g.head ++ g.tail) then .regw g s else .reg g
 | none=>.reg g
 else .reg g
def fzOf (h:List Nat):List Nat:=if h == [1] || h == [2] then [] else match h with | 3 :: _=>[] | h=>h
def mdOf (h:List Nat):Nat:=if h == [1] then 1 else if h == [2] then 2 else match h with | [3,f]=>f + 4 | _=>0
def zfm (pv:Bool) (P:Program) (n:Nat) (fzT:List Nat) (ops:Array Oper) (draw:Bool):Option (Reg × List XOp) :=
 if draw then
  let tab:=z0p ops.toList
  let m:=z8p tab ops.size
  match (ops.toList.take m).mapM (zbb pv P n ops),(ops.toList.drop m).mapM (zis pv P n 0 ops) with
  | some rs0,some l =>
   let mk:=z0t rs0
   let rs1:=z6i rs0
   let rs:=z1m rs1 fun i=>(mk.filterMap fun p=>if p.1 = i then none else (if (tab.getD i []).contains p.1 then none else some p.2)) ++
    (rs1.zipIdx.flatMap fun p=>if p.2 = i then [] else if ordB tab p.2 i then [] else p.1.wr)
   if z7m ops (rs ++ List.replicate (ops.size - m) dumR) m m && rs.length == m then some (⟨rs,[],mk.map (·.2),fzT,true⟩,l) else none
  | _,_=>none
 else none
def lateT (tab:List (List Nat)) (rs:List ROp) (m:Nat):List Nat:=rs.zipIdx.flatMap fun p=>if (tab.getD m []).contains p.2 then [] else z3s p.1.io.opds ++ p.1.dst.toList
def mapAtB (tab:List (List Nat)) (rs:List ROp) (m:Nat) (mo ko vo:IOpd):Bool :=
 (rs.all fun r=>r.dst.isSome && r.io.pure) &&
 ((z3s [mo,ko,vo]).all fun t=>rs.zipIdx.all fun p=>p.1.dst != some t || (tab.getD m []).contains p.2) &&
 (rs.zipIdx.all fun p=>(tab.getD m []).contains p.2 || (p.1.guard.isNone && !p.1.io.ghost && (z3s p.1.io.opds).all fun t=>rs.zipIdx.all fun q=>q.1.dst != some t || decide (q.2 < p.2)))
def zfl (pv:Bool) (P:Program) (n:Nat) (ops:Array Oper) (draw:Bool):Option (List ROp × List Nat × IOpd × IOpd × IOpd × List XOp) :=
 if draw then
  let tab:=z0p ops.toList
  let m:=z8p tab ops.size - 1
  match (ops.toList.take m).mapM (zbb pv P n ops),(ops[m]?).bind (zis pv P n 0 ops),(ops.toList.drop (m + 1)).mapM (zis pv P n 0 ops) with
  | some rs,some (.mupd mo ko vo),some l =>
   if z7m ops (rs ++ List.replicate (ops.size - m) dumR) m (m + 1) && rs.length == m && mapAtB tab rs m mo ko vo then some (rs,lateT tab rs m,mo,ko,vo,l) else none
  | _,_,_=>none
 else none
def stpAtB (tab:List (List Nat)) (rs:List ROp) (m s0 tp tv:Nat):Bool :=
 (rs.all fun r=>r.dst.isSome && r.dst != some s0) &&
 ([tp,tv].all fun t=>rs.zipIdx.all fun p=>p.1.dst != some t || (tab.getD m []).contains p.2) &&
 (rs.zipIdx.all fun p=>(tab.getD m []).contains p.2 || (p.1.guard.isNone && !p.1.io.ghost && p.1.hid.contains s0 && (z3s p.1.io.opds).all fun t=>decide (t < 1000)))
def zfk (pv:Bool) (P:Program) (n:Nat) (ops:Array Oper) (draw:Bool):Option (Reg × Nat × Nat × Nat × Nat × List XOp) :=
 if draw && pv then
  let tab:=z0p ops.toList
  let m:=z8p tab ops.size - 1
  match (ops.toList.take m).mapM (zbb pv P n ops),(ops[m]?).bind (zbb pv P n ops),(ops.toList.drop (m + 1)).mapM (zis pv P n 0 ops) with
  | some rs0,some ⟨.storep z (.t tp) (.t tv),none,none,_,_⟩,some l =>
   let mk:=z0t rs0
   let s0:=rootOf rs0 6 tp
   let rs:=z1m rs0 fun i=>(mk.filterMap fun p=>if p.1 = i then none else (if (tab.getD i []).contains p.1 then none else some p.2)) ++ (if (tab.getD m []).contains i then [] else [s0])
   if z7m ops (rs ++ List.replicate (ops.size - m) dumR) m (m + 1) && rs.length == m && stpAtB tab rs m s0 tp tv then some (⟨rs,[],mk.map (·.2),[],true⟩,z,s0,tp,tv,l) else none
  | _,_,_=>none
 else none
def deadI:IR:=.cond (.c .nilp) .skip .skip
def comp (pv:Bool) (P:Program) (n:Nat) (hint:Nat->List Nat):Code->Option IR
 | .skip=>some .skip
 | .region id ops draw=>if !draw && (!(hint id).isEmpty || needsX pv P n ops) then (match ops.toList.mapM (zis pv P n (mdOf (hint id)) ops) with
  | some l=>some (zb1 pv P ops (.regx P l))
  | none=>some deadI) else match zfk pv P n ops draw with
  | some p=>some (zb1 pv P ops (.regp P p.1 p.2.1 p.2.2.1 p.2.2.2.1 p.2.2.2.2.1 p.2.2.2.2.2))
  | none=>match z5p pv P n (fzOf (hint id)) ops draw with
  | some g=>some (zb1 pv P ops (regRow (hint id == [1]) draw g))
  | none=>match zfm pv P n (fzOf (hint id)) ops draw with
   | some p=>some (zb1 pv P ops (.regd P p.1 p.2))
   | none=>match zfl pv P n ops draw with
    | some p=>some (zb1 pv P ops (.regm P ⟨p.1,[],[],[],true⟩ p.2.1 p.2.2.1 p.2.2.2.1 p.2.2.2.2.1 p.2.2.2.2.2))
    | none=>some deadI
 | .seq a b=>match comp pv P n hint a,comp pv P n hint b with
  | some x,some y=>some (.seq x y)
  | _,_=>none
 | .cond c a b=>match z02 c,comp pv P n hint a,comp pv P n hint b with
  | some c,some x,some y=>some (.cond c x y)
  | _,_,_=>none
 | .block id b=>(comp pv P n hint b).map (.block id)
 | .loop b=>(comp pv P n hint b).map .loop
 | .exit id=>some (.exit id)
 | .ret=>some .ret
 | _=>none
theorem z27 {α:Type} {l:List α} {p:α × Nat->Bool} (h:l.zipIdx.all p = true) {i:Nat} {x:α} (hx:l[i]? = some x):p (x,i) = true:=by
 rw [List.all_eq_true] at h
 refine h (x,i) ?_
 rw [List.mem_iff_getElem?]
 exact ⟨i,by rw [List.getElem?_zipIdx,hx]; simp⟩
theorem z5n:∀ {l:List ROp},z4u l = true->z2n l
 | [],_=>trivial
 | o :: l,h=>by
  simp only [z4u,Bool.and_eq_true] at h
  refine ⟨fun r hr hp d hd=>?_,z5n h.2⟩
  have:=List.all_eq_true.1 h.1 r hr
  rw [hp,hd] at this
  simpa using this
theorem ordB_ok {tab:List (List Nat)} {k i:Nat} (h:ordB tab k i = true):Ord tab k i:=by
 unfold ordB at h
 simp only [Bool.or_eq_true,Bool.and_eq_true,decide_eq_true_eq,List.contains_iff_mem] at h
 exact h
theorem noMk_of {rs:List ROp} (h:noMkB rs = true):NoMk rs:=fun r hr hd=>by
 have:=List.all_eq_true.1 h r hr
 rw [Bool.or_eq_true] at this
 rcases this with h | h
 ·rw [Option.isNone_iff_eq_none.1 h] at hd; cases hd
 ·exact h
theorem z4v {ops:Array Oper} {rs:List ROp} {m tl:Nat} (h:z7m ops rs m tl = true):DrawOk ops rs m tl:=by
 unfold z7m at h
 simp only [Bool.and_eq_true,beq_iff_eq,decide_eq_true_eq] at h
 obtain ⟨⟨⟨⟨⟨⟨⟨⟨⟨h1,h2⟩,h3⟩,h4⟩,h5⟩,h6⟩,h7⟩,h8⟩,h9⟩,h10⟩:=h
 have ht:∀ {i:Nat} {r:ROp},i < m->rs[i]? = some r->(rs.take m)[i]? = some r:=fun hi hr=>by rw [List.getElem?_take,if_pos hi]; exact hr
 have five:∀ {i:Nat} {r:ROp} {t k:Nat} {r':ROp},i < m->rs[i]? = some r->k < m->rs[k]? = some r'->r'.dst = some t->k ≠ i ->
   ((z3s r.io.opds).contains t || (match r.guard with | some (g,_)=>g == t | none=>false)) = true->Ord (z0p ops.toList) k i:=by
  intro i r t k r' hi hr hk hr' hd hne hc
  have:=z27 (z27 h5 (ht hi hr)) (ht hk hr')
  simp only [hd] at this
  rw [hc] at this
  simp only [Bool.not_true,Bool.or_false,Bool.or_eq_true,beq_iff_eq] at this
  rcases this with h | h
  ·exact absurd h hne
  ·exact ordB_ok h
 refine ⟨h1,h2,fun i o ho j hj=>?_,fun i j r r' d hi hj hd hd'=>?_,fun i r t k r' hi hr hx hk hr' hd hne=>?_,fun i r t b k r' hi hr hg hk hr' hd hne=>?_,fun i r k r' x hi hr hr' hne hx=>?_,fun i r k r' x hi hr hk hr' hne hx hx'=>?_,fun i r k r' d hi hr hk hr' hp hd e=>?_,fun k hk hks j hj=>?_,z5n h9⟩
 ·have:=z27 h3 (i:=i) (x:=o) (by rw [Array.getElem?_toList]; exact ho)
  have:=List.all_eq_true.1 this j hj
  simpa using this
 ·have:=z27 (z27 h4 hi) hj
  simp only [hd,hd'] at this
  simpa using this
 ·refine five hi hr hk hr' hd hne ?_
  have:t ∈ z3s r.io.opds:=List.mem_filterMap.2 ⟨.t t,hx,rfl⟩
  simp [this]
 ·refine five hi hr hk hr' hd hne ?_
  simp [hg]
 ·have:=z27 (z27 h6 (ht hi hr)) hr'
  simp only [Bool.or_eq_true,beq_iff_eq] at this
  rcases this with h | h
  ·exact absurd h hne
  ·have:=List.all_eq_true.1 h x hx
   simp only [Bool.or_eq_true,Bool.and_eq_true,decide_eq_true_eq,List.contains_iff_mem,Option.isNone_iff_eq_none] at this
   rcases this with ((h | h) | ⟨⟨a,b⟩,c⟩) | ⟨⟨a,b⟩,c⟩
   ·exact .inl (by simpa using h)
   ·exact .inr (.inl h)
   ·exact .inr (.inr (.inl ⟨a,b,c⟩))
   ·exact .inr (.inr (.inr ⟨a,b,noMk_of c⟩))
 ·have:=z27 (z27 h10 (ht hi hr)) (ht hk hr')
  simp only [Bool.or_eq_true,beq_iff_eq] at this
  rcases this with h | h
  ·exact absurd h hne
  ·have:=List.all_eq_true.1 h x hx
   simp only [Bool.or_eq_true,Bool.and_eq_true,decide_eq_true_eq,List.contains_iff_mem,Option.isNone_iff_eq_none,Bool.not_eq_true'] at this
   rcases this with (h | h) | ⟨⟨a,b⟩,c⟩
   ·rw [List.contains_iff_mem.2 hx'] at h; cases h
   ·exact .inl h
   ·exact .inr ⟨a,b,c⟩
 ·have h7':=z27 h7 (ht hi hr)
  rw [List.all_eq_true] at h7'
  have:=h7' (r',k) (by
   rw [List.mem_iff_getElem?]
   refine ⟨k - m,?_⟩
   rw [List.getElem?_drop,show m + (k - m) = k by omega,List.getElem?_zipIdx,hr']; simp)
  simp only [hp,hd,Bool.false_or,Bool.not_eq_true'] at this
  rw [List.contains_iff_mem.2 e] at this; cases this
 ·have:=List.all_eq_true.1 h8 k (by simpa using hks)
  simp only [Bool.or_eq_true,decide_eq_true_eq] at this
  rcases this with h | h
  ·omega
  ·have:=List.all_eq_true.1 h j (by simpa using hj)
   simpa using this
theorem z0z {pv:Bool} {P:Program} {n:Nat} {ops:Array Oper} {o:Oper} {r:ROp} (h:zbb pv P n ops o = some r) (hid wr:List Nat):IsOp pv P ops n o { r with hid:=hid,wr:=wr }:=by
 unfold zbb at h
 split at h
 ·rename_i io hio
  split at h
  ·rename_i hd
   have hd':∀ d,o.dst = some d->d < n:=fun d e=>by rw [e] at hd; simpa using hd
   split at h
   ·rename_i hg
    cases h
    exact ⟨hio,rfl,hd',by rw [hg]⟩
   ·rename_i j w hg
    split at h
    ·rename_i t ht
     split at h
     ·rename_i hlt
      cases h
      exact ⟨hio,rfl,hd',by rw [hg]; exact ⟨t,ht,hlt,rfl⟩⟩
     ·cases h
    ·cases h
  ·cases h
 ·cases h
theorem z2m {α β:Type} {f:α->Option β}:∀ {l:List α} {m:List β},l.mapM f = some m->l.length = m.length∧∀ (i:Nat) (b:β),m[i]? = some b->∃ a,l[i]? = some a∧f a = some b
 | [],m,h=>by
  simp at h; subst h
  exact ⟨rfl,fun i b h=>by simp at h⟩
 | a :: l,m,h=>by
  rw [List.mapM_cons] at h
  simp only [Option.bind_eq_bind,Option.bind_eq_some_iff] at h
  obtain ⟨b,h1,bs,h2,h3⟩:=h
  cases h3
  obtain ⟨k1,k2⟩:=z2m h2
  refine ⟨by simp [k1],fun i b' hi=>?_⟩
  cases i with
  | zero=>simp at hi; subst hi; exact ⟨a,rfl,h1⟩
  | succ i=>exact k2 i b' hi
theorem z2f {rs:List ROp} {f:Nat->List Nat} {i:Nat} {r:ROp} (h:(z1m rs f)[i]? = some r):∃ r0,rs[i]? = some r0∧r = { r0 with hid:=f i }:=by
 unfold z1m at h
 rw [List.getElem?_map,Option.map_eq_some_iff] at h
 obtain ⟨p,hp,rfl⟩:=h
 rw [List.getElem?_zipIdx,Option.map_eq_some_iff] at hp
 obtain ⟨r0,hr,rfl⟩:=hp
 exact ⟨r0,hr,by simp⟩
theorem zcb {rs:List ROp} {r:ROp} {d:Nat} (hr:r ∈ rs) (hp:r.io.pure = false) (hd:r.dst = some d):d ∈ (z0t rs).map (·.2):=by
 obtain ⟨i,hi⟩:=List.mem_iff_getElem?.1 hr
 refine List.mem_map.2 ⟨(i,d),List.mem_filterMap.2 ⟨(r,i),?_,by simp [hp,hd]⟩,rfl⟩
 rw [List.mem_iff_getElem?]
 exact ⟨i,by rw [List.getElem?_zipIdx,hi]; simp⟩
section
variable {pv:Bool} {P:Program} {w0:Start} {Pr0:Nat->Nat->Prop} {n:Nat} {μ:Nat->Option Nat} {σ:St} {a:Act} {w:World}
theorem SR.kills:∀ (l:List Nat) {μ:Nat->Option Nat} {σ:St},(∀ r,r ∈ l->r < 1000)->SR w0 Pr0 n μ σ a w->∃ μ',SR w0 Pr0 n μ' (σ.kills l) a w
 | [],μ,σ,_,h=>⟨μ,h⟩
 | r :: l,μ,σ,hl,h=>SR.kills l (fun s hs=>hl s (List.mem_cons_of_mem _ hs)) (h.kill r (hl r (List.mem_cons_self ..)))
def Gone (σ:St) (d:Nat):Prop:=σ.H d = none∧∀ t,(σ.T t).name ≠ some d
theorem Gone.kill {σ:St} {d:Nat} (h:Gone σ d) (r:Nat):Gone (σ.kill r) d:=by
 refine ⟨?_,fun t=>?_⟩
 ·show upd σ.H r none d = none
  by_cases e:d = r
  ·subst e; exact z03 _ _ _
  ·rw [z04 _ _ e]; exact h.1
 ·show (if (σ.T t).name = some r then keepV σ.H (σ.T t) else σ.T t).name ≠ some d
  split
  ·rw [z38]; intro e; cases e
  ·exact h.2 t
theorem kill_gone (σ:St) (r:Nat):Gone (σ.kill r) r:=by
 refine ⟨z03 _ _ _,fun t=>?_⟩
 show (if (σ.T t).name = some r then keepV σ.H (σ.T t) else σ.T t).name ≠ some r
 split
 ·rw [z38]; intro e; cases e
 ·rename_i h; exact h
theorem Gone.kills:∀ (l:List Nat) {σ:St} {d:Nat},Gone σ d->Gone (σ.kills l) d
 | [],_,_,h=>h
 | r :: l,_,_,h=>Gone.kills l (h.kill r)
theorem z36:∀ (l:List Nat) {σ:St} {d:Nat},d ∈ l->Gone (σ.kills l) d
 | r :: l,σ,d,h=>by
  rcases List.mem_cons.1 h with e | e
  ·subst e; exact Gone.kills l (kill_gone σ d)
  ·exact z36 l e
theorem z6o {rs:List ROp} {f:Nat->List Nat} {r:ROp} {d:Nat} (hr:r ∈ z1m rs f) (hp:r.io.pure = false) (hd:r.dst = some d):d ∈ (z0t rs).map (·.2):=by
 obtain ⟨i,hi⟩:=List.mem_iff_getElem?.1 hr
 obtain ⟨r0,h1,rfl⟩:=z2f hi
 exact zcb (List.mem_of_getElem? h1) hp hd
theorem z6h {rs:List ROp} {i:Nat} {r:ROp} (h:(z6i rs)[i]? = some r):∃ r0 wr,rs[i]? = some r0∧r = { r0 with wr:=wr }:=by
 unfold z6i at h
 rw [List.getElem?_map,Option.map_eq_some_iff] at h
 obtain ⟨r0,h1,h2⟩:=h
 refine ⟨r0,r.wr,h1,?_⟩
 split at h2 <;> (subst h2; rfl)
theorem zi0 {rs:List ROp} {r:ROp} {d:Nat} (hr:r ∈ z6i rs) (hp:r.io.pure = false) (hd:r.dst = some d):∃ r0,r0 ∈ rs∧r0.io.pure = false∧r0.dst = some d:=by
 obtain ⟨i,hi⟩:=List.mem_iff_getElem?.1 hr
 obtain ⟨r0,wr,h1,rfl⟩:=z6h hi
 exact ⟨r0,List.mem_of_getElem? h1,hp,hd⟩
theorem z2i {rs:List ROp} {f:Nat->List Nat} {r:ROp} {d:Nat} (hr:r ∈ z1m (z6i rs) f) (hp:r.io.pure = false) (hd:r.dst = some d):d ∈ (z0t rs).map (·.2):=by
 obtain ⟨i,hi⟩:=List.mem_iff_getElem?.1 hr
 obtain ⟨r0,h1,rfl⟩:=z2f hi
 obtain ⟨r1,h2,h3,h4⟩:=zi0 (List.mem_of_getElem? h1) hp hd
 exact zcb h2 h3 h4
theorem z9e {id:Nat} {ops:Array Oper} {draw:Bool} {fzT:List Nat} {g:Reg} {Q:Exit->Act->World->Prop} {K:St->Prop} (hm:P.follows .mixedOrders = true) (hc:z5p pv P n fzT ops draw = some g) (hS:SR w0 Pr0 n μ σ a w) (hE:z3h (AFn P) g σ K)
  (hQ:∀ μ σ' a w,K σ'->SR w0 Pr0 n μ σ' a w->Q .normal a w):(Code.region id ops draw).wp P Q a w:=by
 unfold z5p at hc
 split at hc
 ·cases hc
 ·rename_i rs0 hrs
  obtain ⟨l1,l2⟩:=z2m hrs
  have hio:∀ (f:Nat->List Nat) (j:Nat) (r:ROp),(z1m rs0 f)[j]? = some r->∃ o,ops[j]? = some o∧IsOp pv P ops n o r:=by
   intro f j r hr
   obtain ⟨r0,h1,rfl⟩:=z2f hr
   obtain ⟨o,h2,h3⟩:=l2 j r0 h1
   exact ⟨o,by rw [← Array.getElem?_toList]; exact h2,z0z h3 _ _⟩
  have hio2:∀ (f:Nat->List Nat) (j:Nat) (r:ROp),(z1m (z6i rs0) f)[j]? = some r->∃ o,ops[j]? = some o∧IsOp pv P ops n o r:=by
   intro f j r hr
   obtain ⟨r1,h1,rfl⟩:=z2f hr
   obtain ⟨r0,wr,h0,rfl⟩:=z6h h1
   obtain ⟨o,h2,h3⟩:=l2 j r0 h0
   exact ⟨o,by rw [← Array.getElem?_toList]; exact h2,z0z h3 _ _⟩
  have hmk:∀ d,d ∈ (z0t rs0).map (·.2)->d < 1000:=by
   intro d hd
   obtain ⟨p,hp,rfl⟩:=List.mem_map.1 hd
   obtain ⟨q,hq,hq2⟩:=List.mem_filterMap.1 hp
   obtain ⟨i,hi⟩:=List.mem_iff_getElem?.1 hq
   rw [List.getElem?_zipIdx,Option.map_eq_some_iff] at hi
   obtain ⟨r0,hr0,rfl⟩:=hi
   obtain ⟨o,_,ho⟩:=l2 i r0 hr0
   have hI:=z0z ho [] []
   simp only at hq2
   split at hq2
   ·cases hq2
   ·obtain ⟨d',hd',rfl⟩:=Option.map_eq_some_iff.1 hq2
    exact Nat.lt_of_lt_of_le (hI.lt d' (by rw [← hI.dst]; exact hd')) hS.small
  have hFr:∀ (f:Nat->List Nat) {σ':St},(∀ d,d ∈ (z0t rs0).map (·.2)->Gone σ' d)->z0w (z1m rs0 f) σ':=fun f σ' hg r hr hp d hd=>hg d (z6o hr hp hd)
  have hFr2:∀ (f:Nat->List Nat) {σ':St},(∀ d,d ∈ (z0t rs0).map (·.2)->Gone σ' d)->z0w (z1m (z6i rs0) f) σ':=fun f σ' hg r hr hp d hd=>hg d (z2i hr hp hd)
  cases draw with
  | true =>
   simp only [if_true] at hc
   split at hc
   ·rename_i hok
    cases hc
    have hok':=z4v hok
    unfold z3h at hE
    simp only [if_true] at hE
    obtain ⟨μ1,hS1⟩:=SR.kills ((z0t rs0).map (·.2)) hmk hS
    have hgone:∀ d,d ∈ (z0t rs0).map (·.2)->Gone (σ.kills ((z0t rs0).map (·.2))) d:=fun d hd=>z36 _ hd
    generalize σ.kills ((z0t rs0).map (·.2)) = σ1 at *
    generalize hF0:fzT.filterMap (fun t=>(σ1.T t).name) = F0 at *
    refine zcr hm hok' (hio2 _) (SR.fzs (l:=F0) hS1) (hFr2 _ fun d hd=>⟨z0l (hgone d hd).1,by rw [z4i]; exact (hgone d hd).2⟩) (fun r hr=>⟨fun arr ha=>?_,fun x hx hp hd=>?_⟩) hE hQ
    ·cases hh:σ1.H r with
     | none=>rw [z0l hh] at ha; cases ha
     | some a0 =>
      obtain ⟨a',q1,q2,q3⟩:=z7j (l:=F0) hh
      rw [ha] at q1; cases q1
      rw [q3 hr,q2.cells]
    ·have:=z2i hx hp hd
     rw [← hF0,List.mem_filterMap] at hr
     obtain ⟨t,_,ht⟩:=hr
     exact (hgone r this).2 t ht
   ·cases hc
  | false =>
   simp only [Bool.false_eq_true,if_false] at hc
   split at hc
   ·rename_i hok
    cases hc
    unfold z3h at hE
    simp only [Bool.false_eq_true,if_false] at hE
    obtain ⟨μ1,hS1⟩:=SR.kills ((z0t rs0).map (·.2)) hmk hS
    refine wp_region ?_
    have hlen:(z1m rs0 fun i=>(z0t rs0).filterMap fun p=>if i < p.1 then some p.2 else none).length = ops.size:=by
     unfold z1m
     simp [← l1]
    rw [List.range_eq_range',← hlen]
    exact z9p hQ _ 0 (by intro j r hr; obtain ⟨o,h1,h2⟩:=hio _ j r hr; exact ⟨o,by rw [Nat.zero_add]; exact h1,h2⟩) (z5n hok) hS1 (hFr _ fun d hd=>z36 _ hd) hE
   ·cases hc
theorem zr5 {ops:Array Oper} {g:Option (Nat × Bool)} {gd:Option (Nat × Bool)} (h2:compG n ops g = some gd):(match (generalizing:=false) g with
  | none=>gd = none
  | some (j,want)=>∃ t,(ops[j]?).bind (·.dst) = some t∧t < n∧gd = some (t,want)):=by
 cases g with
 | none=>cases h2; rfl
 | some p =>
  obtain ⟨j,w⟩:=p
  unfold compG at h2
  simp only at h2 ⊢
  cases ht:(ops[j]?).bind (·.dst) with
  | none=>rw [ht] at h2; cases h2
  | some t =>
   rw [ht] at h2
   simp only at h2
   split at h2
   ·rename_i hlt2
    cases h2
    exact ⟨t,rfl,hlt2,rfl⟩
   ·cases h2
theorem z4w {wc:Nat} {ops:Array Oper} {o:Oper} {x:XOp} (h:zis pv P n wc ops o = some x):IsX pv P ops n o x:=by
 have other:(zbb pv P n ops o).map (fun r=>XOp.op (zcg r) r) = some x->IsX pv P ops n o x:=by
  intro h
  obtain ⟨r,hr,rfl⟩:=Option.map_eq_some_iff.1 h
  exact ⟨z0z hr r.hid r.wr,rfl⟩
 unfold zis at h
 simp only at h
 split at h
 ·rename_i y d ho hd
  split at h
  ·rename_i hlt
   split at h
   ·rename_i ix gd h1 h2
    cases h
    exact ⟨zr5 h2,hd,hlt,y,ho,h1⟩
   ·cases h
  ·cases h
 ·rename_i f first caps d ho hd hg
  split at h
  ·exact other h
  ·split at h
   ·rename_i y h1 h2
    split at h
    ·rename_i hlt
     obtain ⟨ix,h3,rfl⟩:=Option.map_eq_some_iff.1 h
     exact ⟨Option.isNone_iff_eq_none.1 hg,hd,hlt,first,caps,y,ho,h1,h2,h3⟩
    ·cases h
   ·exact other h
 ·rename_i t d ho hd hg
  split at h
  ·rename_i hlt
   cases h
   exact ⟨Option.isNone_iff_eq_none.1 hg,hd,hlt,ho⟩
  ·cases h
 ·rename_i t y iy ok d ho hd
  unfold zr4 at h
  split at h
  ·rename_i hlt
   split at h
   ·rename_i et h1
    obtain ⟨kt,h2,h3⟩:=zhy h1
    split at h
    ·rename_i z m k gd h4 h5 h6 h7
     cases h
     obtain ⟨i,zv,q1,q2,q3⟩:=zeroI_of h4
     exact ⟨zr5 h7,hd,hlt,t,kt,et,y,iy,i,zv,ho,h2,h3,q1,q2,q3,h5,h6⟩
    ·cases h
   ·cases h
  ·cases h
 ·rename_i t y iy v ho hd hg
  unfold compUpd at h
  split at h
  ·rename_i et h1
   obtain ⟨kt,h2,h3⟩:=zhy h1
   split at h
   ·rename_i m k x h4 h5 h6
    cases h
    exact ⟨Option.isNone_iff_eq_none.1 hg,hd,t,kt,et,y,iy,v,ho,h2,h3,h4,h5,h6⟩
   ·cases h
  ·cases h
 ·rename_i c d ho hd hg
  split at h
  ·rename_i f hc
   split at h
   ·split at h
    ·rename_i hlt
     split at h
     ·rename_i fx xs h1 h2
      cases h
      exact ⟨Option.isNone_iff_eq_none.1 hg,hd,hlt,c,f,ho,hc,h1,h2⟩
     ·cases h
    ·cases h
   ·split at h
    ·split at h
     ·rename_i hlt
      split at h
      ·rename_i fx xs h1 h2
       cases h
       split <;> exact ⟨Option.isNone_iff_eq_none.1 hg,hd,hlt,c,f,ho,hc,h1,h2⟩
      ·cases h
     ·cases h
    ·exact other h
  ·exact other h
 ·exact other h
theorem z7c {wc:Nat} {id:Nat} {ops:Array Oper} {l:List XOp} {Q:Exit->Act->World->Prop} {K:St->Prop} (hc:ops.toList.mapM (zis pv P n wc ops) = some l) (hS:SR w0 Pr0 n μ σ a w) (hE:z13 P (AFn P) l σ K)
  (hQ:∀ μ σ' a w,K σ'->SR w0 Pr0 n μ σ' a w->Q .normal a w):(Code.region id ops false).wp P Q a w:=by
 obtain ⟨l1,l2⟩:=z2m hc
 refine wp_region ?_
 rw [List.range_eq_range',show ops.size = l.length by rw [← l1,Array.length_toList]]
 refine z3k (pv:=pv) hQ l 0 (fun j x hx=>?_) hS hE
 obtain ⟨o,h1,h2⟩:=l2 j x hx
 exact ⟨o,by rw [Nat.zero_add,← Array.getElem?_toList]; exact h1,z4w h2⟩
theorem isOp_ren {ops:Array Oper} {o:Oper} {r:ROp} (h:IsOp pv P ops n o r) (s q:Nat):IsOp pv P ops n o (r.ren s q):=⟨h.io,h.dst,h.lt,h.guard⟩
theorem zgo {id:Nat} {ops:Array Oper} {fzT:List Nat} {g:Reg} {s q:Nat} {Q:Exit->Act->World->Prop} {K:St->Prop} (hm:P.follows .mixedOrders = true) (hc:z5p pv P n fzT ops true = some g) (hrn:renOk s (g.head ++ g.tail) = true) (hq:1000≤q) (hS:SR w0 Pr0 n μ σ a w) (hE:z3h (AFn P) (g.ren s q) σ K)
  (hQ:∀ μ σ' a w,K σ'->SR w0 Pr0 n μ σ' a w->Q .normal a w):(Code.region id ops true).wp P Q a w:=by
 unfold z5p at hc
 split at hc
 ·cases hc
 ·rename_i rs0 hrs
  obtain ⟨l1,l2⟩:=z2m hrs
  have hio2:∀ (f:Nat->List Nat) (j:Nat) (r:ROp),((z1m (z6i rs0) f).map (ROp.ren s q))[j]? = some r->∃ o,ops[j]? = some o∧IsOp pv P ops n o r:=by
   intro f j r hr
   obtain ⟨r2,hr2,rfl⟩:=z2g hr
   obtain ⟨r1,h1,rfl⟩:=z2f hr2
   obtain ⟨r0,wr,h0,rfl⟩:=z6h h1
   obtain ⟨o,h2,h3⟩:=l2 j r0 h0
   exact ⟨o,by rw [← Array.getElem?_toList]; exact h2,isOp_ren (z0z h3 _ _) s q⟩
  have hmk:∀ d,d ∈ (z0t rs0).map (·.2)->d < 1000:=by
   intro d hd
   obtain ⟨p,hp,rfl⟩:=List.mem_map.1 hd
   obtain ⟨q,hq,hq2⟩:=List.mem_filterMap.1 hp
   obtain ⟨i,hi⟩:=List.mem_iff_getElem?.1 hq
   rw [List.getElem?_zipIdx,Option.map_eq_some_iff] at hi
   obtain ⟨r0,hr0,rfl⟩:=hi
   obtain ⟨o,_,ho⟩:=l2 i r0 hr0
   have hI:=z0z ho [] []
   simp only at hq2
   split at hq2
   ·cases hq2
   ·obtain ⟨d',hd',rfl⟩:=Option.map_eq_some_iff.1 hq2
    exact Nat.lt_of_lt_of_le (hI.lt d' (by rw [← hI.dst]; exact hd')) hS.small
  have hFr2:∀ (f:Nat->List Nat) {σ':St},(∀ d,d ∈ (z0t rs0).map (·.2)->Gone σ' d)->z0w ((z1m (z6i rs0) f).map (ROp.ren s q)) σ':=fun f σ' hg r hr hp d hd=>by
   obtain ⟨r0,h0,rfl⟩:=List.mem_map.1 hr
   exact hg d (z2i h0 hp hd)
  simp only [if_true] at hc
  split at hc
  ·rename_i hok
   cases hc
   simp only [List.take_append_drop] at hrn
   obtain ⟨o1,o2,o3⟩:=renOk_of hrn
   have hok':=DrawOk.ren (s:=s) (q:=q) (z4v hok) hq o1 o2 o3
   unfold z3h Reg.ren at hE
   simp only [if_true,List.map_take,List.map_drop] at hE
   obtain ⟨μ1,hS1⟩:=SR.kills ((z0t rs0).map (·.2)) hmk hS
   have hgone:∀ d,d ∈ (z0t rs0).map (·.2)->Gone (σ.kills ((z0t rs0).map (·.2))) d:=fun d hd=>z36 _ hd
   generalize σ.kills ((z0t rs0).map (·.2)) = σ1 at *
   generalize hF0:fzT.filterMap (fun t=>(σ1.T t).name) = F0 at *
   refine zcr hm hok' (hio2 _) (SR.fzs (l:=F0) hS1) (hFr2 _ fun d hd=>⟨z0l (hgone d hd).1,by rw [z4i]; exact (hgone d hd).2⟩) (fun r hr=>⟨fun arr ha=>?_,fun x hx hp hd=>?_⟩) hE hQ
   ·cases hh:σ1.H r with
    | none=>rw [z0l hh] at ha; cases ha
    | some a0 =>
     obtain ⟨a',q1,q2,q3⟩:=z7j (l:=F0) hh
     rw [ha] at q1; cases q1
     rw [q3 hr,q2.cells]
   ·obtain ⟨x0,hx0,rfl⟩:=List.mem_map.1 hx
    have:=z2i hx0 hp hd
    rw [← hF0,List.mem_filterMap] at hr
    obtain ⟨t,_,ht⟩:=hr
    exact (hgone r this).2 t ht
  ·cases hc
theorem regw_sound {id:Nat} {ops:Array Oper} {fzT:List Nat} {g:Reg} {s:Nat} {Q:Exit->Act->World->Prop} {K:St->Prop} (hm:P.follows .mixedOrders = true) (hc:z5p pv P n fzT ops true = some g) (hrn:renOk s (g.head ++ g.tail) = true) (hS:SR w0 Pr0 n μ σ a w) (hE:z58 (AFn P) g s σ K)
  (hQ:∀ μ σ' a w,K σ'->SR w0 Pr0 n μ σ' a w->Q .normal a w):(Code.region id ops true).wp P Q a w:=by
 unfold z58 at hE
 split at hE
 ·exact zgo hm hc hrn hE.1 hS hE.2 hQ
 ·exact hE.elim
theorem z7f {id:Nat} {ops:Array Oper} {draw:Bool} {fzT:List Nat} {p:Reg × List XOp} {Q:Exit->Act->World->Prop} {K:St->Prop} (hm:P.follows .mixedOrders = true) (hc:zfm pv P n fzT ops draw = some p) (hS:SR w0 Pr0 n μ σ a w) (hE:z6u P (AFn P) p.1 p.2 σ K)
  (hQ:∀ μ σ' a w,K σ'->SR w0 Pr0 n μ σ' a w->Q .normal a w):(Code.region id ops draw).wp P Q a w:=by
 unfold zfm at hc
 cases draw with
 | false=>cases hc
 | true =>
  simp only [if_true] at hc
  generalize z8p (z0p ops.toList) ops.size = m at hc
  split at hc
  ·rename_i rs0 l hrs hl
   split at hc
   ·rename_i hok
    rw [Bool.and_eq_true,beq_iff_eq] at hok
    obtain ⟨hok,hlen⟩:=hok
    cases hc
    obtain ⟨l1,l2⟩:=z2m hrs
    obtain ⟨x1,x2⟩:=z2m hl
    have hok':=z4v hok
    have hrl:∀ (f:Nat->List Nat),(z1m (z6i rs0) f).length = rs0.length:=fun f=>by unfold z1m z6i; simp
    rw [hrl] at hlen
    have hms:m≤ops.size:=by
     have h:rs0.length≤ops.size:=by
      rw [← l1,List.length_take,Array.length_toList]; exact Nat.min_le_right _ _
     omega
    have hio2:∀ (f:Nat->List Nat) (j:Nat) (r:ROp),(z1m (z6i rs0) f)[j]? = some r->∃ o,ops[j]? = some o∧IsOp pv P ops n o r:=by
     intro f j r hr
     obtain ⟨r1,h1,rfl⟩:=z2f hr
     obtain ⟨r0,wr,h0,rfl⟩:=z6h h1
     have hj:=(List.getElem?_eq_some_iff.1 h0).1
     obtain ⟨o,h2,h3⟩:=l2 j r0 h0
     rw [List.getElem?_take,if_pos (by omega)] at h2
     exact ⟨o,by rw [← Array.getElem?_toList]; exact h2,z0z h3 _ _⟩
    have hmk:∀ d,d ∈ (z0t rs0).map (·.2)->d < 1000:=by
     intro d hd
     obtain ⟨p,hp,rfl⟩:=List.mem_map.1 hd
     obtain ⟨q,hq,hq2⟩:=List.mem_filterMap.1 hp
     obtain ⟨i,hi⟩:=List.mem_iff_getElem?.1 hq
     rw [List.getElem?_zipIdx,Option.map_eq_some_iff] at hi
     obtain ⟨r0,hr0,rfl⟩:=hi
     obtain ⟨o,_,ho⟩:=l2 i r0 hr0
     have hI:=z0z ho [] []
     simp only at hq2
     split at hq2
     ·cases hq2
     ·obtain ⟨d',hd',rfl⟩:=Option.map_eq_some_iff.1 hq2
      exact Nat.lt_of_lt_of_le (hI.lt d' (by rw [← hI.dst]; exact hd')) hS.small
    have hFr2:∀ (f:Nat->List Nat) {σ':St},(∀ d,d ∈ (z0t rs0).map (·.2)->Gone σ' d)->z0w (z1m (z6i rs0) f) σ':=fun f σ' hg r hr hp d hd=>hg d (z2i hr hp hd)
    unfold z6u at hE
    obtain ⟨μ1,hS1⟩:=SR.kills ((z0t rs0).map (·.2)) hmk hS
    have hgone:∀ d,d ∈ (z0t rs0).map (·.2)->Gone (σ.kills ((z0t rs0).map (·.2))) d:=fun d hd=>z36 _ hd
    generalize σ.kills ((z0t rs0).map (·.2)) = σ1 at *
    generalize hF0:fzT.filterMap (fun t=>(σ1.T t).name) = F0 at *
    refine zmb hm hok' (by rw [hrl]; exact hlen) (by rw [← x1,List.length_drop,Array.length_toList]; omega) (hio2 _) (fun j x hx=>?_) (SR.fzs (l:=F0) hS1) (hFr2 _ fun d hd=>⟨z0l (hgone d hd).1,by rw [z4i]; exact (hgone d hd).2⟩) (fun r hr=>⟨fun arr ha=>?_,fun x hx hp hd=>?_⟩) hE hQ
    ·obtain ⟨o,h1,h2⟩:=x2 j x hx
     rw [List.getElem?_drop] at h1
     exact ⟨o,by rw [← Array.getElem?_toList]; exact h1,z4w h2⟩
    ·cases hh:σ1.H r with
     | none=>rw [z0l hh] at ha; cases ha
     | some a0 =>
      obtain ⟨a',q1,q2,q3⟩:=z7j (l:=F0) hh
      rw [ha] at q1; cases q1
      rw [q3 hr,q2.cells]
    ·have:=z2i hx hp hd
     rw [← hF0,List.mem_filterMap] at hr
     obtain ⟨t,_,ht⟩:=hr
     exact (hgone r this).2 t ht
   ·cases hc
  ·cases hc
theorem stpAt_of {tab:List (List Nat)} {rs:List ROp} {m s0 tp tv:Nat} (h:stpAtB tab rs m s0 tp tv = true):StpAt tab rs m s0 tp tv:=by
 unfold stpAtB at h
 rw [Bool.and_eq_true,Bool.and_eq_true] at h
 obtain ⟨⟨h1,h2⟩,h3⟩:=h
 refine ⟨fun r hr=>?_,fun t ht k r hk hd=>?_,fun i r hi hn=>?_⟩
 ·have:=List.all_eq_true.1 h1 r hr
  rw [Bool.and_eq_true,bne_iff_ne] at this
  exact this
 ·have:=z27 (List.all_eq_true.1 h2 t (by rcases ht with e | e <;> simp [e])) hk
  rw [Bool.or_eq_true,bne_iff_ne] at this
  rcases this with h | h
  ·exact absurd hd h
  ·exact List.contains_iff_mem.1 h
 ·have:=z27 h3 hi
  rw [Bool.or_eq_true] at this
  rcases this with h | h
  ·exact absurd (List.contains_iff_mem.1 h) hn
  ·rw [Bool.and_eq_true,Bool.and_eq_true,Bool.and_eq_true] at h
   obtain ⟨⟨⟨g1,g2⟩,g3⟩,g4⟩:=h
   refine ⟨Option.isNone_iff_eq_none.1 g1,by simpa using g2,g3,fun t ht=>?_⟩
   have:=List.all_eq_true.1 g4 t (List.mem_filterMap.2 ⟨.t t,ht,rfl⟩)
   exact of_decide_eq_true this
theorem z7d {id:Nat} {ops:Array Oper} {draw:Bool} {p:Reg × Nat × Nat × Nat × Nat × List XOp} {Q:Exit->Act->World->Prop} {K:St->Prop} (hm:P.follows .mixedOrders = true) (hc:zfk pv P n ops draw = some p) (hS:SR w0 Pr0 n μ σ a w) (hE:z6t P (AFn P) p.1 p.2.1 p.2.2.1 p.2.2.2.1 p.2.2.2.2.1 p.2.2.2.2.2 σ K)
  (hQ:∀ μ σ' a w,K σ'->SR w0 Pr0 n μ σ' a w->Q .normal a w):(Code.region id ops draw).wp P Q a w:=by
 unfold zfk at hc
 split at hc
 ·rename_i hdr
  rw [Bool.and_eq_true] at hdr
  obtain ⟨rfl,_⟩:=hdr
  simp only at hc
  generalize z8p (z0p ops.toList) ops.size - 1 = m at hc
  split at hc
  ·rename_i rs0 z tp tv hx1 hx2 l hrs hx hl
   split at hc
   ·rename_i hok
    rw [Bool.and_eq_true,Bool.and_eq_true,beq_iff_eq] at hok
    obtain ⟨⟨hok,hlen⟩,hpa⟩:=hok
    cases hc
    obtain ⟨l1,l2⟩:=z2m hrs
    obtain ⟨x1,x2⟩:=z2m hl
    obtain ⟨om,hom,hxm⟩:=Option.bind_eq_some_iff.1 hx
    have hms:m < ops.size:=(Array.getElem?_eq_some_iff.1 hom).1
    have hrl:∀ (f:Nat->List Nat),(z1m rs0 f).length = rs0.length:=fun f=>by unfold z1m; simp
    have hlen0:=hlen
    rw [hrl] at hlen0
    have hio2:∀ (f:Nat->List Nat) (j:Nat) (r:ROp),(z1m rs0 f)[j]? = some r->∃ o,ops[j]? = some o∧IsOp pv P ops n o r:=by
     intro f j r hr
     obtain ⟨r0,h0,rfl⟩:=z2f hr
     have hj:=(List.getElem?_eq_some_iff.1 h0).1
     obtain ⟨o,h2,h3⟩:=l2 j r0 h0
     rw [List.getElem?_take,if_pos (by omega)] at h2
     exact ⟨o,by rw [← Array.getElem?_toList]; exact h2,z0z h3 _ _⟩
    have hmk:∀ d,d ∈ (z0t rs0).map (·.2)->d < 1000:=by
     intro d hd
     obtain ⟨p,hp,rfl⟩:=List.mem_map.1 hd
     obtain ⟨q,hq,hq2⟩:=List.mem_filterMap.1 hp
     obtain ⟨i,hi⟩:=List.mem_iff_getElem?.1 hq
     rw [List.getElem?_zipIdx,Option.map_eq_some_iff] at hi
     obtain ⟨r0,hr0,rfl⟩:=hi
     obtain ⟨o,_,ho⟩:=l2 i r0 hr0
     have hI:=z0z ho [] []
     simp only at hq2
     split at hq2
     ·cases hq2
     ·obtain ⟨d',hd',rfl⟩:=Option.map_eq_some_iff.1 hq2
      exact Nat.lt_of_lt_of_le (hI.lt d' (by rw [← hI.dst]; exact hd')) hS.small
    unfold z6t at hE
    obtain ⟨μ1,hS1⟩:=SR.kills ((z0t rs0).map (·.2)) hmk hS
    have hgone:∀ d,d ∈ (z0t rs0).map (·.2)->Gone (σ.kills ((z0t rs0).map (·.2))) d:=fun d hd=>z36 _ hd
    exact zmc hm (z4v hok) hlen (by rw [← x1,List.length_drop,Array.length_toList]; omega) (stpAt_of hpa) (hio2 _) ⟨om,hom,z0z hxm [] []⟩ (fun j x hx=>by
     obtain ⟨o,h1,h2⟩:=x2 j x hx
     rw [List.getElem?_drop] at h1
     exact ⟨o,by rw [← Array.getElem?_toList]; exact h1,z4w h2⟩) hS1 (fun r hr hp d hd=>hgone d (z6o hr hp hd)) hE hQ
   ·cases hc
  ·cases hc
 ·cases hc
theorem mapAt_of {tab:List (List Nat)} {rs:List ROp} {m:Nat} {mo ko vo:IOpd} (h:mapAtB tab rs m mo ko vo = true):MapAt tab rs m mo ko vo (lateT tab rs m):=by
 unfold mapAtB at h
 rw [Bool.and_eq_true,Bool.and_eq_true] at h
 obtain ⟨⟨h1,h2⟩,h3⟩:=h
 refine ⟨fun r hr=>?_,fun t ht k r hk hd=>?_,fun i r hi hn=>?_⟩
 ·have:=List.all_eq_true.1 h1 r hr
  rw [Bool.and_eq_true] at this
  exact this
 ·have hm:t ∈ z3s [mo,ko,vo]:=List.mem_filterMap.2 ⟨.t t,by rcases ht with e | e | e <;> simp [← e],rfl⟩
  have:=z27 (List.all_eq_true.1 h2 t hm) hk
  rw [Bool.or_eq_true,bne_iff_ne] at this
  rcases this with h | h
  ·exact absurd hd h
  ·exact List.contains_iff_mem.1 h
 ·have:=z27 h3 hi
  rw [Bool.or_eq_true] at this
  rcases this with h | h
  ·exact absurd (List.contains_iff_mem.1 h) hn
  ·rw [Bool.and_eq_true,Bool.and_eq_true] at h
   obtain ⟨⟨g1,g2⟩,g3⟩:=h
   have hc:¬ (tab.getD m []).contains i = true:=fun hc=>hn (List.contains_iff_mem.1 hc)
   have hmem:∀ t,t ∈ z3s r.io.opds ++ r.dst.toList->t ∈ lateT tab rs m:=fun t ht=>by
    unfold lateT
    refine List.mem_flatMap.2 ⟨(r,i),?_,by simp only; rw [if_neg hc]; exact ht⟩
    rw [List.mem_iff_getElem?]
    exact ⟨i,by rw [List.getElem?_zipIdx,hi]; simp⟩
   refine ⟨Option.isNone_iff_eq_none.1 g1,by simpa using g2,fun t ht=>?_,fun d hd=>hmem d (List.mem_append.2 (.inr (by rw [hd]; simp)))⟩
   have ht':t ∈ z3s r.io.opds:=List.mem_filterMap.2 ⟨.t t,ht,rfl⟩
   refine ⟨hmem t (List.mem_append.2 (.inl ht')),fun k q hk hd=>?_⟩
   have:=z27 (List.all_eq_true.1 g3 t ht') hk
   rw [Bool.or_eq_true,bne_iff_ne,decide_eq_true_eq] at this
   rcases this with h | h
   ·exact absurd hd h
   ·exact h
theorem z7e {id:Nat} {ops:Array Oper} {draw:Bool} {p:List ROp × List Nat × IOpd × IOpd × IOpd × List XOp} {Q:Exit->Act->World->Prop} {K:St->Prop} (hm:P.follows .mixedOrders = true) (hc:zfl pv P n ops draw = some p) (hS:SR w0 Pr0 n μ σ a w) (hE:z8g P (AFn P) ⟨p.1,[],[],[],true⟩ p.2.1 p.2.2.1 p.2.2.2.1 p.2.2.2.2.1 p.2.2.2.2.2 σ K)
  (hQ:∀ μ σ' a w,K σ'->SR w0 Pr0 n μ σ' a w->Q .normal a w):(Code.region id ops draw).wp P Q a w:=by
 unfold zfl at hc
 cases draw with
 | false=>cases hc
 | true =>
  simp only [if_true] at hc
  generalize z8p (z0p ops.toList) ops.size - 1 = m at hc
  split at hc
  ·rename_i rs mo ko vo l hrs hx hl
   split at hc
   ·rename_i hok
    rw [Bool.and_eq_true,Bool.and_eq_true,beq_iff_eq] at hok
    obtain ⟨⟨hok,hlen⟩,hma⟩:=hok
    cases hc
    obtain ⟨l1,l2⟩:=z2m hrs
    obtain ⟨x1,x2⟩:=z2m hl
    obtain ⟨om,hom,hxm⟩:=Option.bind_eq_some_iff.1 hx
    have hms:m < ops.size:=(Array.getElem?_eq_some_iff.1 hom).1
    refine zmd hm (z4v hok) hlen (by rw [← x1,List.length_drop,Array.length_toList]; omega) (mapAt_of hma) (fun j r hr=>?_) ⟨om,hom,z4w hxm⟩ (fun j x hx=>?_) hS hE hQ
    ·have hj:=(List.getElem?_eq_some_iff.1 hr).1
     obtain ⟨o,h2,h3⟩:=l2 j r hr
     rw [List.getElem?_take,if_pos (by omega)] at h2
     exact ⟨o,by rw [← Array.getElem?_toList]; exact h2,z0z h3 r.hid r.wr⟩
    ·obtain ⟨o,h1,h2⟩:=x2 j x hx
     rw [List.getElem?_drop] at h1
     exact ⟨o,by rw [← Array.getElem?_toList]; exact h1,z4w h2⟩
   ·cases hc
  ·cases hc
theorem z4n {id:Nat} {ops:Array Oper} {draw w':Bool} {fzT:List Nat} {g:Reg} {Q:Exit->Act->World->Prop} {K:XK->St->Prop} (hm:P.follows .mixedOrders = true) (hc:z5p pv P n fzT ops draw = some g) (hS:SR w0 Pr0 n μ σ a w) (hE:awp (AFn P) (regRow w' draw g) K σ)
  (hQ:∀ μ σ' a w,K .normal σ'->SR w0 Pr0 n μ σ' a w->Q .normal a w):(Code.region id ops draw).wp P Q a w:=by
 unfold regRow at hE
 split at hE
 ·rename_i hd
  rw [Bool.and_eq_true] at hd
  obtain ⟨_,rfl⟩:=hd
  split at hE
  ·split at hE
   ·rename_i hr
    exact regw_sound hm hc hr hS hE hQ
   ·exact z9e hm hc hS hE hQ
  ·exact z9e hm hc hS hE hQ
 ·exact z9e hm hc hS hE hQ
end
end Go.Proofs.YtlhblpbfhfhlpaaGreatDoor
end
