/-
  Part 7 of a proof: AmQ, AmR, Glue, KeyPure.
-/
import Derived.SizedLaws
import Derived.OpenShut
import GoSem.Op.String
import Derived.Test.YtolocaankfcjiaaRR6
set_option linter.unusedVariables false
set_option linter.unusedSimpArgs false
section
/-
 The plain machine,seventeenth part: the same evaluation in a form that simp can do.
-/
namespace Go.Proofs.Ytolocaankfcjiaa
open Go.RowKit
def zli (z:Nat) (ty:TypeId) (d:AV):Option Arr:=some ⟨z,ty,[d],0⟩
def zmh (z:Nat):List AV->Prop
 | []=>True
 | d :: l=>(d.cells.length = z∧d.cells.all AV.one = true)∧zmh z l
theorem z9g {z:Nat}:∀ {l:List AV},zmh z l->∀ d,d ∈ l->d.cells.length = z∧d.cells.all AV.one = true
 | d :: l,h,x,hx=>by
  rcases List.mem_cons.1 hx with e | e
  ·subst e; exact h.1
  ·exact z9g h.2 x e
/-- behind a call -/
def z9q (σ:St) (d:Nat) (fz:List Nat):AV->St
 | .own z ty l=>(σ.fzs fz).made d (.rs d 0 l.length) (some ⟨z,ty,l,0⟩)
 | r=>if r.flatB then σ.made d r none else (σ.fzs fz).made d r none
def z1x (hid:List Nat) (d:Nat):AV->Bool
 | .own ..=>!hid.contains d
 | r=>z13 hid r
/-- a store -/
def stOk (σ:St) (z:Nat) (v:AV):AV->Prop
 | .ptr r i f=>byOk [] σ v∧i < (z0e (σ.H r)).length∧(z1j σ v).cells.length = z∧f + z≤((z0e (σ.H r)).getD i .und).cells.length∧z1m ((σ.fzs (byFz v)).H r)≤i∧(z1j σ v).cells.all AV.one = true
 | _=>False
def stArr (σ:St) (z:Nat) (v:AV) (i f:Nat):Option Arr->Option Arr
 | some a=>some ⟨a.z,a.ty,a.cells.set i ((a.cells.getD i .und).patch f z (z1j σ v)),a.prot⟩
 | none=>none
def stSt (σ:St) (z:Nat) (v:AV):AV->St
 | .ptr r i f=>⟨σ.T,upd (σ.fzs (byFz v)).H r (stArr σ z v i f ((σ.fzs (byFz v)).H r))⟩
 | _=>σ
/-- a store of an own slice into a cell -/
def stpOk (σ:St) (z:Nat):AV->AV->Prop
 | .rs q _ _,.ptr r i f=>z = 1∧i < (z0e (σ.H r)).length∧f + 1≤((z0e (σ.H r)).getD i .und).cells.length∧z1m (σ.H r)≤i∧(σ.H q).isSome = true
 | .sl _,.ptr r i f=>z = 1∧i < (z0e (σ.H r)).length∧f + 1≤((z0e (σ.H r)).getD i .und).cells.length∧z1m (σ.H r)≤i
 | _,_=>False
def zib (c:AV) (i f:Nat):Option Arr->Option Arr
 | some a=>some ⟨a.z,a.ty,a.cells.set i ((a.cells.getD i .und).patch f 1 c),a.prot⟩
 | none=>none
def zia (σ:St) (u:Value):AV->AV->St
 | .rs q off len,.ptr r i f=>⟨upd σ.T (vt r (i * objZ (σ.H r) + f)) (.vrs q off len u),upd σ.H r (zib (.cst u) i f (σ.H r))⟩
 | .sl l,.ptr r i f=>⟨σ.T,upd σ.H r (zib (.sl l) i f (σ.H r))⟩
 | _,_=>σ
/-- the exact value that a cell holds is some value -/
def z9f (p:Value->Prop):Prop:=∀ u:Value,u.oneCell' = true->p u
theorem z9f.intro {p:Value->Prop} (h:∀ u:Value,u.oneCell' = true->p u):z9f p:=h
/-- an own slice's elements are made zero -/
def clOk (σ:St) (z:Nat) (d:AV):AV->Prop
 | .rs r off len=>(σ.H r).isSome = true∧objZ (σ.H r) = z∧z1m (σ.H r)≤off∧d.cells.length = z∧d.cells.all AV.one = true
 | _=>False
def clArr (d:AV) (off len:Nat):Option Arr->Option Arr
 | some a=>some ⟨a.z,a.ty,a.cells.take off ++ List.replicate len d ++ a.cells.drop (off + len),a.prot⟩
 | none=>none
def clSt (σ:St) (d:AV):AV->St
 | .rs r off len=>⟨σ.T,upd σ.H r (clArr d off len (σ.H r))⟩
 | _=>σ
/-- a store of a head -/
def zpd (F0 hid wr:List Nat) (σ:St) (z:Nat) (v:AV):AV->Prop
 | .ptr r i f=>wr.contains r = true∧hid.contains r = false∧F0.contains r = false∧byOk hid σ v∧(byFz v).all F0.contains = true∧i < (z0e (σ.H r)).length∧(z1j σ v).cells.length = z∧f + z≤((z0e (σ.H r)).getD i .und).cells.length∧z1m (σ.H r)≤i∧(z1j σ v).cells.all AV.one = true
 | _=>False
def zpc (σ:St) (z:Nat) (v:AV):AV->St
 | .ptr r i f=>⟨σ.T,upd σ.H r (stArr σ z v i f (σ.H r))⟩
 | _=>σ
/-- an append -/
def apOk (σ:St) (z ty bytes:Nat) (v:AV):AV->Prop
 | .rs r off len=>byOk [] σ v∧(∃ l,z1j σ v = .sl l∧(σ.H r).isSome = true∧objZ (σ.H r) = z∧(objTy (σ.H r) = ty)∧z1m ((σ.fzs (byFz v)).H r)≤off + len∧fitsV (len + l.length) bytes∧r < 1000∧∀ d,d ∈ l->d.cells.length = z∧d.cells.all AV.one = true)
 | _=>False
where objTy:Option Arr->Nat | some a=>a.ty | none=>0
def slOf:AV->List AV | .sl l=>l | _=>[]
def apArr (l:List AV) (len:Nat):Option Arr->Option Arr
 | some a=>some ⟨a.z,a.ty,a.cells.take len ++ l,a.prot⟩
 | none=>none
def apSt (σ:St) (d:Nat) (v:AV):AV->St
 | .rs r off len=>⟨upd (z7j σ.T r) d (.rs r off (len + (slOf (z1j σ v)).length)),upd (σ.fzs (byFz v)).H r (apArr (slOf (z1j σ v)) (off + len) ((σ.fzs (byFz v)).H r))⟩
 | _=>σ
/-- an append to a tail may lay it anew -/
def apTwo:AV->Prop
 | .rs _ 0 _=>False
 | .rs _ (_ + 1) _=>True
 | _=>False
def zy8 (l:List AV) (off len:Nat):Option Arr->Option Arr
 | some a=>some ⟨a.z,a.ty,(a.cells.drop off).take len ++ l,0⟩
 | none=>none
def apSt2 (σ:St) (d:Nat) (v:AV):AV->St
 | .rs r off len=>⟨upd (z7j σ.T r) d (.rs r 0 (len + (slOf (z1j σ v)).length)),upd (σ.fzs (byFz v)).H r (zy8 (slOf (z1j σ v)) off len ((σ.fzs (byFz v)).H r))⟩
 | _=>σ
/-- is it nil? -/
def nilOk (σ:St):AV->Prop
 | .sl _=>True
 | .rs r _ _=>(σ.H r).isSome = true
 | _=>False
def zll:AV->Prop
 | .sl l=>l.isEmpty = true
 | .rs _ _ len=>len = 0
 | _=>False
/-- a call: what it answers,and then the rest -/
def zro (C:FuncId->List AV->AV->Prop) (f:FuncId) (args:List AV) (hid:List Nat) (d:Nat) (fz:List Nat) (σ:St) (R:St->(St->Prop)->Prop) (K:St->Prop):Prop :=
 ∃ r,C f args r∧z1x hid d r = true∧R (z9q σ d fz r) K
/-- an operation; R is the rest,K what follows behind it -/
def z0s (C:FuncId->List AV->AV->Prop) (R:St->(St->Prop)->Prop) (K:St->Prop) (σ:St) (d:Nat) (hid:List Nat):IOp->Prop
 | .alloc z ty zero=>zero.cells.length = z∧0 < z∧zero.cells.all AV.one = true∧hid.contains d = false∧R (σ.made d (.ptr d 0 0) (zli z ty zero)) K
 | .box z ty x=>byOk hid σ (σ.get x)∧(z1j σ (σ.get x)).cells.length = z∧0 < z∧(z1j σ (σ.get x)).cells.all AV.one = true∧hid.contains d = false∧R ((σ.fzs (byFz (σ.get x))).made d (.ptr d 0 0) (zli z ty (z1j σ (σ.get x)))) K
 | .mknil z ty=>0 < z∧hid.contains d = false∧R (σ.made d (.rs d 0 0) (some ⟨z,ty,[],0⟩)) K
 | .bsl z ty xs=>z69 hid σ (xs.map σ.get)∧0 < z∧zmh z (z19 σ (xs.map σ.get))∧hid.contains d = false∧R ((σ.fzs (z7a (xs.map σ.get))).made d (.rs d 0 (z19 σ (xs.map σ.get)).length) (some ⟨z,ty,z19 σ (xs.map σ.get),0⟩)) K
 | .callv fx xs=>(σ.get fx).isC = true∧z69 hid σ (xs.map σ.get)∧zro C (σ.get fx).cf ((σ.get fx).c1 ++ z19 σ (xs.map σ.get) ++ (σ.get fx).c2) hid d (z7a (xs.map σ.get)) σ R K
 | .call p xs=>z69 hid σ (xs.map σ.get)∧z4x p (z19 σ (xs.map σ.get))∧z1x hid d (z1l p (z19 σ (xs.map σ.get))) = true∧R (z9q σ d (z7a (xs.map σ.get)) (z1l p (z19 σ (xs.map σ.get)))) K
 | .append z ty bytes x y=>apOk σ z ty bytes (σ.get y) (σ.get x)∧R (apSt σ d (σ.get y) (σ.get x)) K∧(apTwo (σ.get x)->R (apSt2 σ d (σ.get y) (σ.get x)) K)
 | .nileq neq x=>nilOk σ (σ.get x)∧(zll (σ.get x)->R (σ.set d (.bool (!neq))) K)∧R (σ.set d (.bool neq)) K
 | io=>okV hid σ io∧z13 hid (valV σ io) = true∧R ((σ.fzs (fzV σ io)).made d (valV σ io) none) K
/-- how a guard stands -/
def gB:AV->Bool | .bool _=>true | .tup []=>true | _=>false
def gIs:Bool->AV->Bool | true,.bool b=>b | false,.bool b=>!b | _,_=>false
def z0h (C:FuncId->List AV->AV->Prop):List ROp->St->(St->Prop)->Prop
 | [],σ,K=>K σ
 | ⟨io,some d,none,hid,wr⟩ :: l,σ,K=>z0s C (z0h C l) K σ d hid io
 | ⟨io,none,none,_,_⟩ :: l,σ,K=>(match io with
  | .store z p x=>stOk σ z (σ.get x) (σ.get p)∧z0h C l (stSt σ z (σ.get x) (σ.get p)) K
  | .storep z p x=>stpOk σ z (σ.get x) (σ.get p)∧z9f fun u=>z0h C l (zia σ u (σ.get x) (σ.get p)) K
  | .copy z x (.c d)=>clOk σ z d (σ.get x)∧z0h C l (clSt σ d (σ.get x)) K
  | _=>False)
 | ⟨io,some d,some (t,w),hid,wr⟩ :: l,σ,K=>gB (σ.T t) = true∧(gIs w (σ.T t) = true->z0s C (z0h C l) K (σ.set t (.bool w)) d hid io) ∧
   (gIs w (σ.T t) = false->z0h C l ((if (σ.T t).isB then σ.set t (.bool (!w)) else σ).set d (.tup [])) K)
 | _ :: _,_,_=>False
theorem z6g {hid:List Nat} {d:Nat} (h:hid.contains d = false) {i f:Nat}:z13 hid (.ptr d i f) = true:=by simp only [z13,AV.name]; rw [h]; rfl
theorem z2w {hid:List Nat} {d:Nat} (h:hid.contains d = false) {i f:Nat}:z13 hid (.rs d i f) = true:=by simp only [z13,AV.name]; rw [h]; rfl
theorem runOp_M {C:FuncId->List AV->AV->Prop} {σ:St} {d:Nat} {hid:List Nat} {R:St->(St->Prop)->Prop} {K:St->Prop} {io:IOp} (hm:io.isMut = false) (h:z0s C R K σ d hid io):z0y C d hid σ (fun v s fz=>z13 hid v = true∧R ((σ.fzs fz).made d v s) K) io:=by
 cases io with
 | alloc z ty zero=>exact ⟨h.1,h.2.1,h.2.2.1,z6g h.2.2.2.1,h.2.2.2.2⟩
 | box z ty x =>
  simp only [z0s,z0y] at *
  rw [z4m.1 h.1]
  exact ⟨h.2.1,h.2.2.1,h.2.2.2.1,z6g h.2.2.2.2.1,h.2.2.2.2.2⟩
 | mknil z ty=>exact ⟨h.1,z2w h.2.1,h.2.2⟩
 | bsl z ty xs =>
  simp only [z0s,z0y] at *
  rw [z1o.1 h.1]
  exact ⟨h.2.1,z9g h.2.2.1,z2w h.2.2.2.1,h.2.2.2.2⟩
 | callv fx xs =>
  simp only [z0s,z0y,zro] at *
  obtain ⟨h1,h2,r,h3,h4,h5⟩:=h
  cases hf:σ.get fx <;> rw [hf] at h1 h3 <;> simp only [AV.isC,Bool.false_eq_true] at h1
  rw [z1o.1 h2]
  refine ⟨r,h3,?_⟩
  cases r with
  | own z ty l=>exact ⟨z2w (by simpa [z1x] using h4),h5⟩
  | _ =>
   simp only [z1f]
   simp only [z9q] at h5
   simp only [z1x] at h4
   split
   ·rename_i hb; rw [if_pos hb] at h5; exact ⟨h4,h5⟩
   ·rename_i hb; rw [if_neg hb] at h5; exact ⟨h4,h5⟩
 | call p xs =>
  simp only [z0s,z0y] at *
  obtain ⟨h2,h3,h4,h5⟩:=h
  rw [z1o.1 h2]
  refine ⟨h3,?_⟩
  generalize z1l p (z19 σ (xs.map σ.get)) = r at h4 h5
  cases r with
  | own z ty l=>exact ⟨z2w (by simpa [z1x] using h4),h5⟩
  | _ =>
   simp only [z1f]
   simp only [z9q] at h5
   simp only [z1x] at h4
   split
   ·rename_i hb; rw [if_pos hb] at h5; exact ⟨h4,h5⟩
   ·rename_i hb; rw [if_neg hb] at h5; exact ⟨h4,h5⟩
 | store z p x=>cases hm
 | append z ty b x y=>cases hm
 | nileq neq x=>cases hm
 | storep z p x=>cases hm
 | copy z x y=>cases hm
 | _=>exact zxz (K:=fun v fz=>z13 hid v = true∧R ((σ.fzs fz).made d v none) K) h
theorem zxt {σ:St} {fz:List Nat} {r:Nat} (h:(σ.H r).isSome = true):∃ arr arr',σ.H r = some arr∧(σ.fzs fz).H r = some arr'∧arr'.cells = arr.cells∧arr'.z = arr.z∧arr'.ty = arr.ty:=by
 obtain ⟨arr,ha⟩:=Option.isSome_iff_exists.1 h
 obtain ⟨a',q1,q2,_⟩:=z98 (l:=fz) ha
 exact ⟨arr,a',ha,q1,q2.cells,q2.z,q2.ty⟩
theorem run_store {σ:St} {K:St->Prop} {z:Nat} {p x:IOpd} (h:stOk σ z (σ.get x) (σ.get p)∧K (stSt σ z (σ.get x) (σ.get p))):z15 σ none K (.store z p x):=by
 obtain ⟨h1,h2⟩:=h
 simp only [z15]
 cases hp:σ.get p <;> rw [hp] at h1 h2 <;> simp only [stOk,stSt] at h1 h2
 rename_i r i f
 obtain ⟨g1,g2,g3,g4,g5,g6⟩:=h1
 rw [z4m.1 g1]
 have hs:(σ.H r).isSome = true:=by
  cases ha:σ.H r with
  | none=>rw [ha] at g2; simp [z0e] at g2
  | some arr=>rfl
 obtain ⟨arr,arr',q1,q2,q3,q4,q5⟩:=zxt (fz:=byFz (σ.get x)) hs
 rw [q1] at g2 g4
 rw [q2] at g5 h2
 simp only [z0e,z1m] at g2 g4 g5
 simp only [q2,q3]
 rw [List.getD_eq_getElem?_getD,List.getElem?_eq_getElem g2] at g4
 rw [List.getElem?_eq_getElem g2]
 refine ⟨g3,g4,g5,g6,?_⟩
 simp only [stArr,q3] at h2
 rw [List.getD_eq_getElem?_getD,List.getElem?_eq_getElem g2] at h2
 exact h2
theorem run_storep {σ:St} {K:St->Prop} {z:Nat} {p x:IOpd} (h:stpOk σ z (σ.get x) (σ.get p)∧z9f fun u=>K (zia σ u (σ.get x) (σ.get p))):z15 σ none K (.storep z p x):=by
 obtain ⟨h1,h2⟩:=h
 simp only [z15]
 cases hx:σ.get x <;> rw [hx] at h1 h2 <;> try exact h1.elim
 ·cases hp:σ.get p <;> rw [hp] at h1 h2 <;> try exact h1.elim
  rename_i l r i f
  obtain ⟨g1,g2,g3,g4⟩:=h1
  cases ha:σ.H r with
  | none=>rw [ha] at g2; simp [z0e] at g2
  | some arr =>
   simp only [ha,z0e,z1m] at g2 g3 g4
   rw [List.getD_eq_getElem?_getD,List.getElem?_eq_getElem g2] at g3
   simp only [ha,List.getElem?_eq_getElem g2]
   refine ⟨g1,g3,g4,?_⟩
   have:=h2 (.bool true) rfl
   simp only [zia,zib,ha,List.getD_eq_getElem?_getD,List.getElem?_eq_getElem g2,Option.getD_some] at this
   exact this
 ·cases hp:σ.get p <;> rw [hp] at h1 h2 <;> try exact h1.elim
  rename_i q off len r i f
  obtain ⟨g1,g2,g3,g4,g5⟩:=h1
  cases ha:σ.H r with
  | none=>rw [ha] at g2; simp [z0e] at g2
  | some arr =>
   simp only [ha,z0e,z1m] at g2 g3 g4
   rw [List.getD_eq_getElem?_getD,List.getElem?_eq_getElem g2] at g3
   simp only [ha,List.getElem?_eq_getElem g2]
   refine ⟨g1,g3,g4,g5,fun u hu=>?_⟩
   have:=h2 u hu
   simp only [zia,zib,objZ,ha,List.getD_eq_getElem?_getD,List.getElem?_eq_getElem g2,Option.getD_some] at this
   exact this
theorem run_clr {σ:St} {K:St->Prop} {z:Nat} {x:IOpd} {d:AV} (h:clOk σ z d (σ.get x)∧K (clSt σ d (σ.get x))):z15 σ none K (.copy z x (.c d)):=by
 obtain ⟨h1,h2⟩:=h
 simp only [z15]
 cases hx:σ.get x <;> rw [hx] at h1 h2 <;> simp only [clOk,clSt] at h1 h2
 rename_i r off len
 obtain ⟨g1,g2,g3,g4,g5⟩:=h1
 obtain ⟨arr,ha⟩:=Option.isSome_iff_exists.1 g1
 simp only [ha,objZ,z1m,clArr] at g2 g3 h2 ⊢
 exact ⟨g2,g3,g4,g5,trivial,h2⟩
theorem zdm {σ:St} {K:St->Prop} {z ty bytes d:Nat} {x y:IOpd} (h:apOk σ z ty bytes (σ.get y) (σ.get x)∧K (apSt σ d (σ.get y) (σ.get x))∧(apTwo (σ.get x)->K (apSt2 σ d (σ.get y) (σ.get x)))):z15 σ (some d) K (.append z ty bytes x y):=by
 obtain ⟨h1,h2,h3⟩:=h
 simp only [z15]
 cases hx:σ.get x <;> rw [hx] at h1 h2 h3 <;> simp only [apOk,apSt,apSt2] at h1 h2 h3
 rename_i r off len
 obtain ⟨g1,l,g2,g3,g4,g5,g6,g7,g9,g8⟩:=h1
 rw [z4m.1 g1,g2]
 obtain ⟨arr,arr',q1,q2,q3,q4,q5⟩:=zxt (fz:=byFz (σ.get y)) g3
 rw [q1] at g4 g5
 rw [q2] at g6 h2 h3
 simp only [objZ,apOk.objTy,z1m] at g4 g5 g6
 simp only [q2]
 refine ⟨g9,by rw [q4]; exact g4,by rw [q5]; exact g5,g6,g7,g8,?_,fun h0=>?_⟩
 ·simp only [apArr,g2,slOf] at h2
  exact h2
 ·simp only [zy8,g2,slOf] at h3
  refine h3 ?_
  cases off with
  | zero=>exact absurd rfl h0
  | succ n=>trivial
theorem zil {σ:St} {K:St->Prop} {neq:Bool} {d:Nat} {x:IOpd} (h:nilOk σ (σ.get x)∧(zll (σ.get x)->K (σ.set d (.bool (!neq))))∧K (σ.set d (.bool neq))):z15 σ (some d) K (.nileq neq x):=by
 obtain ⟨h1,h2,h3⟩:=h
 simp only [z15]
 cases hx:σ.get x <;> rw [hx] at h1 h2 <;> simp only [nilOk,zll] at h1 h2
 ·exact ⟨h2,h3⟩
 ·exact ⟨h1,h2,h3⟩
theorem z9w {v:AV} (h:gB v = true):(∃ b,v = .bool b)∨v = .tup []:=by
 unfold gB at h
 split at h
 ·exact .inl ⟨_,rfl⟩
 ·exact .inr rfl
 ·cases h
theorem z12 {C:FuncId->List AV->AV->Prop}:∀ {l:List ROp} {σ:St} {K:St->Prop},z0h C l σ K->z0k C l σ K
 | [],σ,K,h=>h
 | ⟨io,some d,none,hid,wr⟩ :: l,σ,K,h=>by
  simp only [z0h] at h
  simp only [z0k,z1g,z7k]
  cases hm:io.isMut with
  | true =>
   rw [if_pos rfl]
   cases io <;> first
    | (cases hm; done)
    | (simp only [z0s,okV,false_and] at h; done)
    | (refine z1s (fun σ hk=>z12 hk) (zdm (K:=fun σ=>z0h C l σ K) h))
    | (refine z1s (fun σ hk=>z12 hk) (zil (K:=fun σ=>z0h C l σ K) h))
  | false =>
   rw [if_neg (by simp)]
   exact z3e (fun v s fz hk=>⟨hk.1,z12 hk.2⟩) (runOp_M hm h)
 | ⟨io,none,none,hid,wr⟩ :: l,σ,K,h=>by
  cases io <;> simp only [z0h] at h <;> try exact h.elim
  ·simp only [z0k,z1g,z7k,IOp.isMut,if_true]
   exact z1s (fun σ hk=>z12 hk) (run_store (K:=fun σ=>z0h C l σ K) h)
  ·rename_i z x y
   cases y with
   | t k=>exact h.elim
   | c d =>
    simp only [z0k,z1g,z7k,IOp.isMut,if_true]
    exact z1s (fun σ hk=>z12 hk) (run_clr (K:=fun σ=>z0h C l σ K) h)
  ·simp only [z0k,z1g,z7k,IOp.isMut,if_true]
   exact z1s (fun σ hk=>z12 hk) (run_storep (K:=fun σ=>z0h C l σ K) h)
 | ⟨io,some d,some (t,w),hid,wr⟩ :: l,σ,K,h=>by
  simp only [z0h] at h
  obtain ⟨h1,h2,h3⟩:=h
  simp only [z0k,z1g]
  rcases z9w h1 with ⟨b,e⟩ | e
  ·rw [e] at h2 h3
   rw [e]
   refine ⟨fun hb=>?_,fun hb=>?_⟩
   ·subst hb
    have h:=h2 (by cases b <;> rfl)
    simp only [z7k]
    cases hm:io.isMut with
    | true =>
     rw [if_pos rfl]
     cases io <;> first
      | (cases hm; done)
      | (simp only [z0s,okV,false_and] at h; done)
      | (refine z1s (fun σ hk=>z12 hk) (zdm (K:=fun σ=>z0h C l σ K) h))
      | (refine z1s (fun σ hk=>z12 hk) (zil (K:=fun σ=>z0h C l σ K) h))
    | false =>
     rw [if_neg (by simp)]
     exact z3e (fun v s fz hk=>⟨hk.1,z12 hk.2⟩) (runOp_M hm h)
   ·subst hb
    have h:=h3 (by cases w <;> rfl)
    simp only [AV.isB,if_true] at h
    exact z12 h
  ·rw [e] at h3
   rw [e]
   have h:=h3 (by cases w <;> rfl)
   simp only [AV.isB,Bool.false_eq_true,if_false] at h
   exact z12 h
 | ⟨io,none,some g,hid,wr⟩ :: l,σ,K,h=>by simp only [z0h] at h
def zi3 (C:FuncId->List AV->AV->Prop) (F0:List Nat) (f:FuncId) (args:List AV) (hid:List Nat) (d:Nat) (fz:List Nat) (σ:St) (R:St->(St->Prop)->Prop) (K:St->Prop):Prop :=
 ∃ r,C f args r∧z1x hid d r = true∧(r.flatB || fz.all F0.contains) = true∧R (z9q σ d [] r) K
def z0g (C:FuncId->List AV->AV->Prop) (F0:List Nat) (R:St->(St->Prop)->Prop) (K:St->Prop) (σ:St) (d:Nat) (hid:List Nat):IOp->Prop
 | .alloc z ty zero=>zero.cells.length = z∧0 < z∧zero.cells.all AV.one = true∧hid.contains d = false∧R (σ.made d (.ptr d 0 0) (zli z ty zero)) K
 | .box z ty x=>byOk hid σ (σ.get x)∧(byFz (σ.get x)).all F0.contains = true∧(z1j σ (σ.get x)).cells.length = z∧0 < z∧(z1j σ (σ.get x)).cells.all AV.one = true∧hid.contains d = false∧R (σ.made d (.ptr d 0 0) (zli z ty (z1j σ (σ.get x)))) K
 | .mknil z ty=>0 < z∧hid.contains d = false∧R (σ.made d (.rs d 0 0) (some ⟨z,ty,[],0⟩)) K
 | .bsl z ty xs=>z69 hid σ (xs.map σ.get)∧(z7a (xs.map σ.get)).all F0.contains = true∧0 < z∧zmh z (z19 σ (xs.map σ.get))∧hid.contains d = false∧R (σ.made d (.rs d 0 (z19 σ (xs.map σ.get)).length) (some ⟨z,ty,z19 σ (xs.map σ.get),0⟩)) K
 | .callv fx xs=>(σ.get fx).isC = true∧z69 hid σ (xs.map σ.get)∧zi3 C F0 (σ.get fx).cf ((σ.get fx).c1 ++ z19 σ (xs.map σ.get) ++ (σ.get fx).c2) hid d (z7a (xs.map σ.get)) σ R K
 | .call p xs=>z69 hid σ (xs.map σ.get)∧z4x p (z19 σ (xs.map σ.get))∧z1x hid d (z1l p (z19 σ (xs.map σ.get))) = true∧((z1l p (z19 σ (xs.map σ.get))).flatB || (z7a (xs.map σ.get)).all F0.contains) = true∧R (z9q σ d [] (z1l p (z19 σ (xs.map σ.get)))) K
 | io=>okV hid σ io∧z13 hid (valV σ io) = true∧(fzV σ io).all F0.contains = true∧R (σ.made d (valV σ io) none) K
/-- a head,all of whose freezes are of F0,and its tail -/
def z0a (C:FuncId->List AV->AV->Prop) (F0:List Nat) (tl:List ROp):List ROp->St->(St->Prop)->Prop
 | [],σ,K=>z0h C tl σ K
 | ⟨io,some d,none,hid,wr⟩ :: l,σ,K=>z0g C F0 (z0a C F0 tl l) K σ d hid io
 | ⟨io,some d,some (t,w),hid,wr⟩ :: l,σ,K=>gB (σ.T t) = true∧(gIs w (σ.T t) = true->z0g C F0 (z0a C F0 tl l) K (σ.set t (.bool w)) d hid io) ∧
   (gIs w (σ.T t) = false->z0a C F0 tl l ((if (σ.T t).isB then σ.set t (.bool (!w)) else σ).set d (.tup [])) K)
 | ⟨io,none,none,hid,wr⟩ :: l,σ,K=>(match io with
  | .store z p x=>zpd F0 hid wr σ z (σ.get x) (σ.get p)∧z0a C F0 tl l (zpc σ z (σ.get x) (σ.get p)) K
  | _=>False)
 | _ :: _,_,_=>False
theorem run_storeH {F0 hid wr:List Nat} {σ:St} {K:St->Prop} {z:Nat} {p x:IOpd} (h:zpd F0 hid wr σ z (σ.get x) (σ.get p)∧K (zpc σ z (σ.get x) (σ.get p))):zm8 F0 hid wr σ (fun r arr=>K ⟨σ.T,upd σ.H r (some arr)⟩) (.store z p x):=by
 obtain ⟨h1,h2⟩:=h
 simp only [zm8]
 cases hp:σ.get p <;> rw [hp] at h1 h2 <;> simp only [zpd,zpc] at h1 h2
 rename_i r i f
 obtain ⟨a1,a2,a3,g1,a4,g2,g3,g4,g5,g6⟩:=h1
 refine ⟨a1,a2,a3,?_⟩
 rw [z4m.1 g1]
 refine ⟨a4,?_⟩
 cases ha:σ.H r with
 | none=>rw [ha] at g2; simp [z0e] at g2
 | some arr =>
  rw [ha] at g2 g4 g5 h2
  simp only [z0e,z1m] at g2 g4 g5
  simp only
  rw [List.getD_eq_getElem?_getD,List.getElem?_eq_getElem g2] at g4
  rw [List.getElem?_eq_getElem g2]
  refine ⟨g3,g4,g5,g6,?_⟩
  simp only [stArr] at h2
  rw [List.getD_eq_getElem?_getD,List.getElem?_eq_getElem g2] at h2
  exact h2
theorem zxs {C:FuncId->List AV->AV->Prop} {F0:List Nat} {R:St->(St->Prop)->Prop} {σ:St} {d:Nat} {hid:List Nat} {K:St->Prop} {io:IOp} (h:z0g C F0 R K σ d hid io):z0y C d hid σ (fun v s fz=>fz.all F0.contains = true∧z13 hid v = true∧R (σ.made d v s) K) io:=by
 cases io with
 | alloc z ty zero=>exact ⟨h.1,h.2.1,h.2.2.1,rfl,z6g h.2.2.2.1,h.2.2.2.2⟩
 | box z ty x =>
  simp only [z0g,z0y] at *
  rw [z4m.1 h.1]
  exact ⟨h.2.2.1,h.2.2.2.1,h.2.2.2.2.1,h.2.1,z6g h.2.2.2.2.2.1,h.2.2.2.2.2.2⟩
 | mknil z ty=>exact ⟨h.1,rfl,z2w h.2.1,h.2.2⟩
 | bsl z ty xs =>
  simp only [z0g,z0y] at *
  rw [z1o.1 h.1]
  exact ⟨h.2.2.1,z9g h.2.2.2.1,h.2.1,z2w h.2.2.2.2.1,h.2.2.2.2.2⟩
 | callv fx xs =>
  simp only [z0g,z0y,zi3] at *
  obtain ⟨h1,h2,r,h3,h4,h5,h6⟩:=h
  cases hf:σ.get fx <;> rw [hf] at h1 h3 <;> simp only [AV.isC,Bool.false_eq_true] at h1
  rw [z1o.1 h2]
  refine ⟨r,h3,?_⟩
  have hres:∀ b,(if b = true then σ.made d r none else (σ.fzs []).made d r none) = σ.made d r none:=fun b=>by cases b <;> rfl
  cases r with
  | own z ty l=>exact ⟨by simpa [AV.flatB] using h5,z2w (by simpa [z1x] using h4),h6⟩
  | _ =>
   simp only [z1f]
   simp only [z9q,hres] at h6
   simp only [z1x] at h4
   split
   ·exact ⟨rfl,h4,h6⟩
   ·rename_i hb
    simp only [Bool.not_eq_true] at hb
    rw [hb,Bool.false_or] at h5
    exact ⟨h5,h4,h6⟩
 | call p xs =>
  simp only [z0g,z0y] at *
  obtain ⟨h2,h3,h4,h5,h6⟩:=h
  rw [z1o.1 h2]
  refine ⟨h3,?_⟩
  generalize z1l p (z19 σ (xs.map σ.get)) = r at h4 h5 h6
  have hres:∀ b,(if b = true then σ.made d r none else (σ.fzs []).made d r none) = σ.made d r none:=fun b=>by cases b <;> rfl
  cases r with
  | own z ty l=>exact ⟨by simpa [AV.flatB] using h5,z2w (by simpa [z1x] using h4),h6⟩
  | _ =>
   simp only [z1f]
   simp only [z9q,hres] at h6
   simp only [z1x] at h4
   split
   ·exact ⟨rfl,h4,h6⟩
   ·rename_i hb
    simp only [Bool.not_eq_true] at hb
    rw [hb,Bool.false_or] at h5
    exact ⟨h5,h4,h6⟩
 | store z p x=>simp only [z0g,okV,false_and] at h
 | append z ty b x y=>simp only [z0g,okV,false_and] at h
 | nileq neq x=>simp only [z0g,okV,false_and] at h
 | storep z p x=>simp only [z0g,okV,false_and] at h
 | copy z x y=>simp only [z0g,okV,false_and] at h
 | _=>exact zxz (K:=fun v fz=>fz.all F0.contains = true∧z13 hid v = true∧R (σ.made d v none) K) ⟨h.1,h.2.2.1,h.2.1,h.2.2.2⟩
theorem z1q {C:FuncId->List AV->AV->Prop} {F0:List Nat} {tl:List ROp}:∀ {l:List ROp} {σ:St} {K:St->Prop},z0a C F0 tl l σ K->z0p C F0 l σ fun σ=>z0k C tl σ K
 | [],σ,K,h=>z12 h
 | ⟨io,some d,none,hid,wr⟩ :: l,σ,K,h=>by
  simp only [z0a] at h
  simp only [z0p,z1g]
  exact z3e (fun v s fz hk=>⟨hk.1,hk.2.1,z1q hk.2.2⟩) (zxs h)
 | ⟨io,none,none,hid,wr⟩ :: l,σ,K,h=>by
  cases io <;> simp only [z0a] at h <;> try exact h.elim
  simp only [z0p,z1g]
  exact zfg (fun r a hk=>z1q hk) (run_storeH (K:=fun σ=>z0a C F0 tl l σ K) h)
 | ⟨io,some d,some (t,w),hid,wr⟩ :: l,σ,K,h=>by
  simp only [z0a] at h
  obtain ⟨h1,h2,h3⟩:=h
  simp only [z0p,z1g]
  rcases z9w h1 with ⟨b,e⟩ | e
  ·rw [e] at h2 h3
   rw [e]
   refine ⟨fun hb=>?_,fun hb=>?_⟩
   ·subst hb
    exact z3e (fun v s fz hk=>⟨hk.1,hk.2.1,z1q hk.2.2⟩) (zxs (h2 (by cases b <;> rfl)))
   ·subst hb
    have h:=h3 (by cases w <;> rfl)
    simp only [AV.isB,if_true] at h
    exact z1q h
  ·rw [e] at h3
   rw [e]
   have h:=h3 (by cases w <;> rfl)
   simp only [AV.isB,Bool.false_eq_true,if_false] at h
   exact z1q h
 | ⟨io,none,some g,hid,wr⟩ :: l,σ,K,h=>by simp only [z0a] at h
def z0l (C:FuncId->List AV->AV->Prop) (g:Reg) (σ:St) (K:St->Prop):Prop :=
 match g.draw with
 | true=>z0a C (g.fzT.filterMap fun t=>((σ.kills g.kills).T t).name) g.tail g.head ((σ.kills g.kills).fzs (g.fzT.filterMap fun t=>((σ.kills g.kills).T t).name)) K
 | false=>z0h C g.tail (σ.kills g.kills) K
theorem zio {C:FuncId->List AV->AV->Prop} {g:Reg} {σ:St} {K:St->Prop} (h:z0l C g σ K):z4b C g σ K:=by
 unfold z0l at h
 unfold z4b
 split at h
 ·rename_i e; rw [if_pos e]; exact z1q h
 ·rename_i e; rw [if_neg (by rw [e]; simp)]; exact z12 h
/-! ### Regions with pointers handed on -/
def ckOk (σ:St):AV->Prop
 | .ptr r _ _=>(σ.H r).isSome = true
 | .rp _=>True
 | _=>False
def cloOk (σ:St):AV->Prop
 | .ptr r 0 0=>(σ.H r).isSome = true
 | _=>False
def ptrAt:AV->Nat
 | .ptr r _ _=>r
 | _=>0
def mOk (σ:St):AV->Prop
 | .ptr _ _ _=>True
 | v=>byOk [] σ v
def mVal (σ:St):AV->AV
 | .ptr r i f=>.ptr r i f
 | v=>z1j σ v
def mFz:AV->List Nat
 | .ptr _ _ _=>[]
 | v=>byFz v
theorem mval_ok {σ:St} {v:AV} (h:mOk σ v):σ.mval v = some (mVal σ v,mFz v):=by
 cases v with
 | und=>exact h.elim
 | own z ty l=>exact h.elim
 | clom f r=>exact h.elim
 | mp r es=>exact h.elim
 | vrs r o l u=>exact h.elim
 | rs r o l =>
  have h':byOk [] σ (.rs r o l):=h
  exact z4m.1 h'
 | _=>rfl
def mOks (σ:St):List AV->Prop
 | []=>True
 | v :: l=>mOk σ v∧mOks σ l
def zq8 (σ:St):List AV->List AV
 | []=>[]
 | v :: l=>mVal σ v :: zq8 σ l
def mFzs:List AV->List Nat
 | []=>[]
 | v :: l=>mFz v ++ mFzs l
theorem zx6 {σ:St}:∀ {l:List AV},mOks σ l->σ.mvals l = some (zq8 σ l,mFzs l)
 | [],_=>rfl
 | v :: l,h=>by
  simp only [St.mvals,mval_ok h.1,zx6 h.2,zq8,mFzs]
def zlq (σ:St):AV->Prop
 | .clo _ [] []=>True
 | .clom _ q=>(σ.H q).isSome = true
 | _=>False
def mFn:AV->FuncId
 | .clo f _ _=>f
 | .clom f _=>f
 | _=>0
def mArgs (ds:List AV):AV->List AV
 | .clom _ q=>ds ++ [.ptr q 0 0]
 | _=>ds
def z4o (P:Program) (f:FuncId) (args:List AV) (T:Nat->AV) (H:Nat->Option Arr) (d:Nat) (R:St->(St->Prop)->Prop) (K:St->Prop):Prop:=∃ r H',MFn P f args H r H'∧R ⟨upd T d r,H'⟩ K
theorem z17 {P:Program} {f:FuncId} {args:List AV} {T:Nat->AV} {H:Nat->Option Arr} {d:Nat} {R:St->(St->Prop)->Prop} {K:St->Prop} {r:AV} {H':Nat->Option Arr} (h:MFn P f args H r H') (hk:R ⟨upd T d r,H'⟩ K):z4o P f args T H d R K:=⟨r,H',h,hk⟩
def z35 (σ:St):AV->Prop
 | .mp r _=>(σ.H r).isSome = true
 | .mv _=>True
 | _=>False
def ents:AV->List (Int × AV)
 | .mp _ es=>es
 | .mv es=>es
 | _=>[]
def kI:AV->Bool
 | .int .i64 _=>true
 | _=>false
def mpOk (σ:St):AV->Prop
 | .mp r _=>r < 1000∧(σ.H r).isSome = true
 | _=>False
def mpR:AV->Nat
 | .mp r _=>r
 | _=>0
def remT (r:Nat) (es:List (Int × AV)) (T:Nat->AV):Nat->AV:=fun t=>remp r es (T t)
theorem kI_of {v:AV} (h:kI v = true):∃ q,v = .int .i64 q:=by
 cases v with
 | int k q=>cases k <;> first | exact ⟨q,rfl⟩ | cases h
 | _=>cases h
theorem entOk_of {σ:St} {v:AV} (h:z35 σ v):zy0 σ v = some (ents v):=by
 cases v with
 | mp r es=>exact if_pos h
 | mv es=>rfl
 | _=>exact h.elim
def wOk (σ:St):AV->Prop
 | .rs _ _ _=>True
 | v=>mOk σ v
def wVal (σ:St):AV->AV
 | .rs r off len=>.rs r off len
 | v=>mVal σ v
def wFz:AV->List Nat
 | .rs _ _ _=>[]
 | v=>mFz v
theorem wval_ok {σ:St} {v:AV} (h:wOk σ v):σ.wval v = some (wVal σ v,wFz v):=by
 cases v with
 | rs r off len=>rfl
 | _ =>
  simp only [wOk] at h
  simp only [St.wval,wVal,wFz]
  exact mval_ok h
def wOks (σ:St):List AV->Prop
 | []=>True
 | v :: l=>wOk σ v∧wOks σ l
def zfl (σ:St):List AV->List AV
 | []=>[]
 | v :: l=>wVal σ v :: zfl σ l
def wFzs:List AV->List Nat
 | []=>[]
 | v :: l=>wFz v ++ wFzs l
theorem zrq {σ:St}:∀ {l:List AV},wOks σ l->σ.wvals l = some (zfl σ l,wFzs l)
 | [],_=>rfl
 | v :: l,h=>by
  simp only [St.wvals,wval_ok h.1,zrq h.2,zfl,wFzs]
def zrt:AV->Prop
 | .clo _ [] []=>True
 | _=>False
/-- calls that hand an object with slices on -/
def clR:AV->Nat
 | .clom _ r=>r
 | _=>0
def gCalOk:AV->Prop
 | .clom _ r=>r < 500∨r = 1000
 | _=>False
def GCalling (P:Program) (f:FuncId) (r:Nat) (ds:List AV) (d:Nat) (σ:St) (R:St->(St->Prop)->Prop) (K:St->Prop):Prop:=∃ S res Rl,GFn P f (ds ++ [.ptr 1000 0 0]) S res Rl∧gsIn σ.T σ.H r S∧∀ S',Rl S'->R ⟨upd (zfk σ r S').T d res,(zfk σ r S').H⟩ K
def runX (P:Program) (C:FuncId->List AV->AV->Prop):XOp->St->(St->Prop)->Prop
 | .op k r,σ,K=>z0h C [r] (σ.kills k) K
 | .nilck d x none,σ,K=>ckOk σ (σ.get x)∧K (σ.set d (σ.get x))
 | .nilck d x (some (t,w)),σ,K=>gB (σ.T t) = true∧(gIs w (σ.T t) = true->ckOk (σ.set t (.bool w)) ((σ.set t (.bool w)).get x)∧K ((σ.set t (.bool w)).set d ((σ.set t (.bool w)).get x))) ∧
   (gIs w (σ.T t) = false->K ((if (σ.T t).isB then σ.set t (.bool (!w)) else σ).set d (.tup [])))
 | .mkclo d f x,σ,K=>cloOk σ (σ.get x)∧K (σ.set d (.clom f (ptrAt (σ.get x))))
 | .mcall d fx xs,σ,K=>mOks σ (xs.map σ.get)∧zlq (σ.fzs (mFzs (xs.map σ.get))) (σ.get fx)∧z4o P (mFn (σ.get fx)) (mArgs (zq8 σ (xs.map σ.get)) (σ.get fx)) σ.T (σ.fzs (mFzs (xs.map σ.get))).H d (fun σ K=>K σ) K
 | .mkmap d ty,σ,K=>K ((σ.kill d).made d (.mp d []) (some ⟨1,ty,[],0⟩))
 | .mlook d ok m k z none,σ,K=>z35 σ (σ.get m)∧kI (σ.get k) = true∧K (σ.set d (lkV ok z (lkp (ents (σ.get m)) (σ.get k).iv)))
 | .mlook d ok m k z (some (t,w)),σ,K=>gB (σ.T t) = true∧(gIs w (σ.T t) = true->z35 (σ.set t (.bool w)) ((σ.set t (.bool w)).get m)∧kI ((σ.set t (.bool w)).get k) = true ∧
   K ((σ.set t (.bool w)).set d (lkV ok z (lkp (ents ((σ.set t (.bool w)).get m)) ((σ.set t (.bool w)).get k).iv))))∧(gIs w (σ.T t) = false->K ((if (σ.T t).isB then σ.set t (.bool (!w)) else σ).set d (.tup [])))
 | .mupd m k x,σ,K=>mpOk σ (σ.get m)∧kI (σ.get k) = true∧byOk [] σ (σ.get x)∧K ⟨remT (mpR (σ.get m)) (upk (ents (σ.get m)) (σ.get k).iv (z1j σ (σ.get x))) σ.T,(σ.fzs (byFz (σ.get x))).H⟩
 | .wcall d fx xs,σ,K=>wOks σ (xs.map σ.get)∧zrt (σ.get fx)∧z4o P (mFn (σ.get fx)) (zfl σ (xs.map σ.get)) σ.T (σ.fzs (wFzs (xs.map σ.get))).H d (fun σ K=>K σ) K
 | .gcall d fx xs,σ,K=>z69 [] σ (xs.map σ.get)∧gCalOk (σ.get fx)∧GCalling P (mFn (σ.get fx)) (clR (σ.get fx)) (z19 σ (xs.map σ.get)) d (σ.fzs (z7a (xs.map σ.get))) (fun σ K=>K σ) K
def z0n (P:Program) (C:FuncId->List AV->AV->Prop):List XOp->St->(St->Prop)->Prop
 | [],σ,K=>K σ
 | x :: l,σ,K=>runX P C x σ fun σ'=>z0n P C l σ' K
theorem runX_ok {P:Program} {C:FuncId->List AV->AV->Prop} {x:XOp} {σ:St} {K:St->Prop} (h:runX P C x σ K):z1i P C x σ K:=by
 cases x with
 | op k r=>exact z12 h
 | nilck d x g =>
  have key:∀ {σ:St},ckOk σ (σ.get x)∧K (σ.set d (σ.get x))->zez σ d x K:=by
   intro σ h
   unfold zez
   cases hx:σ.get x <;> rw [hx] at h <;> simp only [ckOk,false_and,true_and] at h
   ·exact h
   ·exact h
  cases g with
  | none=>exact key h
  | some g =>
   obtain ⟨t,w⟩:=g
   simp only [runX] at h
   obtain ⟨h1,h2,h3⟩:=h
   simp only [z1i,z1g]
   rcases z9w h1 with ⟨b,e⟩ | e
   ·rw [e] at h2 h3
    rw [e]
    refine ⟨fun hb=>?_,fun hb=>?_⟩
    ·subst hb
     exact key (h2 (by cases b <;> rfl))
    ·subst hb
     have h:=h3 (by cases w <;> rfl)
     simp only [AV.isB,if_true] at h
     exact h
   ·rw [e] at h3
    rw [e]
    have h:=h3 (by cases w <;> rfl)
    simp only [AV.isB,Bool.false_eq_true,if_false] at h
    exact h
 | mkclo d f x =>
  simp only [runX] at h
  simp only [z1i]
  cases hx:σ.get x <;> rw [hx] at h <;> try exact h.1.elim
  rename_i r i f'
  cases i with
  | succ i=>exact h.1.elim
  | zero =>
   cases f' with
   | succ f'=>exact h.1.elim
   | zero=>exact h
 | mcall d fx xs =>
  simp only [runX] at h
  obtain ⟨h1,h2,r,H',h3,h4⟩:=h
  simp only [z1i]
  rw [zx6 h1]
  cases hf:σ.get fx <;> rw [hf] at h2 h3 <;> try exact h2.elim
  ·rename_i f first caps
   cases first with
   | cons a l=>exact h2.elim
   | nil =>
    cases caps with
    | cons a l=>exact h2.elim
    | nil=>exact ⟨r,H',h3,h4⟩
  ·exact ⟨h2,r,H',h3,h4⟩
 | mkmap d ty=>exact h
 | mlook d ok m k z g =>
  have key:∀ {σ:St},z35 σ (σ.get m)∧kI (σ.get k) = true∧K (σ.set d (lkV ok z (lkp (ents (σ.get m)) (σ.get k).iv)))->zf1 σ d ok m k z K:=by
   intro σ h
   obtain ⟨h1,h2,h3⟩:=h
   unfold zf1
   obtain ⟨q,hq⟩:=kI_of h2
   rw [entOk_of h1,hq]
   rw [hq] at h3
   exact h3
  cases g with
  | none=>exact key h
  | some g =>
   obtain ⟨t,w⟩:=g
   simp only [runX] at h
   obtain ⟨h1,h2,h3⟩:=h
   simp only [z1i,z1g]
   rcases z9w h1 with ⟨b,e⟩ | e
   ·rw [e] at h2 h3
    rw [e]
    refine ⟨fun hb=>?_,fun hb=>?_⟩
    ·subst hb
     exact key (h2 (by cases b <;> rfl))
    ·subst hb
     have h:=h3 (by cases w <;> rfl)
     simp only [AV.isB,if_true] at h
     exact h
   ·rw [e] at h3
    rw [e]
    have h:=h3 (by cases w <;> rfl)
    simp only [AV.isB,Bool.false_eq_true,if_false] at h
    exact h
 | mupd m k x =>
  simp only [runX] at h
  obtain ⟨h1,h2,h3,h4⟩:=h
  simp only [z1i]
  unfold zc7
  obtain ⟨q,hq⟩:=kI_of h2
  rw [z4m.1 h3,hq]
  rw [hq] at h4
  cases hm:σ.get m <;> rw [hm] at h1 h4 <;> try exact h1.elim
  exact ⟨h1.1,h1.2,h4⟩
 | wcall d fx xs =>
  simp only [runX] at h
  obtain ⟨h1,h2,r,H',h3,h4⟩:=h
  simp only [z1i]
  rw [zrq h1]
  cases hf:σ.get fx <;> rw [hf] at h2 h3 <;> try exact h2.elim
  rename_i f first caps
  cases first with
  | cons a l=>exact h2.elim
  | nil =>
   cases caps with
   | cons a l=>exact h2.elim
   | nil=>exact ⟨r,H',h3,h4⟩
 | gcall d fx xs =>
  simp only [runX] at h
  obtain ⟨h1,h2,S,res,Rl,h3,h4,h5⟩:=h
  simp only [z1i]
  rw [z1o.1 h1]
  cases hf:σ.get fx <;> rw [hf] at h2 h3 h4 h5 <;> try exact h2.elim
  exact ⟨h2,S,res,Rl,h3,h4,h5⟩
theorem z7s {P:Program} {C:FuncId->List AV->AV->Prop}:∀ {l:List XOp} {σ:St} {K:St->Prop},z0n P C l σ K->z14 P C l σ K
 | [],σ,K,h=>h
 | x :: l,σ,K,h=>zff (fun σ=>z7s) (runX_ok h)
def isPtrR:AV->Nat->Prop
 | .ptr r _ _,s=>r = s
 | _,_=>False
def isRsR:AV->Nat->Prop
 | .rs r _ _,s=>r = s
 | _,_=>False
/-- a region,its names read through a slot -/
def nmB (v:AV):Bool:=v.name.isSome
def nmD (v:AV):Nat:=v.name.getD 0
def zpm (C:FuncId->List AV->AV->Prop) (g:Reg) (s:Nat) (σ:St) (K:St->Prop):Prop :=
 nmB (σ.T s) = true∧1000≤nmD (σ.T s)∧z0l C (g.ren s (nmD (σ.T s))) σ K
theorem runRegW_ok {C:FuncId->List AV->AV->Prop} {g:Reg} {s:Nat} {σ:St} {K:St->Prop} (h:zpm C g s σ K):z6j C g s σ K:=by
 unfold zpm nmB nmD at h
 unfold z6j
 cases hn:(σ.T s).name with
 | none=>rw [hn] at h; cases h.1
 | some q =>
  rw [hn] at h
  exact ⟨h.2.1,zio h.2.2⟩
def zhg (P:Program) (C:FuncId->List AV->AV->Prop) (g:Reg) (l:List XOp) (σ:St) (K:St->Prop):Prop :=
 z0a C (g.fzT.filterMap fun t=>((σ.kills g.kills).T t).name) [] g.head ((σ.kills g.kills).fzs (g.fzT.filterMap fun t=>((σ.kills g.kills).T t).name)) fun σ=>z0n P C l σ K
theorem runRegD_ok {P:Program} {C:FuncId->List AV->AV->Prop} {g:Reg} {l:List XOp} {σ:St} {K:St->Prop} (h:zhg P C g l σ K):z7z P C g l σ K :=
 z0i (fun σ hk=>z7s (by simpa only [z0k] using hk)) (z1q h)
def stpSrc (tp tv s0:Nat) (σ:St):Prop:=isPtrR (σ.T tp) s0∧isRsR (σ.T tv) tv
def zpn (P:Program) (C:FuncId->List AV->AV->Prop) (g:Reg) (z s0 tp tv:Nat) (l:List XOp) (σ:St) (K:St->Prop):Prop :=
 z0a C [] [] g.head (σ.kills g.kills) fun σ=>stpSrc tp tv s0 σ∧z0n P C (.op [] ⟨.storep z (.t tp) (.t tv),none,none,[],[]⟩ :: l) σ K
theorem runRegP_ok {P:Program} {C:FuncId->List AV->AV->Prop} {g:Reg} {z s0 tp tv:Nat} {l:List XOp} {σ:St} {K:St->Prop} (h:zpn P C g z s0 tp tv l σ K):z7y P C g z s0 tp tv l σ K:=by
 refine z0i (fun σ hk=>?_) (z1q h)
 have hk:stpSrc tp tv s0 σ∧z0n P C (.op [] ⟨.storep z (.t tp) (.t tv),none,none,[],[]⟩ :: l) σ K:=by simpa only [z0k] using hk
 obtain ⟨⟨h1,h2⟩,hk⟩:=hk
 have hx:=z7s hk
 simp only [z14,z1i,z0k,z1g,z7k,IOp.isMut,if_true,St.kills] at hx
 unfold zcu
 cases hp:σ.T tp <;> rw [hp] at h1 <;> try exact h1.elim
 cases hv:σ.T tv <;> rw [hv] at h2 <;> try exact h2.elim
 exact ⟨h1,h2,hx⟩
def zhf (P:Program) (C:FuncId->List AV->AV->Prop) (g:Reg) (lt:List Nat) (mo ko vo:IOpd) (l:List XOp) (σ:St) (K:St->Prop):Prop :=
 z0a C [] [] g.head σ fun σ=>z9r lt σ∧(σ.get vo).byFree = true∧z0n P C (.mupd mo ko vo :: l) σ K
theorem runRegM_ok {P:Program} {C:FuncId->List AV->AV->Prop} {g:Reg} {lt:List Nat} {mo ko vo:IOpd} {l:List XOp} {σ:St} {K:St->Prop} (h:zhf P C g lt mo ko vo l σ K):z9y P C g lt mo ko vo l σ K:=by
 refine z0i (fun σ hk=>?_) (z1q h)
 have hk:z9r lt σ∧(σ.get vo).byFree = true∧z0n P C (.mupd mo ko vo :: l) σ K:=by simpa only [z0k] using hk
 exact ⟨hk.1,hk.2.1,z7s hk.2.2⟩
/-- CODE: 'loops' are handed on as they are -/
def run (C:FuncId->List AV->AV->Prop):IR->(XK->St->Prop)->St->Prop
 | .gini l,Q,σ=>z7x l σ (Q .normal)
 | .skip,Q,σ=>Q .normal σ
 | .reg g,Q,σ=>z0l C g σ (Q .normal)
 | .regw g s,Q,σ=>zpm C g s σ (Q .normal)
 | .regd P g l,Q,σ=>zhg P C g l σ (Q .normal)
 | .regp P g z s0 tp tv l,Q,σ=>zpn P C g z s0 tp tv l σ (Q .normal)
 | .regm P g lt mo ko vo l,Q,σ=>zhf P C g lt mo ko vo l σ (Q .normal)
 | .regx P l,Q,σ=>z0n P C l σ (Q .normal)
 | .seq x y,Q,σ=>run C x (z2d (run C y Q) Q) σ
 | .cond c x y,Q,σ=>(σ.get c).isB = true∧((σ.get c).bv = true->run C x Q σ)∧((σ.get c).bv = false->run C y Q σ)
 | .block id b,Q,σ=>run C b (z5r id Q) σ
 | .loop b,Q,σ=>awp C (.loop b) Q σ
 | .exit id,Q,σ=>Q (.exit id) σ
 | .ret,Q,σ=>Q .ret σ
theorem z09 {C:FuncId->List AV->AV->Prop}:∀ {c:IR} {Q:XK->St->Prop} {σ:St},run C c Q σ->awp C c Q σ
 | .gini l,Q,σ,h=>h
 | .skip,Q,σ,h=>h
 | .reg g,Q,σ,h=>zio h
 | .regw g s,Q,σ,h=>runRegW_ok h
 | .regd P g l,Q,σ,h=>runRegD_ok h
 | .regp P g z s0 tp tv l,Q,σ,h=>runRegP_ok h
 | .regm P g lt mo ko vo l,Q,σ,h=>runRegM_ok h
 | .regx P l,Q,σ,h=>z7s h
 | .seq x y,Q,σ,h=>by
  simp only [run] at h
  simp only [awp]
  refine z39 x (fun e σ' hq=>?_) σ (z09 h)
  cases e with
  | normal=>exact z09 hq
  | exit id=>exact hq
  | ret=>exact hq
 | .cond c x y,Q,σ,h=>by
  simp only [run] at h
  simp only [awp]
  cases hc:σ.get c <;> rw [hc] at h <;> simp only [AV.isB,AV.bv,Bool.false_eq_true,false_and] at h
  exact ⟨fun e=>z09 (h.2.1 e),fun e=>z09 (h.2.2 e)⟩
 | .block id b,Q,σ,h=>z09 (c:=b) h
 | .loop b,Q,σ,h=>h
 | .exit id,Q,σ,h=>h
 | .ret,Q,σ,h=>h
/-- a loop,in this form -/
theorem z0f {C:FuncId->List AV->AV->Prop} {b:IR} {Q:XK->St->Prop} (I:Nat->St->Prop) {σ:St} {k:Nat} (h0:I k σ)
  (hstep:∀ k σ,I k σ->run C b (z2d (fun σ'=>∃ m,m < k∧I m σ') Q) σ):awp C (.loop b) Q σ :=
 loop_inv I h0 fun k σ h=>z09 (hstep k σ h)
/-! ### Rules -/
def AV.isSl:AV->Bool | .sl _=>true | _=>false
def zlj:Option Arr->Nat | some a=>a.ty | none=>0
theorem apOk_rs (σ:St) (z ty bytes:Nat) (v:AV) (r off len:Nat):apOk σ z ty bytes v (.rs r off len) = (byOk [] σ v∧(z1j σ v).isSl = true∧(σ.H r).isSome = true∧objZ (σ.H r) = z∧zlj (σ.H r) = ty∧z1m ((σ.fzs (byFz v)).H r)≤off + len∧fitsV (len + (slOf (z1j σ v)).length) bytes∧r < 1000∧∀ d,d ∈ slOf (z1j σ v)->d.cells.length = z∧d.cells.all AV.one = true):=by
 have ht:apOk.objTy (σ.H r) = zlj (σ.H r):=by cases σ.H r <;> rfl
 apply propext
 simp only [apOk,ht]
 constructor
 ·rintro ⟨h1,l,h2,h3⟩
  rw [h2]
  exact ⟨h1,rfl,h3⟩
 ·rintro ⟨h1,h2,h3⟩
  refine ⟨h1,slOf (z1j σ v),?_,h3⟩
  cases hv:z1j σ v <;> rw [hv] at h2 <;> first | rfl | cases h2
theorem z54 (b:Bool) (X Y:Prop):(if b = true then X else Y) = ((b = true->X)∧(b = false->Y)):=by
 cases b <;> simp
theorem zqb (b:Bool) [inst:Decidable (b = false)] (X Y:Prop):(if b = false then X else Y) = ((b = false->X)∧(b = true->Y)):=by
 cases b <;> simp
theorem ite_branch (b:Bool) [inst:Decidable (b = true)] (X Y:Prop):(if b = true then X else Y) = ((b = true->X)∧(b = false->Y)):=by
 cases b <;> simp
theorem set_T (σ:St) (t s:Nat) (v:AV):(σ.set t v).T s = if s = t then v else σ.T s:=rfl
theorem set_H (σ:St) (t:Nat) (v:AV):(σ.set t v).H = σ.H:=rfl
theorem made_T (σ:St) (t s:Nat) (v:AV) (o:Option Arr):(σ.made t v o).T s = if s = t then v else σ.T s:=rfl
theorem zq7 (σ:St) (t s:Nat) (v:AV):(σ.made t v none).H s = σ.H s:=rfl
theorem zq6 (σ:St) (t s:Nat) (v:AV) (arr:Arr):(σ.made t v (some arr)).H s = if s = t then some arr else σ.H s:=rfl
theorem upd_at {α:Type} (f:Nat->α) (r s:Nat) (x:α):upd f r x s = if s = r then x else f s:=rfl
theorem sweep_at (T:Nat->AV) (r t:Nat):z7j T r t = if (T t).name = some r then .und else T t:=rfl
/-- what is left of a value behind an object's end -/
def keepS (σ:St):AV->AV
 | .rs r off len=>if (σ.H r).isSome = true then .sl (((z0e (σ.H r)).drop off).take len) else .und
 | _=>.und
theorem keepS_ok (σ:St) (v:AV):keepV σ.H v = keepS σ v:=by
 cases v with
 | rs r off len =>
  simp only [keepV,keepS]
  cases σ.H r <;> rfl
 | _=>rfl
theorem kill_T (σ:St) (r t:Nat):(σ.kill r).T t = if (σ.T t).name = some r then keepS σ (σ.T t) else σ.T t:=by
 rw [← keepS_ok]; rfl
theorem kill_H (σ:St) (r s:Nat):(σ.kill r).H s = if s = r then none else σ.H s:=rfl
theorem kills_nil (σ:St):σ.kills [] = σ:=rfl
theorem kills_cons (σ:St) (r:Nat) (l:List Nat):σ.kills (r :: l) = (σ.kill r).kills l:=rfl
theorem fz_T' (σ:St) (r t:Nat):(σ.fz r).T t = σ.T t:=rfl
theorem fz_H' (σ:St) (r s:Nat):(σ.fz r).H s = if s = r then (σ.H r).map Arr.freeze else σ.H s:=rfl
theorem fzs_nil (σ:St):σ.fzs [] = σ:=rfl
theorem fzs_cons (σ:St) (r:Nat) (l:List Nat):σ.fzs (r :: l) = (σ.fz r).fzs l:=rfl
theorem init_T (args:List AV) (t:Nat):(z0b args).T t = args.getD t .und:=rfl
theorem init_H (args:List AV) (t:Nat):(z0b args).H t = none:=rfl
theorem get_t (σ:St) (t:Nat):σ.get (.t t) = σ.T t:=rfl
theorem get_c (σ:St) (v:AV):σ.get (.c v) = v:=rfl
theorem freeze_mk (z ty:Nat) (l:List AV) (p:Nat):Arr.freeze ⟨z,ty,l,p⟩ = ⟨z,ty,l,l.length⟩:=rfl
theorem z25 (K:St->Prop) (Q:XK->St->Prop) (σ:St):z2d K Q .normal σ = K σ:=rfl
theorem thenQ_exit (K:St->Prop) (Q:XK->St->Prop) (i:Nat) (σ:St):z2d K Q (.exit i) σ = Q (.exit i) σ:=rfl
theorem thenQ_ret (K:St->Prop) (Q:XK->St->Prop) (σ:St):z2d K Q .ret σ = Q .ret σ:=rfl
theorem zi1 (i:Nat) (Q:XK->St->Prop) (σ:St):z5r i Q .normal σ = Q .normal σ:=rfl
theorem blockQ_ret (i:Nat) (Q:XK->St->Prop) (σ:St):z5r i Q .ret σ = Q .ret σ:=rfl
theorem z7b (i j:Nat) (Q:XK->St->Prop) (σ:St):z5r i Q (.exit j) σ = if j = i then Q .normal σ else Q (.exit j) σ:=rfl
theorem endQ_ret (ds:List RDesc) (r:AV) (σ:St):endQ ds r .ret σ = retV ds r σ:=rfl
theorem zqu (ds:List RDesc) (r:AV) (σ:St):endQ ds r .normal σ = retV ds r σ:=rfl
theorem z01 {C:FuncId->List AV->AV->Prop} {f:FuncId} {args:List AV} {hid:List Nat} {d:Nat} {fz:List Nat} {σ:St} {R:St->(St->Prop)->Prop} {K:St->Prop} {r:AV} (h:C f args r) (hk:z1x hid d r = true∧R (z9q σ d fz r) K):zro C f args hid d fz σ R K:=⟨r,h,hk⟩
theorem z00 {C:FuncId->List AV->AV->Prop} {F0:List Nat} {f:FuncId} {args:List AV} {hid:List Nat} {d:Nat} {fz:List Nat} {σ:St} {R:St->(St->Prop)->Prop} {K:St->Prop} {r:AV} (h:C f args r) (hk:z1x hid d r = true∧(r.flatB || fz.all F0.contains) = true∧R (z9q σ d [] r) K):zi3 C F0 f args hid d fz σ R K:=⟨r,h,hk⟩
theorem run_skip (C:FuncId->List AV->AV->Prop) (Q:XK->St->Prop) (σ:St):run C .skip Q σ = Q .normal σ:=rfl
theorem run_reg (C:FuncId->List AV->AV->Prop) (g:Reg) (Q:XK->St->Prop) (σ:St):run C (.reg g) Q σ = z0l C g σ (Q .normal):=rfl
theorem run_regw (C:FuncId->List AV->AV->Prop) (g:Reg) (s:Nat) (Q:XK->St->Prop) (σ:St):run C (.regw g s) Q σ = (nmB (σ.T s) = true∧1000≤nmD (σ.T s)∧z0l C (g.ren s (nmD (σ.T s))) σ (Q .normal)):=rfl
theorem run_regd (C:FuncId->List AV->AV->Prop) (P:Program) (g:Reg) (l:List XOp) (Q:XK->St->Prop) (σ:St):run C (.regd P g l) Q σ = zhg P C g l σ (Q .normal):=rfl
theorem run_regm (C:FuncId->List AV->AV->Prop) (P:Program) (g:Reg) (lt:List Nat) (mo ko vo:IOpd) (l:List XOp) (Q:XK->St->Prop) (σ:St):run C (.regm P g lt mo ko vo l) Q σ = zhf P C g lt mo ko vo l σ (Q .normal):=rfl
theorem noMps_nil (σ:St):z9r [] σ = True:=rfl
theorem noMps_cons (t:Nat) (l:List Nat) (σ:St):z9r (t :: l) σ = ((σ.T t).isMp = false∧z9r l σ):=rfl
theorem zhe (C:FuncId->List AV->AV->Prop) (x y:IR) (Q:XK->St->Prop) (σ:St):run C (.seq x y) Q σ = run C x (z2d (run C y Q) Q) σ:=rfl
theorem run_cond (C:FuncId->List AV->AV->Prop) (c:IOpd) (x y:IR) (Q:XK->St->Prop) (σ:St):run C (.cond c x y) Q σ = ((σ.get c).isB = true∧if (σ.get c).bv = true then run C x Q σ else run C y Q σ):=by
 rw [z54]; rfl
theorem run_block (C:FuncId->List AV->AV->Prop) (id:Nat) (b:IR) (Q:XK->St->Prop) (σ:St):run C (.block id b) Q σ = run C b (z5r id Q) σ:=rfl
theorem run_loop' (C:FuncId->List AV->AV->Prop) (b:IR) (Q:XK->St->Prop) (σ:St):run C (.loop b) Q σ = awp C (.loop b) Q σ:=rfl
theorem run_exit (C:FuncId->List AV->AV->Prop) (id:Nat) (Q:XK->St->Prop) (σ:St):run C (.exit id) Q σ = Q (.exit id) σ:=rfl
theorem run_ret (C:FuncId->List AV->AV->Prop) (Q:XK->St->Prop) (σ:St):run C .ret Q σ = Q .ret σ:=rfl
theorem runOps_nil (C:FuncId->List AV->AV->Prop) (σ:St) (K:St->Prop):z0h C [] σ K = K σ:=rfl
theorem runOps_op (C:FuncId->List AV->AV->Prop) (io:IOp) (d:Nat) (hid wr:List Nat) (l:List ROp) (σ:St) (K:St->Prop):z0h C (⟨io,some d,none,hid,wr⟩ :: l) σ K = z0s C (z0h C l) K σ d hid io:=rfl
theorem runOps_st (C:FuncId->List AV->AV->Prop) (z:Nat) (p x:IOpd) (hid wr:List Nat) (l:List ROp) (σ:St) (K:St->Prop):z0h C (⟨.store z p x,none,none,hid,wr⟩ :: l) σ K = (stOk σ z (σ.get x) (σ.get p)∧z0h C l (stSt σ z (σ.get x) (σ.get p)) K):=rfl
theorem runOps_g (C:FuncId->List AV->AV->Prop) (io:IOp) (d t:Nat) (w:Bool) (hid wr:List Nat) (l:List ROp) (σ:St) (K:St->Prop):z0h C (⟨io,some d,some (t,w),hid,wr⟩ :: l) σ K = (gB (σ.T t) = true∧if gIs w (σ.T t) = true then z0s C (z0h C l) K (σ.set t (.bool w)) d hid io else z0h C l ((if (σ.T t).isB then σ.set t (.bool (!w)) else σ).set d (.tup [])) K):=by
 rw [z54]; rfl
theorem zpo (C:FuncId->List AV->AV->Prop) (F0:List Nat) (tl:List ROp) (σ:St) (K:St->Prop):z0a C F0 tl [] σ K = z0h C tl σ K:=rfl
theorem runHead_op (C:FuncId->List AV->AV->Prop) (F0:List Nat) (tl:List ROp) (io:IOp) (d:Nat) (hid wr:List Nat) (l:List ROp) (σ:St) (K:St->Prop):z0a C F0 tl (⟨io,some d,none,hid,wr⟩ :: l) σ K = z0g C F0 (z0a C F0 tl l) K σ d hid io:=rfl
theorem runHead_st (C:FuncId->List AV->AV->Prop) (F0:List Nat) (tl:List ROp) (z:Nat) (p x:IOpd) (hid wr:List Nat) (l:List ROp) (σ:St) (K:St->Prop):z0a C F0 tl (⟨.store z p x,none,none,hid,wr⟩ :: l) σ K = (zpd F0 hid wr σ z (σ.get x) (σ.get p)∧z0a C F0 tl l (zpc σ z (σ.get x) (σ.get p)) K):=rfl
theorem runHead_g (C:FuncId->List AV->AV->Prop) (F0:List Nat) (tl:List ROp) (io:IOp) (d t:Nat) (w:Bool) (hid wr:List Nat) (l:List ROp) (σ:St) (K:St->Prop):z0a C F0 tl (⟨io,some d,some (t,w),hid,wr⟩ :: l) σ K = (gB (σ.T t) = true∧if gIs w (σ.T t) = true then z0g C F0 (z0a C F0 tl l) K (σ.set t (.bool w)) d hid io else z0a C F0 tl l ((if (σ.T t).isB then σ.set t (.bool (!w)) else σ).set d (.tup [])) K):=by
 rw [z54]; rfl
theorem zq0 {hid:List Nat} {v:AV} (h:v.name = none):z13 hid v = true:=by unfold z13; rw [h]
theorem zpz (hid:List Nat) (r i f:Nat):z13 hid (.ptr r i f) = !hid.contains r:=rfl
theorem nameOk_rs' (hid:List Nat) (r i f:Nat):z13 hid (.rs r i f) = !hid.contains r:=rfl
theorem run_regx (C:FuncId->List AV->AV->Prop) (P:Program) (l:List XOp) (Q:XK->St->Prop) (σ:St):run C (.regx P l) Q σ = z0n P C l σ (Q .normal):=rfl
theorem runXs_nil (P:Program) (C:FuncId->List AV->AV->Prop) (σ:St) (K:St->Prop):z0n P C [] σ K = K σ:=rfl
theorem runXs_op (P:Program) (C:FuncId->List AV->AV->Prop) (k:List Nat) (r:ROp) (l:List XOp) (σ:St) (K:St->Prop):z0n P C (.op k r :: l) σ K = z0h C [r] (σ.kills k) fun σ'=>z0n P C l σ' K:=rfl
theorem zph (P:Program) (C:FuncId->List AV->AV->Prop) (d:Nat) (x:IOpd) (l:List XOp) (σ:St) (K:St->Prop):z0n P C (.nilck d x none :: l) σ K = (ckOk σ (σ.get x)∧z0n P C l (σ.set d (σ.get x)) K):=rfl
theorem zim (P:Program) (C:FuncId->List AV->AV->Prop) (d:Nat) (x:IOpd) (t:Nat) (w:Bool) (l:List XOp) (σ:St) (K:St->Prop):z0n P C (.nilck d x (some (t,w)) :: l) σ K = (gB (σ.T t) = true∧if gIs w (σ.T t) = true then ckOk (σ.set t (.bool w)) ((σ.set t (.bool w)).get x)∧z0n P C l ((σ.set t (.bool w)).set d ((σ.set t (.bool w)).get x)) K else z0n P C l ((if (σ.T t).isB then σ.set t (.bool (!w)) else σ).set d (.tup [])) K):=by
 rw [z54]; rfl
theorem zpk (P:Program) (C:FuncId->List AV->AV->Prop) (d:Nat) (f:FuncId) (x:IOpd) (l:List XOp) (σ:St) (K:St->Prop):z0n P C (.mkclo d f x :: l) σ K = (cloOk σ (σ.get x)∧z0n P C l (σ.set d (.clom f (ptrAt (σ.get x)))) K):=rfl
theorem zpl (P:Program) (C:FuncId->List AV->AV->Prop) (d:Nat) (fx:IOpd) (xs:List IOpd) (l:List XOp) (σ:St) (K:St->Prop):z0n P C (.mcall d fx xs :: l) σ K = (mOks σ (xs.map σ.get)∧zlq (σ.fzs (mFzs (xs.map σ.get))) (σ.get fx)∧z4o P (mFn (σ.get fx)) (mArgs (zq8 σ (xs.map σ.get)) (σ.get fx)) σ.T (σ.fzs (mFzs (xs.map σ.get))).H d (z0n P C l) K):=rfl
theorem zpg (P:Program) (C:FuncId->List AV->AV->Prop) (d:Nat) (fx:IOpd) (xs:List IOpd) (l:List XOp) (σ:St) (K:St->Prop):z0n P C (.wcall d fx xs :: l) σ K = (wOks σ (xs.map σ.get)∧zrt (σ.get fx)∧z4o P (mFn (σ.get fx)) (zfl σ (xs.map σ.get)) σ.T (σ.fzs (wFzs (xs.map σ.get))).H d (z0n P C l) K):=rfl
theorem zpj (P:Program) (C:FuncId->List AV->AV->Prop) (d:Nat) (ty:TypeId) (l:List XOp) (σ:St) (K:St->Prop):z0n P C (.mkmap d ty :: l) σ K = z0n P C l ((σ.kill d).made d (.mp d []) (some ⟨1,ty,[],0⟩)) K:=rfl
theorem zpi (P:Program) (C:FuncId->List AV->AV->Prop) (d:Nat) (ok:Bool) (m k:IOpd) (z:AV) (l:List XOp) (σ:St) (K:St->Prop):z0n P C (.mlook d ok m k z none :: l) σ K = (z35 σ (σ.get m)∧kI (σ.get k) = true∧z0n P C l (σ.set d (lkV ok z (lkp (ents (σ.get m)) (σ.get k).iv))) K):=rfl
theorem zin (P:Program) (C:FuncId->List AV->AV->Prop) (d:Nat) (ok:Bool) (m k:IOpd) (z:AV) (t:Nat) (w:Bool) (l:List XOp) (σ:St) (K:St->Prop):z0n P C (.mlook d ok m k z (some (t,w)) :: l) σ K = (gB (σ.T t) = true∧if gIs w (σ.T t) = true then z35 (σ.set t (.bool w)) ((σ.set t (.bool w)).get m)∧kI ((σ.set t (.bool w)).get k) = true∧z0n P C l ((σ.set t (.bool w)).set d (lkV ok z (lkp (ents ((σ.set t (.bool w)).get m)) ((σ.set t (.bool w)).get k).iv))) K else z0n P C l ((if (σ.T t).isB then σ.set t (.bool (!w)) else σ).set d (.tup [])) K):=by
 rw [z54]; rfl
theorem runXs_mupd (P:Program) (C:FuncId->List AV->AV->Prop) (m k x:IOpd) (l:List XOp) (σ:St) (K:St->Prop):z0n P C (.mupd m k x :: l) σ K = (mpOk σ (σ.get m)∧kI (σ.get k) = true∧byOk [] σ (σ.get x)∧z0n P C l ⟨remT (mpR (σ.get m)) (upk (ents (σ.get m)) (σ.get k).iv (z1j σ (σ.get x))) σ.T,(σ.fzs (byFz (σ.get x))).H⟩ K):=rfl
theorem nameOk_mp (hid:List Nat) (r:Nat) (es:List (Int × AV)):z13 hid (.mp r es) = !hid.contains r:=rfl
theorem zq1 (hid:List Nat) (f:FuncId) (r:Nat):z13 hid (.clom f r) = !hid.contains r:=rfl
theorem initM_T (args:List AV) (H:Nat->Option Arr) (t:Nat):(z77 args H).T t = sh (args.getD t .und):=rfl
theorem initM_H (args:List AV) (H:Nat->Option Arr):(z77 args H).H = shH H:=rfl
theorem shH_big (H:Nat->Option Arr) (r:Nat):shH H (r + 1000) = H r:=by unfold shH; rw [if_neg (by omega),Nat.add_sub_cancel]
theorem shH_small (H:Nat->Option Arr) (r:Nat) (h:r < 1000):shH H r = none:=if_pos h
theorem endM_ret (ds:List RDesc) (r:AV) (H':Nat->Option Arr) (σ:St):endM ds r H' .ret σ = retM ds r H' σ:=rfl
theorem zqv (ds:List RDesc) (r:AV) (H':Nat->Option Arr) (σ:St):endM ds r H' .normal σ = retM ds r H' σ:=rfl
theorem run_gini (C:FuncId->List AV->AV->Prop) (l:List GIni) (Q:XK->St->Prop) (σ:St):run C (.gini l) Q σ = z7x l σ (Q .normal):=rfl
theorem giniV_nil (σ:St) (K:St->Prop):z7x [] σ K = K σ:=rfl
theorem giniV_cons (r j q z:Nat) (ty:TypeId) (l:List GIni) (σ:St) (K:St->Prop):z7x (⟨r,j,q,z,ty⟩ :: l) σ K = (q < 1000∧0 < z∧z7x l ⟨upd (σ.kill q).T (vt r j) (.vrs q 0 0 (.slice none 0 0)),upd (σ.kill q).H q (some ⟨z,ty,[],0⟩)⟩ K):=rfl
theorem runOps_clr (C:FuncId->List AV->AV->Prop) (z:Nat) (x:IOpd) (d:AV) (hid wr:List Nat) (l:List ROp) (σ:St) (K:St->Prop):z0h C (⟨.copy z x (.c d),none,none,hid,wr⟩ :: l) σ K = (clOk σ z d (σ.get x)∧z0h C l (clSt σ d (σ.get x)) K):=rfl
theorem runOps_stp (C:FuncId->List AV->AV->Prop) (z:Nat) (p x:IOpd) (hid wr:List Nat) (l:List ROp) (σ:St) (K:St->Prop):z0h C (⟨.storep z p x,none,none,hid,wr⟩ :: l) σ K = (stpOk σ z (σ.get x) (σ.get p)∧z9f fun u=>z0h C l (zia σ u (σ.get x) (σ.get p)) K):=rfl
end Go.Proofs.Ytolocaankfcjiaa
end
section
/-
 The plain machine,eighteenth part: its rules in few theorems.
-/
namespace Go.Proofs.Ytolocaankfcjiaa
abbrev EqR (r:Reg) (l:List ROp) (k:List Nat):Prop:=∀ (C:FuncId->List AV->AV->Prop) (σ:St) (K:St->Prop),z0l C r σ K = z0h C l (σ.kills k) K
theorem ev0 :
 (∀ (C:FuncId->List AV->AV->Prop) (Q:XK->St->Prop) (σ:St),run C .skip Q σ = Q .normal σ) ∧
 (∀ (C:FuncId->List AV->AV->Prop) (g:Reg) (Q:XK->St->Prop) (σ:St),run C (.reg g) Q σ = z0l C g σ (Q .normal)) ∧
 (∀ (C:FuncId->List AV->AV->Prop) (x y:IR) (Q:XK->St->Prop) (σ:St),run C (.seq x y) Q σ = run C x (z2d (run C y Q) Q) σ) ∧
 (∀ (C:FuncId->List AV->AV->Prop) (c:IOpd) (x y:IR) (Q:XK->St->Prop) (σ:St),run C (.cond c x y) Q σ = ((σ.get c).isB = true∧if (σ.get c).bv = true then run C x Q σ else run C y Q σ)) ∧
 (∀ (C:FuncId->List AV->AV->Prop) (id:Nat) (b:IR) (Q:XK->St->Prop) (σ:St),run C (.block id b) Q σ = run C b (z5r id Q) σ) ∧
 (∀ (C:FuncId->List AV->AV->Prop) (b:IR) (Q:XK->St->Prop) (σ:St),run C (.loop b) Q σ = awp C (.loop b) Q σ) ∧
 (∀ (C:FuncId->List AV->AV->Prop) (id:Nat) (Q:XK->St->Prop) (σ:St),run C (.exit id) Q σ = Q (.exit id) σ) ∧
 (∀ (C:FuncId->List AV->AV->Prop) (Q:XK->St->Prop) (σ:St),run C .ret Q σ = Q .ret σ) ∧
 (∀ (C:FuncId->List AV->AV->Prop) (σ:St) (K:St->Prop),z0h C [] σ K = K σ) ∧
 (∀ (C:FuncId->List AV->AV->Prop) (io:IOp) (d:Nat) (hid wr:List Nat) (l:List ROp) (σ:St) (K:St->Prop),z0h C (⟨io,some d,none,hid,wr⟩ :: l) σ K = z0s C (z0h C l) K σ d hid io) ∧
 (∀ (C:FuncId->List AV->AV->Prop) (z:Nat) (p x:IOpd) (hid wr:List Nat) (l:List ROp) (σ:St) (K:St->Prop),z0h C (⟨.store z p x,none,none,hid,wr⟩ :: l) σ K = (stOk σ z (σ.get x) (σ.get p)∧z0h C l (stSt σ z (σ.get x) (σ.get p)) K)) ∧
 (∀ (C:FuncId->List AV->AV->Prop) (io:IOp) (d t:Nat) (w:Bool) (hid wr:List Nat) (l:List ROp) (σ:St) (K:St->Prop),z0h C (⟨io,some d,some (t,w),hid,wr⟩ :: l) σ K = (gB (σ.T t) = true∧if gIs w (σ.T t) = true then z0s C (z0h C l) K (σ.set t (.bool w)) d hid io else z0h C l ((if (σ.T t).isB then σ.set t (.bool (!w)) else σ).set d (.tup [])) K)) :=
 ⟨run_skip,run_reg,zhe,run_cond,run_block,run_loop',run_exit,run_ret,runOps_nil,runOps_op,runOps_st,runOps_g⟩
theorem ev1 :
 (∀ (C:FuncId->List AV->AV->Prop) (F0:List Nat) (tl:List ROp) (σ:St) (K:St->Prop),z0a C F0 tl [] σ K = z0h C tl σ K) ∧
 (∀ (C:FuncId->List AV->AV->Prop) (F0:List Nat) (tl:List ROp) (io:IOp) (d:Nat) (hid wr:List Nat) (l:List ROp) (σ:St) (K:St->Prop),z0a C F0 tl (⟨io,some d,none,hid,wr⟩ :: l) σ K = z0g C F0 (z0a C F0 tl l) K σ d hid io) ∧
 (∀ (C:FuncId->List AV->AV->Prop) (F0:List Nat) (tl:List ROp) (io:IOp) (d t:Nat) (w:Bool) (hid wr:List Nat) (l:List ROp) (σ:St) (K:St->Prop),z0a C F0 tl (⟨io,some d,some (t,w),hid,wr⟩ :: l) σ K = (gB (σ.T t) = true∧if gIs w (σ.T t) = true then z0g C F0 (z0a C F0 tl l) K (σ.set t (.bool w)) d hid io else z0a C F0 tl l ((if (σ.T t).isB then σ.set t (.bool (!w)) else σ).set d (.tup [])) K)) ∧
 (∀ (C:FuncId->List AV->AV->Prop) (F0:List Nat) (tl:List ROp) (z:Nat) (p x:IOpd) (hid wr:List Nat) (l:List ROp) (σ:St) (K:St->Prop),z0a C F0 tl (⟨.store z p x,none,none,hid,wr⟩ :: l) σ K = (zpd F0 hid wr σ z (σ.get x) (σ.get p)∧z0a C F0 tl l (zpc σ z (σ.get x) (σ.get p)) K)) ∧
 (∀ (σ:St),σ.kills [] = σ) ∧
 (∀ (σ:St) (r:Nat) (l:List Nat),σ.kills (r :: l) = (σ.kill r).kills l) ∧
 (∀ (σ:St) (r t:Nat),(σ.kill r).T t = if (σ.T t).name = some r then keepS σ (σ.T t) else σ.T t) ∧
 (∀ (σ:St) (r s:Nat),(σ.kill r).H s = if s = r then none else σ.H s) ∧
 (∀ (σ:St),σ.fzs [] = σ) ∧
 (∀ (σ:St) (r:Nat) (l:List Nat),σ.fzs (r :: l) = (σ.fz r).fzs l) ∧
 (∀ (σ:St) (r t:Nat),(σ.fz r).T t = σ.T t) ∧
 (∀ (σ:St) (r s:Nat),(σ.fz r).H s = if s = r then (σ.H r).map Arr.freeze else σ.H s) :=
 ⟨zpo,runHead_op,runHead_g,runHead_st,kills_nil,kills_cons,kill_T,kill_H,fzs_nil,fzs_cons,fz_T',fz_H'⟩
theorem ev2 :
 (∀ (σ:St) (t:Nat),σ.get (.t t) = σ.T t) ∧
 (∀ (σ:St) (v:AV),σ.get (.c v) = v) ∧
 (∀ (σ:St) (t s:Nat) (v:AV) (o:Option Arr),(σ.made t v o).T s = if s = t then v else σ.T s) ∧
 (∀ (σ:St) (t s:Nat) (v:AV),(σ.made t v none).H s = σ.H s) ∧
 (∀ (σ:St) (t s:Nat) (v:AV) (arr:Arr),(σ.made t v (some arr)).H s = if s = t then some arr else σ.H s) ∧
 (∀ (σ:St) (t s:Nat) (v:AV),(σ.set t v).T s = if s = t then v else σ.T s) ∧
 (∀ (σ:St) (t:Nat) (v:AV),(σ.set t v).H = σ.H) ∧
 (∀ (T:Nat->AV) (r t:Nat),z7j T r t = if (T t).name = some r then .und else T t) ∧
 (∀ (args:List AV) (t:Nat),(z0b args).T t = args.getD t .und) ∧
 (∀ (args:List AV) (t:Nat),(z0b args).H t = none) ∧
 (∀ (K:St->Prop) (Q:XK->St->Prop) (σ:St),z2d K Q .normal σ = K σ) ∧
 (∀ (K:St->Prop) (Q:XK->St->Prop) (σ:St),z2d K Q .ret σ = Q .ret σ) :=
 ⟨get_t,get_c,made_T,zq7,zq6,set_T,set_H,sweep_at,init_T,init_H,z25,thenQ_ret⟩
theorem ev3 :
 (∀ (K:St->Prop) (Q:XK->St->Prop) (i:Nat) (σ:St),z2d K Q (.exit i) σ = Q (.exit i) σ) ∧
 (∀ (i:Nat) (Q:XK->St->Prop) (σ:St),z5r i Q .normal σ = Q .normal σ) ∧
 (∀ (i:Nat) (Q:XK->St->Prop) (σ:St),z5r i Q .ret σ = Q .ret σ) ∧
 (∀ (i j:Nat) (Q:XK->St->Prop) (σ:St),z5r i Q (.exit j) σ = if j = i then Q .normal σ else Q (.exit j) σ) ∧
 (∀ (ds:List RDesc) (r:AV) (σ:St),endQ ds r .ret σ = retV ds r σ) ∧
 (∀ (ds:List RDesc) (r:AV) (σ:St),endQ ds r .normal σ = retV ds r σ) ∧
 (∀ (hid:List Nat) (r i f:Nat),z13 hid (.ptr r i f) = !hid.contains r) ∧
 (∀ (hid:List Nat) (r i f:Nat),z13 hid (.rs r i f) = !hid.contains r) ∧
 (∀ (z ty:Nat) (l:List AV) (p:Nat),Arr.freeze ⟨z,ty,l,p⟩ = ⟨z,ty,l,l.length⟩) ∧
 (∀ (σ:St) (z ty bytes:Nat) (v:AV) (r off len:Nat),apOk σ z ty bytes v (.rs r off len) = (byOk [] σ v∧(z1j σ v).isSl = true∧(σ.H r).isSome = true∧objZ (σ.H r) = z∧zlj (σ.H r) = ty∧z1m ((σ.fzs (byFz v)).H r)≤off + len∧fitsV (len + (slOf (z1j σ v)).length) bytes∧r < 1000∧∀ d,d ∈ slOf (z1j σ v)->d.cells.length = z∧d.cells.all AV.one = true)) :=
 ⟨thenQ_exit,zi1,blockQ_ret,z7b,endQ_ret,zqu,zpz,nameOk_rs',freeze_mk,apOk_rs⟩
theorem ev4 :
 (∀ (C:FuncId->List AV->AV->Prop) (P:Program) (l:List XOp) (Q:XK->St->Prop) (σ:St),run C (.regx P l) Q σ = z0n P C l σ (Q .normal)) ∧
 (∀ (P:Program) (C:FuncId->List AV->AV->Prop) (σ:St) (K:St->Prop),z0n P C [] σ K = K σ) ∧
 (∀ (P:Program) (C:FuncId->List AV->AV->Prop) (k:List Nat) (r:ROp) (l:List XOp) (σ:St) (K:St->Prop),z0n P C (.op k r :: l) σ K = z0h C [r] (σ.kills k) fun σ'=>z0n P C l σ' K) ∧
 (∀ (P:Program) (C:FuncId->List AV->AV->Prop) (d:Nat) (x:IOpd) (l:List XOp) (σ:St) (K:St->Prop),z0n P C (.nilck d x none :: l) σ K = (ckOk σ (σ.get x)∧z0n P C l (σ.set d (σ.get x)) K)) ∧
 (∀ (P:Program) (C:FuncId->List AV->AV->Prop) (d:Nat) (x:IOpd) (t:Nat) (w:Bool) (l:List XOp) (σ:St) (K:St->Prop),z0n P C (.nilck d x (some (t,w)) :: l) σ K = (gB (σ.T t) = true∧if gIs w (σ.T t) = true then ckOk (σ.set t (.bool w)) ((σ.set t (.bool w)).get x)∧z0n P C l ((σ.set t (.bool w)).set d ((σ.set t (.bool w)).get x)) K else z0n P C l ((if (σ.T t).isB then σ.set t (.bool (!w)) else σ).set d (.tup [])) K)) ∧
 (∀ (P:Program) (C:FuncId->List AV->AV->Prop) (d:Nat) (f:FuncId) (x:IOpd) (l:List XOp) (σ:St) (K:St->Prop),z0n P C (.mkclo d f x :: l) σ K = (cloOk σ (σ.get x)∧z0n P C l (σ.set d (.clom f (ptrAt (σ.get x)))) K)) ∧
 (∀ (P:Program) (C:FuncId->List AV->AV->Prop) (d:Nat) (fx:IOpd) (xs:List IOpd) (l:List XOp) (σ:St) (K:St->Prop),z0n P C (.mcall d fx xs :: l) σ K = (mOks σ (xs.map σ.get)∧zlq (σ.fzs (mFzs (xs.map σ.get))) (σ.get fx)∧z4o P (mFn (σ.get fx)) (mArgs (zq8 σ (xs.map σ.get)) (σ.get fx)) σ.T (σ.fzs (mFzs (xs.map σ.get))).H d (z0n P C l) K)) ∧
 (∀ (hid:List Nat) (f:FuncId) (r:Nat),z13 hid (.clom f r) = !hid.contains r) ∧
 (∀ (args:List AV) (H:Nat->Option Arr) (t:Nat),(z77 args H).T t = sh (args.getD t .und)) ∧
 (∀ (args:List AV) (H:Nat->Option Arr),(z77 args H).H = shH H) ∧
 (∀ (H:Nat->Option Arr) (r:Nat),shH H (r + 1000) = H r) ∧
 (∀ (ds:List RDesc) (r:AV) (H':Nat->Option Arr) (σ:St),endM ds r H' .ret σ = retM ds r H' σ) ∧
 (∀ (ds:List RDesc) (r:AV) (H':Nat->Option Arr) (σ:St),endM ds r H' .normal σ = retM ds r H' σ) ∧
 (∀ (f:FuncId) (r:Nat),(AV.clom f r).name = some r) ∧
 (∀ (f:FuncId) (r:Nat),(AV.clom f r).isC = false) :=
 ⟨run_regx,runXs_nil,runXs_op,zph,zim,zpk,zpl,zq1,initM_T,initM_H,shH_big,endM_ret,zqv,fun _ _=>rfl,fun _ _=>rfl⟩
theorem evA :
 (∀ (k:IntKind) (n:Int),(AV.int k n).isI = true) ∧
 (∀ (k:IntKind) (n:Int),(AV.int k n).isB = false) ∧
 (∀ (k:IntKind) (n:Int),(AV.int k n).isS = false) ∧
 (∀ (k:IntKind) (n:Int),(AV.int k n).isA = false) ∧
 (∀ (k:IntKind) (n:Int),(AV.int k n).isTu = false) ∧
 (∀ (k:IntKind) (n:Int),(AV.int k n).isC = false) ∧
 (∀ (b:Bool),(AV.bool b).isI = false) ∧
 (∀ (b:Bool),(AV.bool b).isB = true) ∧
 (∀ (b:Bool),(AV.bool b).isS = false) ∧
 (∀ (b:Bool),(AV.bool b).isA = false) ∧
 (∀ (b:Bool),(AV.bool b).isTu = false) ∧
 (∀ (b:Bool),(AV.bool b).isC = false) ∧
 (∀ (s:ByteArray),(AV.str s).isI = false) ∧
 (∀ (s:ByteArray),(AV.str s).isB = false) ∧
 (∀ (s:ByteArray),(AV.str s).isS = true) ∧
 (∀ (s:ByteArray),(AV.str s).isA = false) ∧
 (∀ (s:ByteArray),(AV.str s).isTu = false) ∧
 (∀ (s:ByteArray),(AV.str s).isC = false) ∧
 (∀ (l:List AV),(AV.agg l).isI = false) ∧
 (∀ (l:List AV),(AV.agg l).isB = false) ∧
 (∀ (l:List AV),(AV.agg l).isS = false) ∧
 (∀ (l:List AV),(AV.agg l).isA = true) ∧
 (∀ (l:List AV),(AV.agg l).isTu = false) ∧
 (∀ (l:List AV),(AV.agg l).isC = false) ∧
 (∀ (l:List AV),(AV.tup l).isI = false) ∧
 (∀ (l:List AV),(AV.tup l).isB = false) ∧
 (∀ (l:List AV),(AV.tup l).isS = false) ∧
 (∀ (l:List AV),(AV.tup l).isA = false) ∧
 (∀ (l:List AV),(AV.tup l).isTu = true) ∧
 (∀ (l:List AV),(AV.tup l).isC = false) ∧
 (∀ (f:FuncId) (x y:List AV),(AV.clo f x y).isI = false) ∧
 (∀ (f:FuncId) (x y:List AV),(AV.clo f x y).isB = false) ∧
 (∀ (f:FuncId) (x y:List AV),(AV.clo f x y).isS = false) ∧
 (∀ (f:FuncId) (x y:List AV),(AV.clo f x y).isA = false) ∧
 (∀ (f:FuncId) (x y:List AV),(AV.clo f x y).isTu = false) ∧
 (∀ (f:FuncId) (x y:List AV),(AV.clo f x y).isC = true) ∧
 (∀ (k:IntKind) (n:Int),(AV.int k n).iv = n) ∧
 (∀ (k:IntKind) (n:Int),(AV.int k n).ik = k) ∧
 (∀ b:Bool,(AV.bool b).bv = b) ∧
 (∀ s:ByteArray,(AV.str s).sv = s) ∧
 (∀ l:List AV,(AV.agg l).av = l) ∧
 (∀ l:List AV,(AV.tup l).tv = l) ∧
 (∀ (f:FuncId) (x y:List AV),(AV.clo f x y).cf = f) ∧
 (∀ (f:FuncId) (x y:List AV),(AV.clo f x y).c1 = x) ∧
 (∀ (f:FuncId) (x y:List AV),(AV.clo f x y).c2 = y) ∧
 (∀ l:List AV,(AV.agg l).cells = l) ∧
 (∀ (k:IntKind) (n:Int),(AV.int k n).cells = [.int k n]) ∧
 (∀ (k:IntKind) (n:Int),(AV.int k n).one = true) ∧
 (∀ (b:Bool),(AV.bool b).cells = [.bool b]) ∧
 (∀ (b:Bool),(AV.bool b).one = true) ∧
 (∀ (s:ByteArray),(AV.str s).cells = [.str s]) ∧
 (∀ (s:ByteArray),(AV.str s).one = true) ∧
 (∀ (l:List AV),(AV.sl l).cells = [.sl l]) ∧
 (∀ (l:List AV),(AV.sl l).one = true) ∧
 (∀ (l:List AV),(AV.rp l).cells = [.rp l]) ∧
 (∀ (l:List AV),(AV.rp l).one = true) ∧
 (∀ (f:FuncId) (x y:List AV),(AV.clo f x y).cells = [.clo f x y]) ∧
 (∀ (f:FuncId) (x y:List AV),(AV.clo f x y).one = true) ∧
 (∀ (v:Value),(AV.cst v).cells = [.cst v]) ∧
 (∀ (v:Value),(AV.cst v).one = true) ∧
 (AV.nilp.cells = [.nilp]) ∧
 (AV.nilp.one = true) ∧
 (∀ r i f:Nat,(AV.ptr r i f).name = some r) ∧
 (∀ r i f:Nat,(AV.rs r i f).name = some r) ∧
 (∀ (k:IntKind) (n:Int),(AV.int k n).name = none) ∧
 (∀ (b:Bool),(AV.bool b).name = none) ∧
 (∀ (s:ByteArray),(AV.str s).name = none) ∧
 (∀ (l:List AV),(AV.sl l).name = none) ∧
 (∀ (l:List AV),(AV.rp l).name = none) ∧
 (∀ (l:List AV),(AV.agg l).name = none) ∧
 (∀ (l:List AV),(AV.tup l).name = none) ∧
 (∀ (f:FuncId) (x y:List AV),(AV.clo f x y).name = none) ∧
 (∀ (v:Value),(AV.cst v).name = none) ∧
 (AV.und.name = none) ∧
 (AV.nilp.name = none):=by
 repeat' apply And.intro
 all_goals (intros; rfl)
theorem evM :
 (∀ (C:FuncId->List AV->AV->Prop) (P:Program) (g:Reg) (lt:List Nat) (mo ko vo:IOpd) (l:List XOp) (Q:XK->St->Prop) (σ:St),run C (.regm P g lt mo ko vo l) Q σ = zhf P C g lt mo ko vo l σ (Q .normal)) ∧
 (∀ σ:St,z9r [] σ = True) ∧
 (∀ (t:Nat) (l:List Nat) (σ:St),z9r (t :: l) σ = ((σ.T t).isMp = false∧z9r l σ)) ∧
 (∀ (C:FuncId->List AV->AV->Prop) (P:Program) (g:Reg) (l:List XOp) (Q:XK->St->Prop) (σ:St),run C (.regd P g l) Q σ = zhg P C g l σ (Q .normal)) ∧
 (∀ (P:Program) (C:FuncId->List AV->AV->Prop) (d:Nat) (ty:TypeId) (l:List XOp) (σ:St) (K:St->Prop),z0n P C (.mkmap d ty :: l) σ K = z0n P C l ((σ.kill d).made d (.mp d []) (some ⟨1,ty,[],0⟩)) K) ∧
 (∀ (P:Program) (C:FuncId->List AV->AV->Prop) (d:Nat) (ok:Bool) (m k:IOpd) (z:AV) (l:List XOp) (σ:St) (K:St->Prop),z0n P C (.mlook d ok m k z none :: l) σ K = (z35 σ (σ.get m)∧kI (σ.get k) = true∧z0n P C l (σ.set d (lkV ok z (lkp (ents (σ.get m)) (σ.get k).iv))) K)) ∧
 (∀ (P:Program) (C:FuncId->List AV->AV->Prop) (d:Nat) (ok:Bool) (m k:IOpd) (z:AV) (t:Nat) (w:Bool) (l:List XOp) (σ:St) (K:St->Prop),z0n P C (.mlook d ok m k z (some (t,w)) :: l) σ K = (gB (σ.T t) = true∧if gIs w (σ.T t) = true then z35 (σ.set t (.bool w)) ((σ.set t (.bool w)).get m)∧kI ((σ.set t (.bool w)).get k) = true∧z0n P C l ((σ.set t (.bool w)).set d (lkV ok z (lkp (ents ((σ.set t (.bool w)).get m)) ((σ.set t (.bool w)).get k).iv))) K else z0n P C l ((if (σ.T t).isB then σ.set t (.bool (!w)) else σ).set d (.tup [])) K)) ∧
 (∀ (P:Program) (C:FuncId->List AV->AV->Prop) (m k x:IOpd) (l:List XOp) (σ:St) (K:St->Prop),z0n P C (.mupd m k x :: l) σ K = (mpOk σ (σ.get m)∧kI (σ.get k) = true∧byOk [] σ (σ.get x)∧z0n P C l ⟨remT (mpR (σ.get m)) (upk (ents (σ.get m)) (σ.get k).iv (z1j σ (σ.get x))) σ.T,(σ.fzs (byFz (σ.get x))).H⟩ K)) ∧
 (∀ (hid:List Nat) (r:Nat) (es:List (Int × AV)),z13 hid (.mp r es) = !hid.contains r) ∧
 (∀ (r:Nat) (es:List (Int × AV)),(AV.mp r es).name = some r) ∧
 (∀ es:List (Int × AV),(AV.mv es).name = none) ∧
 (∀ es:List (Int × AV),(AV.mv es).cells = [.mv es]) ∧
 (∀ es:List (Int × AV),(AV.mv es).one = true) ∧
 (∀ (r:Nat) (es:List (Int × AV)) (T:Nat->AV) (t:Nat),remT r es T t = remp r es (T t)) ∧
 (∀ (r s:Nat) (es l:List (Int × AV)),remp r es (.mp s l) = if s = r then .mp r es else .mp s l) :=
 ⟨run_regm,noMps_nil,noMps_cons,run_regd,zpj,zpi,zin,runXs_mupd,nameOk_mp,fun _ _=>rfl,fun _=>rfl,fun _=>rfl,fun _=>rfl,fun _ _ _ _=>rfl,fun _ _ _ _=>rfl⟩
theorem evW :
 (∀ (C:FuncId->List AV->AV->Prop) (g:Reg) (s:Nat) (Q:XK->St->Prop) (σ:St),run C (.regw g s) Q σ = (nmB (σ.T s) = true∧1000≤nmD (σ.T s)∧z0l C (g.ren s (nmD (σ.T s))) σ (Q .normal))) ∧
 (∀ (r off len:Nat),nmB (.rs r off len) = true) ∧
 (∀ (r off len:Nat),nmD (.rs r off len) = r) ∧
 (∀ (P:Program) (C:FuncId->List AV->AV->Prop) (d:Nat) (fx:IOpd) (xs:List IOpd) (l:List XOp) (σ:St) (K:St->Prop),z0n P C (.wcall d fx xs :: l) σ K = (wOks σ (xs.map σ.get)∧zrt (σ.get fx)∧z4o P (mFn (σ.get fx)) (zfl σ (xs.map σ.get)) σ.T (σ.fzs (wFzs (xs.map σ.get))).H d (z0n P C l) K)) ∧
 (∀ (f:FuncId),zrt (.clo f [] []) = True) ∧
 (∀ (f:FuncId) (x y:List AV),mFn (.clo f x y) = f) ∧
 (∀ (σ:St),wOks σ [] = True) ∧
 (∀ (σ:St) (v:AV) (l:List AV),wOks σ (v :: l) = (wOk σ v∧wOks σ l)) ∧
 (∀ (σ:St),zfl σ [] = []) ∧
 (∀ (σ:St) (v:AV) (l:List AV),zfl σ (v :: l) = wVal σ v :: zfl σ l) ∧
 (wFzs [] = []) ∧
 (∀ (v:AV) (l:List AV),wFzs (v :: l) = wFz v ++ wFzs l) ∧
 (∀ (σ:St) (r off len:Nat),wOk σ (.rs r off len) = True) ∧
 (∀ (σ:St) (k:IntKind) (n:Int),wOk σ (.int k n) = True) ∧
 (∀ (σ:St) (f:FuncId) (x y:List AV),wOk σ (.clo f x y) = True) ∧
 (∀ (σ:St) (r off len:Nat),wVal σ (.rs r off len) = .rs r off len) ∧
 (∀ (σ:St) (k:IntKind) (n:Int),wVal σ (.int k n) = .int k n) ∧
 (∀ (σ:St) (f:FuncId) (x y:List AV),wVal σ (.clo f x y) = .clo f x y) ∧
 (∀ (r off len:Nat),wFz (.rs r off len) = []) ∧
 (∀ (k:IntKind) (n:Int),wFz (.int k n) = []) ∧
 (∀ (f:FuncId) (x y:List AV),wFz (.clo f x y) = []):=by
 refine ⟨run_regw,fun _ _ _=>rfl,fun _ _ _=>rfl,zpg,?_,?_,?_,?_,?_,?_,?_,?_,?_,?_,?_,?_,?_,?_,?_,?_,?_⟩ <;> (intros; first | rfl | (simp [wOk,mOk,byOk]))
theorem evP :
 (∀ (C:FuncId->List AV->AV->Prop) (P:Program) (g:Reg) (z s0 tp tv:Nat) (l:List XOp) (Q:XK->St->Prop) (σ:St),run C (.regp P g z s0 tp tv l) Q σ = zpn P C g z s0 tp tv l σ (Q .normal)) ∧
 (∀ (tp tv s0:Nat) (σ:St),stpSrc tp tv s0 σ = (isPtrR (σ.T tp) s0∧isRsR (σ.T tv) tv)) ∧
 (∀ (r i f s:Nat),isPtrR (.ptr r i f) s = (r = s)) ∧
 (∀ (r i f s:Nat),isRsR (.rs r i f) s = (r = s)) ∧
 (∀ (C:FuncId->List AV->AV->Prop) (l:List GIni) (Q:XK->St->Prop) (σ:St),run C (.gini l) Q σ = z7x l σ (Q .normal)) ∧
 (∀ (σ:St) (K:St->Prop),z7x [] σ K = K σ) ∧
 (∀ (r j q z:Nat) (ty:TypeId) (l:List GIni) (σ:St) (K:St->Prop),z7x (⟨r,j,q,z,ty⟩ :: l) σ K = (q < 1000∧0 < z∧z7x l ⟨upd (σ.kill q).T (vt r j) (.vrs q 0 0 (.slice none 0 0)),upd (σ.kill q).H q (some ⟨z,ty,[],0⟩)⟩ K)) ∧
 (∀ (C:FuncId->List AV->AV->Prop) (z:Nat) (p x:IOpd) (hid wr:List Nat) (l:List ROp) (σ:St) (K:St->Prop),z0h C (⟨.storep z p x,none,none,hid,wr⟩ :: l) σ K = (stpOk σ z (σ.get x) (σ.get p)∧z9f fun u=>z0h C l (zia σ u (σ.get x) (σ.get p)) K)) ∧
 (∀ (r o:Nat),vt r o = 1000 + 100 * r + o) ∧
 (∀ (r off len:Nat) (u:Value),(AV.vrs r off len u).name = some r) ∧
 (∀ (hid:List Nat) (r off len:Nat) (u:Value),z13 hid (.vrs r off len u) = !hid.contains r) ∧
 (∀ (v:Value),(AV.cst v).cells = [.cst v]) ∧
 (∀ (v:Value),(AV.cst v).one = true) ∧
 (nilV (.slice none 0 0) = .sl []) ∧
 (∀ (r i f:Nat),pRt (.ptr r i f) = r) ∧
 (∀ (σ:St) (r i f:Nat),pOf σ (.ptr r i f) = i * objZ (σ.H r) + f) ∧
 (∀ (r i f:Nat),isPtr (.ptr r i f) = true) :=
 ⟨fun _ _ _ _ _ _ _ _ _ _=>rfl,fun _ _ _ _=>rfl,fun _ _ _ _=>rfl,fun _ _ _ _=>rfl,run_gini,giniV_nil,giniV_cons,runOps_stp,fun _ _=>rfl,fun _ _ _ _=>rfl,fun _ _ _ _ _=>rfl,fun _=>rfl,fun _=>rfl,rfl,fun _ _ _=>rfl,fun _ _ _ _=>rfl,fun _ _ _=>rfl⟩
/-! ### Objects with slices,handed on -/
theorem evCl :
 (∀ (C:FuncId->List AV->AV->Prop) (z:Nat) (x:IOpd) (d:AV) (hid wr:List Nat) (l:List ROp) (σ:St) (K:St->Prop),z0h C (⟨.copy z x (.c d),none,none,hid,wr⟩ :: l) σ K = (clOk σ z d (σ.get x)∧z0h C l (clSt σ d (σ.get x)) K)) ∧
 (∀ (σ:St) (z:Nat) (d:AV) (r off len:Nat),clOk σ z d (.rs r off len) = ((σ.H r).isSome = true∧objZ (σ.H r) = z∧z1m (σ.H r)≤off∧d.cells.length = z∧d.cells.all AV.one = true)) ∧
 (∀ (σ:St) (d:AV) (r off len:Nat),clSt σ d (.rs r off len) = ⟨σ.T,upd σ.H r (clArr d off len (σ.H r))⟩) ∧
 (∀ (d:AV) (off len z:Nat) (ty:TypeId) (l:List AV) (p:Nat),clArr d off len (some ⟨z,ty,l,p⟩) = some ⟨z,ty,l.take off ++ List.replicate len d ++ l.drop (off + len),p⟩) :=
 ⟨runOps_clr,fun _ _ _ _ _ _=>rfl,fun _ _ _ _ _=>rfl,fun _ _ _ _ _ _ _=>rfl⟩
end Go.Proofs.Ytolocaankfcjiaa
end
section
/-
 Data that came in,of whatever type of ints,bools,texts,slices,structs and arrays,reads on the plain machine.
-/
namespace Go.Proofs.Ytolocaankfcjiaa
open Go.ChangeShapes Go.WideShapes Go.ChangeAt Go.RowKit Go.Deep
/-- types of plain data -/
inductive Ty where
 | int (k:IntKind)
 | str
 | bool
 | sl (e:Ty)
 | st (fs:List Ty)
/-- places one behind the other -/
def zcg (P:Program):List (Nat × TypeId)->Nat->Option Nat
 | [],o=>some o
 | (f,t) :: l,o=>if f = o then zcg P l (o + P.cellsOf t) else none
def zlg {α β:Type} (f:α->Option β):List α->Option (List β)
 | []=>some []
 | a :: l=>match f a,zlg f l with
  | some b,some r=>some (b :: r)
  | _,_=>none
def z2a (m z:Nat) (e:TypeId):Nat->List (Nat × TypeId)
 | 0=>[]
 | k + 1=>((m - (k + 1)) * z,e) :: z2a m z e k
def zrc (P:Program):Nat->TypeId->Option Ty
 | 0,_=>none
 | n + 1,t=>match P.underlying t with
  | some (.int k)=>some (.int k)
  | some .string=>some .str
  | some .bool=>some .bool
  | some (.slice e)=>if 1≤P.bytesOf e∧1≤P.cellsOf e then (zrc P n e).map .sl else none
  | some (.struct fs)=>if zcg P (fs.toList.map fun f=>(f.offset,f.type)) 0 = some (P.cellsOf t) then (zlg (zrc P n) (fs.toList.map (·.type))).map .st else none
  | some (.array m e)=>if zcg P (z2a m (P.cellsOf e) e m) 0 = some (P.cellsOf t) then (zlg (zrc P n) (List.replicate m e)).map .st else none
  | _=>none
def zd9:Ty->List AV->AV
 | .st _,cs=>.agg cs
 | _,cs=>cs.headD .und
/-- cells that are of a type -/
inductive TypedC:Ty->List AV->Prop
 | int (k:IntKind) (n:Int) (h:(Lit.int k n).wf = true):TypedC (.int k) [.int k n]
 | str (s:ByteArray) (h:s.size≤281474976710656):TypedC .str [.str s]
 | bool (b:Bool):TypedC .bool [.bool b]
 | sl (T:Ty) (ls:List (List AV)) (hlen:ls.length≤281474976710656) (h:∀ c,c ∈ ls->TypedC T c):TypedC (.sl T) [.sl (ls.map (zd9 T))]
 | nil:TypedC (.st []) []
 | cons {T:Ty} {fs:List Ty} {c r:List AV} (h:TypedC T c) (hr:TypedC (.st fs) r):TypedC (.st (T :: fs)) (c ++ r)
theorem zc1 {T:Ty} {c:List AV} (h:TypedC T c):(zd9 T c).cells = c:=by
 cases h <;> rfl
theorem zlu {P:Program}:∀ {l:List (Nat × TypeId)} {o tot:Nat},zcg P l o = some tot->o≤tot
 | [],o,tot,h=>by cases h; exact Nat.le_refl _
 | (f,t) :: l,o,tot,h=>by
  rw [zcg] at h
  split at h
  ·have:=zlu h; omega
  ·cases h
section
variable {H:Type} {enc:TypeId × Value->H} {P:Program} {w:World} {sp:Nat->Bool} {held:Bool}
/-- it reads,and is of the type -/
def z7e (w:World) (T:Ty) (cs:List Value) (ds:List AV):Prop :=
 TypedC T ds∧ds.length = cs.length∧∀ (j:Nat) (d:AV) (v:Value),ds[j]? = some d->cs[j]? = some v->VR (fun b _=>b < w.heap.size) w d v
theorem z6s {n m:Nat} (ih:∀ {t:TypeId} {T:Ty} {fuel:Nat} {cs:List Value} {x:DataW H × List MemPlace},zrc P n t = some T->(x.1.weights P t).all (·≤reachBytes) = true->DataW.trod enc P w 0 sp held fuel t cs = some x->∃ ds,z7e w T cs ds)
  {cs:List Value}:∀ (pl:List (Nat × TypeId)) (o:Nat) (Ts:List Ty) (xs:List (DataW H × List MemPlace)),zcg P pl o = some cs.length->zlg (zrc P n) (pl.map (·.2)) = some Ts->xs.length = pl.length ->
   (∀ (i:Nat) (f:Nat × TypeId),pl[i]? = some f->DataW.trod enc P w 0 sp held m f.2 ((cs.drop f.1).take (P.cellsOf f.2)) = xs[i]?) ->
   (DataW.weightsEach P (pl.map (·.2)) (xs.map (·.1))).all (·≤reachBytes) = true->∃ ds,z7e w (.st Ts) (cs.drop o) ds
 | [],o,Ts,xs,hl,ho,hx,ht,hw=>by
  cases hl; cases ho
  exact ⟨[],.nil,by simp,fun j d v h=>by simp at h⟩
 | (f,t) :: pl,o,Ts,xs,hl,ho,hx,ht,hw=>by
  rw [zcg] at hl
  split at hl
  case isFalse=>cases hl
  rename_i hf
  subst hf
  rw [List.map_cons,zlg] at ho
  split at ho
  case h_2=>cases ho
  rename_i T Ts' h1 h2
  cases ho
  cases xs with
  | nil=>simp at hx
  | cons x xs =>
   rw [List.map_cons,List.map_cons,DataW.weightsEach,List.all_append,Bool.and_eq_true] at hw
   obtain ⟨d0,t0,l0,v0⟩:=ih h1 hw.1 (ht 0 _ rfl)
   obtain ⟨dr,tr,lr,vr⟩:=z6s ih pl (f + P.cellsOf t) Ts' xs hl h2 (by simpa using hx) (fun i g hg=>ht (i + 1) g (by simpa using hg)) hw.2
   have hle:=zlu hl
   have hz:d0.length = P.cellsOf t:=by
    rw [l0,List.length_take,List.length_drop]; show min (P.cellsOf t) (cs.length - f) = _; omega
   refine ⟨d0 ++ dr,.cons t0 tr,?_,fun j d v hd hv=>?_⟩
   ·rw [List.length_append,hz,lr,List.length_drop,List.length_drop]; omega
   ·rw [List.getElem?_drop] at hv
    rcases Nat.lt_or_ge j d0.length with hj | hj
    ·rw [List.getElem?_append_left hj] at hd
     refine v0 j d v hd ?_
     show (List.take (P.cellsOf t) (List.drop f cs))[j]? = _
     rw [List.getElem?_take,if_pos (by omega),List.getElem?_drop]
     exact hv
    ·rw [List.getElem?_append_right hj] at hd
     refine vr _ d v hd ?_
     rw [List.getElem?_drop,hz,show f + P.cellsOf t + (j - P.cellsOf t) = f + j by omega]
     exact hv
theorem z9z {e:TypeId}:∀ {m:Nat} {l:List (DataW H)},l.length = m->(DataW.weightsAll P e l).all (·≤reachBytes) = true->(DataW.weightsEach P (List.replicate m e) l).all (·≤reachBytes) = true
 | 0,[],_,_=>rfl
 | m + 1,x :: l,hl,h=>by
  simp only [DataW.weightsAll,List.all_append,Bool.and_eq_true] at h
  rw [List.replicate_succ,DataW.weightsEach,List.all_append,Bool.and_eq_true]
  exact ⟨h.1,z9z (by simpa using hl) h.2⟩
theorem zlf (m z:Nat) (e:TypeId):∀ (k i:Nat) (f:Nat × TypeId),k≤m->(z2a m z e k)[i]? = some f->i < k∧f = ((m - k + i) * z,e):=by
 intro k
 induction k with
 | zero=>intro i f _ h; simp [z2a] at h
 | succ k ih =>
  intro i f hk h
  cases i with
  | zero=>simp [z2a] at h; exact ⟨by omega,h.symm⟩
  | succ i =>
   obtain ⟨h1,rfl⟩:=ih i f (by omega) (by simpa [z2a] using h)
   exact ⟨by omega,by rw [show m - k + i = m - (k + 1) + (i + 1) by omega]⟩
theorem z9t:∀ (n:Nat) {t:TypeId} {T:Ty} {fuel:Nat} {cs:List Value} {x:DataW H × List MemPlace},zrc P n t = some T->(x.1.weights P t).all (·≤reachBytes) = true->DataW.trod enc P w 0 sp held fuel t cs = some x->∃ ds,z7e w T cs ds
 | 0,t,T,fuel,cs,x,ht,hw,h=>by cases ht
 | n + 1,t,T,fuel,cs,x,ht,hw,h=>by
  rw [zrc] at ht
  split at ht
  ·rename_i k hu
   cases ht
   obtain ⟨m,rfl,rfl,hb⟩:=DataW.trod_int hu h
   exact ⟨[.int k m],.int k m hb,rfl,fun j d v hd hv=>by
    cases j with
    | zero=>cases hd; cases hv; exact .int _ _
    | succ j=>simp at hd⟩
  ·rename_i hu
   cases ht
   obtain ⟨s,rfl,rfl,hb⟩:=DataW.trod_string hu h
   exact ⟨[.str s],.str s (str_reach hw),rfl,fun j d v hd hv=>by
    cases j with
    | zero=>cases hd; cases hv; exact .str _
    | succ j=>simp at hd⟩
  ·rename_i hu
   cases ht
   obtain ⟨b,rfl,rfl⟩:=DataW.trod_bool hu h
   exact ⟨[.bool b],.bool b,rfl,fun j d v hd hv=>by
    cases j with
    | zero=>cases hd; cases hv; exact .bool _
    | succ j=>simp at hd⟩
  ·rename_i e hu
   split at ht
   case isFalse=>cases ht
   rename_i hz
   obtain ⟨Te,hTe,rfl⟩:=Option.map_eq_some_iff.1 ht
   rcases open_slice hu h with ⟨hv,_⟩ | ⟨a,len,cap,m,n',D,Pl,hv,_,hl,hm,hmm,hx,hi⟩
   ·subst hv
    refine ⟨[.sl []],.sl Te [] (by simp) (fun c hc=>by cases hc),rfl,fun j d v hd hv=>?_⟩
    cases j with
    | zero =>
     cases hd; cases hv
     exact .sl [] none 0 1 (fun _ _=>.bool false) (by simp) (by simp) (fun h=>by simp at h) (fun i d j c hi=>by simp at hi)
    | succ j=>simp at hd
   ·subst hv
    have hlm:len≤m:=by rw [hmm]; split <;> omega
    rw [hx] at hw
    simp only [DataW.weights,hu,List.all_cons,Bool.and_eq_true,decide_eq_true_eq,List.length_map,List.length_range,List.all_append] at hw
    have hlr:len≤reachBytes:=Nat.le_trans (Nat.le_trans (Nat.le_add_right len (m - len)) (Nat.le_mul_of_pos_right _ hz.1)) hw.1
    have hwi:∀ i,i < len->((D i).weights P e).all (·≤reachBytes) = true:=fun i hil=>zd5 hw.2.1 (List.mem_map.2 ⟨i,List.mem_range.2 hil,rfl⟩)
    have each:∀ i,i < len->∃ y:List Value × List AV,w.cells? 0 (a.add (i * P.cellsOf e)) (P.cellsOf e) = some y.1∧z7e w Te y.1 y.2:=fun i him=>by
     obtain ⟨cs',h1,h2⟩:=hi i (by omega)
     obtain ⟨ds,hd⟩:=z9t n hTe (hwi i him) h2
     exact ⟨(cs',ds),h1,hd⟩
    obtain ⟨S,hS⟩:=choose_lt each
    have hL:((List.range len).map fun i=>(S i).2).length = len:=by simp
    have hcell:∀ i,i < len->∀ (j:Nat) (u:Value),((S i).1)[j]? = some u->w.cell? (a.add (i * P.cellsOf e + j)) = some u:=by
     intro i hil j u hj
     obtain ⟨_,hlen,hat⟩:=World.cells?_some (hS i hil).1
     have hjl:j < P.cellsOf e:=by rw [← hlen]; exact (List.getElem?_eq_some_iff.1 hj).1
     rw [← Go.Deep.add_add,hat j hjl,hj]
    refine ⟨[.sl (((List.range len).map fun i=>(S i).2).map (zd9 Te))],.sl Te _ (by rw [hL]; exact Nat.le_trans hlr (by decide)) (fun c hc=>?_),rfl,fun j d v hd hv=>?_⟩
    ·obtain ⟨i,hir,rfl⟩:=List.mem_map.1 hc
     exact (hS i (List.mem_range.1 hir)).2.1
    ·cases j with
     | succ j=>simp at hd
     | zero =>
      cases hd; cases hv
      have hL2:(((List.range len).map fun i=>(S i).2).map (zd9 Te)).length = len:=by simp
      have hget:∀ (i:Nat) (d:AV),(((List.range len).map fun i=>(S i).2).map (zd9 Te))[i]? = some d->i < len∧d = zd9 Te (S i).2:=by
       intro i d hd
       rw [List.getElem?_map,List.getElem?_map] at hd
       by_cases hlt:i < len
       ·rw [List.getElem?_range hlt] at hd; simp at hd
        exact ⟨hlt,hd.symm⟩
       ·rw [List.getElem?_eq_none (by simp; omega)] at hd; cases hd
      have key:VR (fun b _=>b < w.heap.size) w (.sl (((List.range len).map fun i=>(S i).2).map (zd9 Te))) (.slice (some a) (((List.range len).map fun i=>(S i).2).map (zd9 Te)).length cap):=by
       refine .sl _ (some a) cap (P.cellsOf e) (fun i j=>((S i).1).getD j (.bool false)) (by rw [hL2]; omega) hm (fun h0=>?_) (fun i d j c hi hj=>?_)
       ·rw [hL2] at h0
        obtain ⟨ab,ao,asp⟩:=a
        obtain ⟨_,hlen,_⟩:=World.cells?_some (hS 0 h0).1
        have hu0:((S 0).1)[0]? = some (((S 0).1)[0]'(by omega)):=List.getElem?_eq_getElem _
        have hc0:=hcell 0 h0 0 _ hu0
        have e0:(⟨ab,ao,asp⟩:Addr).add (0 * P.cellsOf e + 0) = ⟨ab,ao,asp⟩:=by simp [Addr.add]
        rw [e0] at hc0
        have hsp:asp = none:=by
         cases asp with
         | none=>rfl
         | some k =>
          simp only [World.cell?] at hc0
          split at hc0
          ·simp at hc0
          ·cases hc0
        subst hsp
        have hlt:=block_lt_of_cell hc0
        refine ⟨ab,ao,rfl,hlt,fun d hd=>?_,fun i j hi hj=>⟨hlt,?_⟩⟩
        ·obtain ⟨c,hc,rfl⟩:=List.mem_map.1 hd
         obtain ⟨i,hir,rfl⟩:=List.mem_map.1 hc
         have h2:=(hS i (List.mem_range.1 hir)).2
         obtain ⟨_,hlen,_⟩:=World.cells?_some (hS i (List.mem_range.1 hir)).1
         rw [zc1 h2.1,h2.2.1,hlen]
        ·rw [hL2] at hi
         obtain ⟨_,hlen,_⟩:=World.cells?_some (hS i hi).1
         have hv:((S i).1)[j]? = some (((S i).1).getD j (.bool false)):=by
          rw [List.getD_eq_getElem?_getD,List.getElem?_eq_getElem (by omega)]; rfl
         have:=hcell i hi j _ hv
         have e:(⟨ab,ao,none⟩:Addr).add (i * P.cellsOf e + j) = ⟨ab,ao + (i * P.cellsOf e + j),none⟩:=by
          unfold Addr.add; split
          ·rename_i h; rw [h]; rfl
          ·rfl
         rwa [e] at this
       ·obtain ⟨hlt,rfl⟩:=hget i d hi
        obtain ⟨q1,q2,q3⟩:=(hS i hlt).2
        rw [zc1 q1] at hj
        have hjl:=(List.getElem?_eq_some_iff.1 hj).1
        refine q3 j c _ hj ?_
        rw [List.getD_eq_getElem?_getD,List.getElem?_eq_getElem (by omega)]; rfl
      rw [hL2] at key
      exact key
  ·rename_i fs hu
   split at ht
   case isFalse=>cases ht
   rename_i hoff
   obtain ⟨Ts,hTs,rfl⟩:=Option.map_eq_some_iff.1 ht
   obtain ⟨xs,m,_,rfl,hl,hxs,hf⟩:=DataW.trod_struct hu h
   simp only [DataW.weights,hu] at hw
   have:=z6s (n:=n) (m:=m) (fun h1 h2 h3=>z9t n h1 h2 h3) (cs:=cs) (fs.toList.map fun f=>(f.offset,f.type)) 0 Ts xs (by rw [hl]; exact hoff) (by rw [List.map_map]; exact hTs) (by simpa using hxs)
    (fun i f hfi=>by
     rw [List.getElem?_map,Option.map_eq_some_iff] at hfi
     obtain ⟨g,hg,rfl⟩:=hfi
     exact hf i g (by simpa using hg)) (by rw [List.map_map]; exact hw)
   simpa using this
  ·rename_i k e hu
   split at ht
   case isFalse=>cases ht
   rename_i hoff
   obtain ⟨Ts,hTs,rfl⟩:=Option.map_eq_some_iff.1 ht
   obtain ⟨xs,m,_,rfl,hl,hxs,hf⟩:=DataW.trod_array hu h
   simp only [DataW.weights,hu] at hw
   have hm:(z2a k (P.cellsOf e) e k).map (·.2) = List.replicate k e:=by
    have:∀ j,(z2a k (P.cellsOf e) e j).map (·.2) = List.replicate j e:=by
     intro j
     induction j with
     | zero=>rfl
     | succ j ih=>rw [z2a,List.map_cons,ih,List.replicate_succ]
    exact this k
   have hlen:(z2a k (P.cellsOf e) e k).length = k:=by
    have:=congrArg List.length hm
    simpa using this
   have:=z6s (n:=n) (m:=m) (fun h1 h2 h3=>z9t n h1 h2 h3) (cs:=cs) (z2a k (P.cellsOf e) e k) 0 Ts xs (by rw [hl]; exact hoff) (by rw [hm]; exact hTs) (by rw [hlen,hxs])
    (fun i f hfi=>by
     obtain ⟨h1,rfl⟩:=zlf _ _ _ _ _ _ (Nat.le_refl _) hfi
     rw [Nat.sub_self,Nat.zero_add]
     exact hf i h1) (by rw [hm]; exact z9z (by rw [List.length_map,hxs]) hw)
   simpa using this
  ·cases ht
end
end Go.Proofs.Ytolocaankfcjiaa
end
section
/-
 Plain facts about texts as lists of bytes: the order 'bytesLess',the common front,what parts two texts. No program,no world.
-/
namespace Go.Proofs.Ytolocaankfcjiaa.kp
open Go.Op (bytesLess)
def common:List UInt8->List UInt8->Nat
 | a :: x,b :: y=>if a = b then common x y + 1 else 0
 | _,_=>0
theorem less_cons (a b:UInt8) (x y:List UInt8):bytesLess (a :: x) (b :: y) = (decide (a < b) || (a == b && bytesLess x y)):=rfl
theorem less_nil (x:List UInt8):bytesLess x [] = false:=by cases x <;> rfl
theorem nil_less (b:UInt8) (y:List UInt8):bytesLess [] (b :: y) = true:=rfl
theorem u8_lt_irrefl (a:UInt8):¬ a < a:=by simp
theorem zmi {a b:UInt8} (h1:¬ a < b) (h2:¬ b < a):a = b:=by
 apply UInt8.toNat.inj; simp [UInt8.lt_iff_toNat_lt] at h1 h2; omega
theorem u8_lt_trans {a b c:UInt8} (h1:a < b) (h2:b < c):a < c:=by simp [UInt8.lt_iff_toNat_lt] at *; omega
theorem less_irrefl:∀ x:List UInt8,bytesLess x x = false
 | []=>rfl
 | a :: x=>by simp [less_cons,less_irrefl x]
theorem less_total:∀ x y:List UInt8,bytesLess x y = false->bytesLess y x = false->x = y
 | [],[],_,_=>rfl
 | [],_ :: _,h,_=>by simp [nil_less] at h
 | _ :: _,[],_,h=>by simp [nil_less] at h
 | a :: x,b :: y,h1,h2=>by
  simp only [less_cons,Bool.or_eq_false_iff,decide_eq_false_iff_not,Bool.and_eq_false_iff] at h1 h2
  have e:=zmi h1.1 h2.1
  subst e
  simp at h1 h2
  rw [less_total x y h1 h2]
theorem less_asymm:∀ x y:List UInt8,bytesLess x y = true->bytesLess y x = false
 | _,[],h=>by simp [less_nil] at h
 | [],b :: y,_=>by simp [less_nil]
 | a :: x,b :: y,h=>by
  simp only [less_cons,Bool.or_eq_true,decide_eq_true_eq,Bool.and_eq_true,beq_iff_eq] at h
  simp only [less_cons,Bool.or_eq_false_iff,decide_eq_false_iff_not,Bool.and_eq_false_iff]
  rcases h with h | ⟨rfl,h⟩
  ·refine ⟨fun h'=>u8_lt_irrefl _ (u8_lt_trans h h'),.inl ?_⟩
   simp only [beq_eq_false_iff_ne]
   intro e; subst e; exact u8_lt_irrefl _ h
  ·exact ⟨u8_lt_irrefl _,.inr (less_asymm x y h)⟩
theorem less_trans:∀ x y z:List UInt8,bytesLess x y = true->bytesLess y z = true->bytesLess x z = true
 | _,[],_,h,_=>by simp [less_nil] at h
 | _,_ :: _,[],_,h=>by simp [less_nil] at h
 | [],_ :: _,_ :: _,_,_=>rfl
 | a :: x,b :: y,c :: z,h1,h2=>by
  simp only [less_cons,Bool.or_eq_true,decide_eq_true_eq,Bool.and_eq_true,beq_iff_eq] at *
  rcases h1 with h1 | ⟨rfl,h1⟩ <;> rcases h2 with h2 | ⟨rfl,h2⟩
  ·exact .inl (u8_lt_trans h1 h2)
  ·exact .inl h1
  ·exact .inl h2
  ·exact .inr ⟨rfl,less_trans x y z h1 h2⟩
end Go.Proofs.Ytolocaankfcjiaa.kp
end
