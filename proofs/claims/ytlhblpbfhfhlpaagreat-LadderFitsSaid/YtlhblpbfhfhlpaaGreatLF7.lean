/-
  Part 7 of a proof: AmQ, AmR, Glue, KeyPure, SqA, SqB, SqC, SqD.
-/
import Derived.SizedLaws
import Derived.OpenShut
import GoSem.Op.String
import Derived.IntWalk
import Derived.Test.YtlhblpbfhfhlpaaGreatLF6
set_option linter.unusedVariables false
set_option linter.unusedSimpArgs false
set_option maxRecDepth 100000
section
namespace Go.Proofs.YtlhblpbfhfhlpaaGreat
open Go.RowKit
def zxn (z:Nat) (ty:TypeId) (d:AV):Option Arr:=some ⟨z,ty,[d],0⟩
def zzb (z:Nat):List AV->Prop
 | []=>True
 | d :: l=>(d.cells.length = z∧d.cells.all AV.one = true)∧zzb z l
theorem zcj {z:Nat}:∀ {l:List AV},zzb z l->∀ d,d ∈ l->d.cells.length = z∧d.cells.all AV.one = true
 | d :: l,h,x,hx=>by
  rcases List.mem_cons.1 hx with e | e
  ·subst e; exact h.1
  ·exact zcj h.2 x e
def zda (σ:St) (d:Nat) (fz:List Nat):AV->St
 | .own z ty l=>(σ.fzs fz).made d (.rs d 0 l.length) (some ⟨z,ty,l,0⟩)
 | r=>if r.flatB then σ.made d r none else (σ.fzs fz).made d r none
def z1w (hid:List Nat) (d:Nat):AV->Bool
 | .own ..=>!hid.contains d
 | r=>z11 hid r
def stOk (σ:St) (z:Nat) (v:AV):AV->Prop
 | .ptr r i f=>byOk [] σ v∧i < (z0a (σ.H r)).length∧(z1l σ v).cells.length = z∧f + z≤((z0a (σ.H r)).getD i .und).cells.length∧z1q ((σ.fzs (byFz v)).H r)≤i∧(z1l σ v).cells.all AV.one = true
 | _=>False
def stArr (σ:St) (z:Nat) (v:AV) (i f:Nat):Option Arr->Option Arr
 | some a=>some ⟨a.z,a.ty,a.cells.set i ((a.cells.getD i .und).patch f z (z1l σ v)),a.prot⟩
 | none=>none
def stSt (σ:St) (z:Nat) (v:AV):AV->St
 | .ptr r i f=>⟨σ.T,upd (σ.fzs (byFz v)).H r (stArr σ z v i f ((σ.fzs (byFz v)).H r))⟩
 | _=>σ
def stpOk (σ:St) (z:Nat):AV->AV->Prop
 | .rs q _ _,.ptr r i f=>z = 1∧i < (z0a (σ.H r)).length∧f + 1≤((z0a (σ.H r)).getD i .und).cells.length∧z1q (σ.H r)≤i∧(σ.H q).isSome = true
 | .sl _,.ptr r i f=>z = 1∧i < (z0a (σ.H r)).length∧f + 1≤((z0a (σ.H r)).getD i .und).cells.length∧z1q (σ.H r)≤i
 | _,_=>False
def zsy (c:AV) (i f:Nat):Option Arr->Option Arr
 | some a=>some ⟨a.z,a.ty,a.cells.set i ((a.cells.getD i .und).patch f 1 c),a.prot⟩
 | none=>none
def zsx (σ:St) (u:Value):AV->AV->St
 | .rs q off len,.ptr r i f=>⟨upd σ.T (vt r (i * objZ (σ.H r) + f)) (.vrs q off len u),upd σ.H r (zsy (.cst u) i f (σ.H r))⟩
 | .sl l,.ptr r i f=>⟨σ.T,upd σ.H r (zsy (.sl l) i f (σ.H r))⟩
 | _,_=>σ
def zch (p:Value->Prop):Prop:=∀ u:Value,u.oneCell' = true->p u
theorem zch.intro {p:Value->Prop} (h:∀ u:Value,u.oneCell' = true->p u):zch p:=h
def clOk (σ:St) (z:Nat) (d:AV):AV->Prop
 | .rs r off len=>(σ.H r).isSome = true∧objZ (σ.H r) = z∧z1q (σ.H r)≤off∧d.cells.length = z∧d.cells.all AV.one = true
 | _=>False
def clArr (d:AV) (off len:Nat):Option Arr->Option Arr
 | some a=>some ⟨a.z,a.ty,a.cells.take off ++ List.replicate len d ++ a.cells.drop (off + len),a.prot⟩
 | none=>none
def clSt (σ:St) (d:AV):AV->St
 | .rs r off len=>⟨σ.T,upd σ.H r (clArr d off len (σ.H r))⟩
 | _=>σ
def y0m (F0 hid wr:List Nat) (σ:St) (z:Nat) (v:AV):AV->Prop
 | .ptr r i f=>wr.contains r = true∧hid.contains r = false∧F0.contains r = false∧byOk hid σ v∧(byFz v).all F0.contains = true∧i < (z0a (σ.H r)).length∧(z1l σ v).cells.length = z∧f + z≤((z0a (σ.H r)).getD i .und).cells.length∧z1q (σ.H r)≤i∧(z1l σ v).cells.all AV.one = true
 | _=>False
def y0l (σ:St) (z:Nat) (v:AV):AV->St
 | .ptr r i f=>⟨σ.T,upd σ.H r (stArr σ z v i f (σ.H r))⟩
 | _=>σ
def apOk (σ:St) (z ty bytes:Nat) (v:AV):AV->Prop
 | .rs r off len=>byOk [] σ v∧(∃ l,z1l σ v = .sl l∧(σ.H r).isSome = true∧objZ (σ.H r) = z∧(objTy (σ.H r) = ty)∧z1q ((σ.fzs (byFz v)).H r)≤off + len∧fitsV (len + l.length) bytes∧r < 1000∧∀ d,d ∈ l->d.cells.length = z∧d.cells.all AV.one = true)
 | _=>False
where objTy:Option Arr->Nat | some a=>a.ty | none=>0
def slOf:AV->List AV | .sl l=>l | _=>[]
def apArr (l:List AV) (len:Nat):Option Arr->Option Arr
 | some a=>some ⟨a.z,a.ty,a.cells.take len ++ l,a.prot⟩
 | none=>none
def apSt (σ:St) (d:Nat) (v:AV):AV->St
 | .rs r off len=>⟨upd (z8q σ.T r) d (.rs r off (len + (slOf (z1l σ v)).length)),upd (σ.fzs (byFz v)).H r (apArr (slOf (z1l σ v)) (off + len) ((σ.fzs (byFz v)).H r))⟩
 | _=>σ
def apTwo:AV->Prop
 | .rs _ 0 _=>False
 | .rs _ (_ + 1) _=>True
 | _=>False
def y8g (l:List AV) (off len:Nat):Option Arr->Option Arr
 | some a=>some ⟨a.z,a.ty,(a.cells.drop off).take len ++ l,0⟩
 | none=>none
def apSt2 (σ:St) (d:Nat) (v:AV):AV->St
 | .rs r off len=>⟨upd (z8q σ.T r) d (.rs r 0 (len + (slOf (z1l σ v)).length)),upd (σ.fzs (byFz v)).H r (y8g (slOf (z1l σ v)) off len ((σ.fzs (byFz v)).H r))⟩
 | _=>σ
def nilOk (σ:St):AV->Prop
 | .sl _=>True
 | .rs r _ _=>(σ.H r).isSome = true
 | _=>False
def zxq:AV->Prop
 | .sl l=>l.isEmpty = true
 | .rs _ _ len=>len = 0
 | _=>False
def y3x (C:FuncId->List AV->AV->Prop) (f:FuncId) (args:List AV) (hid:List Nat) (d:Nat) (fz:List Nat) (σ:St) (R:St->(St->Prop)->Prop) (K:St->Prop):Prop :=
 ∃ r,C f args r∧z1w hid d r = true∧R (zda σ d fz r) K
def z18 (C:FuncId->List AV->AV->Prop) (R:St->(St->Prop)->Prop) (K:St->Prop) (σ:St) (d:Nat) (hid:List Nat):IOp->Prop
 | .alloc z ty zero=>zero.cells.length = z∧0 < z∧zero.cells.all AV.one = true∧hid.contains d = false∧R (σ.made d (.ptr d 0 0) (zxn z ty zero)) K
 | .box z ty x=>byOk hid σ (σ.get x)∧(z1l σ (σ.get x)).cells.length = z∧0 < z∧(z1l σ (σ.get x)).cells.all AV.one = true∧hid.contains d = false∧R ((σ.fzs (byFz (σ.get x))).made d (.ptr d 0 0) (zxn z ty (z1l σ (σ.get x)))) K
 | .mknil z ty=>0 < z∧hid.contains d = false∧R (σ.made d (.rs d 0 0) (some ⟨z,ty,[],0⟩)) K
 | .bsl z ty xs=>z6b hid σ (xs.map σ.get)∧0 < z∧zzb z (z17 σ (xs.map σ.get))∧hid.contains d = false∧R ((σ.fzs (z8k (xs.map σ.get))).made d (.rs d 0 (z17 σ (xs.map σ.get)).length) (some ⟨z,ty,z17 σ (xs.map σ.get),0⟩)) K
 | .callv fx xs=>(σ.get fx).isC = true∧z6b hid σ (xs.map σ.get)∧y3x C (σ.get fx).cf ((σ.get fx).c1 ++ z17 σ (xs.map σ.get) ++ (σ.get fx).c2) hid d (z8k (xs.map σ.get)) σ R K
 | .call p xs=>z6b hid σ (xs.map σ.get)∧z4i p (z17 σ (xs.map σ.get))∧z1w hid d (z1p p (z17 σ (xs.map σ.get))) = true∧R (zda σ d (z8k (xs.map σ.get)) (z1p p (z17 σ (xs.map σ.get)))) K
 | .append z ty bytes x y=>apOk σ z ty bytes (σ.get y) (σ.get x)∧R (apSt σ d (σ.get y) (σ.get x)) K∧(apTwo (σ.get x)->R (apSt2 σ d (σ.get y) (σ.get x)) K)
 | .nileq neq x=>nilOk σ (σ.get x)∧(zxq (σ.get x)->R (σ.set d (.bool (!neq))) K)∧R (σ.set d (.bool neq)) K
 | io=>okV hid σ io∧z11 hid (valV σ io) = true∧R ((σ.fzs (fzV σ io)).made d (valV σ io) none) K
def gB:AV->Bool | .bool _=>true | .tup []=>true | _=>false
def gIs:Bool->AV->Bool | true,.bool b=>b | false,.bool b=>!b | _,_=>false
def z0e (C:FuncId->List AV->AV->Prop):List ROp->St->(St->Prop)->Prop
 | [],σ,K=>K σ
 | ⟨io,some d,none,hid,wr⟩ :: l,σ,K=>z18 C (z0e C l) K σ d hid io
 | ⟨io,none,none,_,_⟩ :: l,σ,K=>(match io with
  | .store z p x=>stOk σ z (σ.get x) (σ.get p)∧z0e C l (stSt σ z (σ.get x) (σ.get p)) K
  | .storep z p x=>stpOk σ z (σ.get x) (σ.get p)∧zch fun u=>z0e C l (zsx σ u (σ.get x) (σ.get p)) K
  | .copy z x (.c d)=>clOk σ z d (σ.get x)∧z0e C l (clSt σ d (σ.get x)) K
  | _=>False)
 | ⟨io,some d,some (t,w),hid,wr⟩ :: l,σ,K=>gB (σ.T t) = true∧(gIs w (σ.T t) = true->z18 C (z0e C l) K (σ.set t (.bool w)) d hid io) ∧
   (gIs w (σ.T t) = false->z0e C l ((if (σ.T t).isB then σ.set t (.bool (!w)) else σ).set d (.tup [])) K)
 | _ :: _,_,_=>False
theorem z6l {hid:List Nat} {d:Nat} (h:hid.contains d = false) {i f:Nat}:z11 hid (.ptr d i f) = true:=by simp only [z11,AV.name]; rw [h]; rfl
theorem z30 {hid:List Nat} {d:Nat} (h:hid.contains d = false) {i f:Nat}:z11 hid (.rs d i f) = true:=by simp only [z11,AV.name]; rw [h]; rfl
theorem runOp_M {C:FuncId->List AV->AV->Prop} {σ:St} {d:Nat} {hid:List Nat} {R:St->(St->Prop)->Prop} {K:St->Prop} {io:IOp} (hm:io.isMut = false) (h:z18 C R K σ d hid io):z0y C d hid σ (fun v s fz=>z11 hid v = true∧R ((σ.fzs fz).made d v s) K) io:=by
 cases io with
 | alloc z ty zero=>exact ⟨h.1,h.2.1,h.2.2.1,z6l h.2.2.2.1,h.2.2.2.2⟩
 | box z ty x =>
  simp only [z18,z0y] at *
  rw [z49.1 h.1]
  exact ⟨h.2.1,h.2.2.1,h.2.2.2.1,z6l h.2.2.2.2.1,h.2.2.2.2.2⟩
 | mknil z ty=>exact ⟨h.1,z30 h.2.1,h.2.2⟩
 | bsl z ty xs =>
  simp only [z18,z0y] at *
  rw [z1s.1 h.1]
  exact ⟨h.2.1,zcj h.2.2.1,z30 h.2.2.2.1,h.2.2.2.2⟩
 | callv fx xs =>
  simp only [z18,z0y,y3x] at *
  obtain ⟨h1,h2,r,h3,h4,h5⟩:=h
  cases hf:σ.get fx <;> rw [hf] at h1 h3 <;> simp only [AV.isC,Bool.false_eq_true] at h1
  rw [z1s.1 h2]
  refine ⟨r,h3,?_⟩
  cases r with
  | own z ty l=>exact ⟨z30 (by simpa [z1w] using h4),h5⟩
  | _ =>
   simp only [z1f]
   simp only [zda] at h5
   simp only [z1w] at h4
   split
   ·rename_i hb; rw [if_pos hb] at h5; exact ⟨h4,h5⟩
   ·rename_i hb; rw [if_neg hb] at h5; exact ⟨h4,h5⟩
 | call p xs =>
  simp only [z18,z0y] at *
  obtain ⟨h2,h3,h4,h5⟩:=h
  rw [z1s.1 h2]
  refine ⟨h3,?_⟩
  generalize z1p p (z17 σ (xs.map σ.get)) = r at h4 h5
  cases r with
  | own z ty l=>exact ⟨z30 (by simpa [z1w] using h4),h5⟩
  | _ =>
   simp only [z1f]
   simp only [zda] at h5
   simp only [z1w] at h4
   split
   ·rename_i hb; rw [if_pos hb] at h5; exact ⟨h4,h5⟩
   ·rename_i hb; rw [if_neg hb] at h5; exact ⟨h4,h5⟩
 | store z p x=>cases hm
 | append z ty b x y=>cases hm
 | nileq neq x=>cases hm
 | storep z p x=>cases hm
 | copy z x y=>cases hm
 | _=>exact y7v (K:=fun v fz=>z11 hid v = true∧R ((σ.fzs fz).made d v none) K) h
theorem y7n {σ:St} {fz:List Nat} {r:Nat} (h:(σ.H r).isSome = true):∃ arr arr',σ.H r = some arr∧(σ.fzs fz).H r = some arr'∧arr'.cells = arr.cells∧arr'.z = arr.z∧arr'.ty = arr.ty:=by
 obtain ⟨arr,ha⟩:=Option.isSome_iff_exists.1 h
 obtain ⟨a',q1,q2,_⟩:=zc6 (l:=fz) ha
 exact ⟨arr,a',ha,q1,q2.cells,q2.z,q2.ty⟩
theorem run_store {σ:St} {K:St->Prop} {z:Nat} {p x:IOpd} (h:stOk σ z (σ.get x) (σ.get p)∧K (stSt σ z (σ.get x) (σ.get p))):z13 σ none K (.store z p x):=by
 obtain ⟨h1,h2⟩:=h
 simp only [z13]
 cases hp:σ.get p <;> rw [hp] at h1 h2 <;> simp only [stOk,stSt] at h1 h2
 rename_i r i f
 obtain ⟨g1,g2,g3,g4,g5,g6⟩:=h1
 rw [z49.1 g1]
 have hs:(σ.H r).isSome = true:=by
  cases ha:σ.H r with
  | none=>rw [ha] at g2; simp [z0a] at g2
  | some arr=>rfl
 obtain ⟨arr,arr',q1,q2,q3,q4,q5⟩:=y7n (fz:=byFz (σ.get x)) hs
 rw [q1] at g2 g4
 rw [q2] at g5 h2
 simp only [z0a,z1q] at g2 g4 g5
 simp only [q2,q3]
 rw [List.getD_eq_getElem?_getD,List.getElem?_eq_getElem g2] at g4
 rw [List.getElem?_eq_getElem g2]
 refine ⟨g3,g4,g5,g6,?_⟩
 simp only [stArr,q3] at h2
 rw [List.getD_eq_getElem?_getD,List.getElem?_eq_getElem g2] at h2
 exact h2
theorem run_storep {σ:St} {K:St->Prop} {z:Nat} {p x:IOpd} (h:stpOk σ z (σ.get x) (σ.get p)∧zch fun u=>K (zsx σ u (σ.get x) (σ.get p))):z13 σ none K (.storep z p x):=by
 obtain ⟨h1,h2⟩:=h
 simp only [z13]
 cases hx:σ.get x <;> rw [hx] at h1 h2 <;> try exact h1.elim
 ·cases hp:σ.get p <;> rw [hp] at h1 h2 <;> try exact h1.elim
  rename_i l r i f
  obtain ⟨g1,g2,g3,g4⟩:=h1
  cases ha:σ.H r with
  | none=>rw [ha] at g2; simp [z0a] at g2
  | some arr =>
   simp only [ha,z0a,z1q] at g2 g3 g4
   rw [List.getD_eq_getElem?_getD,List.getElem?_eq_getElem g2] at g3
   simp only [ha,List.getElem?_eq_getElem g2]
   refine ⟨g1,g3,g4,?_⟩
   have:=h2 (.bool true) rfl
   simp only [zsx,zsy,ha,List.getD_eq_getElem?_getD,List.getElem?_eq_getElem g2,Option.getD_some] at this
   exact this
 ·cases hp:σ.get p <;> rw [hp] at h1 h2 <;> try exact h1.elim
  rename_i q off len r i f
  obtain ⟨g1,g2,g3,g4,g5⟩:=h1
  cases ha:σ.H r with
  | none=>rw [ha] at g2; simp [z0a] at g2
  | some arr =>
   simp only [ha,z0a,z1q] at g2 g3 g4
   rw [List.getD_eq_getElem?_getD,List.getElem?_eq_getElem g2] at g3
   simp only [ha,List.getElem?_eq_getElem g2]
   refine ⟨g1,g3,g4,g5,fun u hu=>?_⟩
   have:=h2 u hu
   simp only [zsx,zsy,objZ,ha,List.getD_eq_getElem?_getD,List.getElem?_eq_getElem g2,Option.getD_some] at this
   exact this
theorem run_clr {σ:St} {K:St->Prop} {z:Nat} {x:IOpd} {d:AV} (h:clOk σ z d (σ.get x)∧K (clSt σ d (σ.get x))):z13 σ none K (.copy z x (.c d)):=by
 obtain ⟨h1,h2⟩:=h
 simp only [z13]
 cases hx:σ.get x <;> rw [hx] at h1 h2 <;> simp only [clOk,clSt] at h1 h2
 rename_i r off len
 obtain ⟨g1,g2,g3,g4,g5⟩:=h1
 obtain ⟨arr,ha⟩:=Option.isSome_iff_exists.1 g1
 simp only [ha,objZ,z1q,clArr] at g2 g3 h2 ⊢
 exact ⟨g2,g3,g4,g5,trivial,h2⟩
theorem zl0 {σ:St} {K:St->Prop} {z ty bytes d:Nat} {x y:IOpd} (h:apOk σ z ty bytes (σ.get y) (σ.get x)∧K (apSt σ d (σ.get y) (σ.get x))∧(apTwo (σ.get x)->K (apSt2 σ d (σ.get y) (σ.get x)))):z13 σ (some d) K (.append z ty bytes x y):=by
 obtain ⟨h1,h2,h3⟩:=h
 simp only [z13]
 cases hx:σ.get x <;> rw [hx] at h1 h2 h3 <;> simp only [apOk,apSt,apSt2] at h1 h2 h3
 rename_i r off len
 obtain ⟨g1,l,g2,g3,g4,g5,g6,g7,g9,g8⟩:=h1
 rw [z49.1 g1,g2]
 obtain ⟨arr,arr',q1,q2,q3,q4,q5⟩:=y7n (fz:=byFz (σ.get y)) g3
 rw [q1] at g4 g5
 rw [q2] at g6 h2 h3
 simp only [objZ,apOk.objTy,z1q] at g4 g5 g6
 simp only [q2]
 refine ⟨g9,by rw [q4]; exact g4,by rw [q5]; exact g5,g6,g7,g8,?_,fun h0=>?_⟩
 ·simp only [apArr,g2,slOf] at h2
  exact h2
 ·simp only [y8g,g2,slOf] at h3
  refine h3 ?_
  cases off with
  | zero=>exact absurd rfl h0
  | succ n=>trivial
theorem zt6 {σ:St} {K:St->Prop} {neq:Bool} {d:Nat} {x:IOpd} (h:nilOk σ (σ.get x)∧(zxq (σ.get x)->K (σ.set d (.bool (!neq))))∧K (σ.set d (.bool neq))):z13 σ (some d) K (.nileq neq x):=by
 obtain ⟨h1,h2,h3⟩:=h
 simp only [z13]
 cases hx:σ.get x <;> rw [hx] at h1 h2 <;> simp only [nilOk,zxq] at h1 h2
 ·exact ⟨h2,h3⟩
 ·exact ⟨h1,h2,h3⟩
theorem zdn {v:AV} (h:gB v = true):(∃ b,v = .bool b)∨v = .tup []:=by
 unfold gB at h
 split at h
 ·exact .inl ⟨_,rfl⟩
 ·exact .inr rfl
 ·cases h
theorem z10 {C:FuncId->List AV->AV->Prop}:∀ {l:List ROp} {σ:St} {K:St->Prop},z0e C l σ K->z0j C l σ K
 | [],σ,K,h=>h
 | ⟨io,some d,none,hid,wr⟩ :: l,σ,K,h=>by
  simp only [z0e] at h
  simp only [z0j,z1i,z8r]
  cases hm:io.isMut with
  | true =>
   rw [if_pos rfl]
   cases io <;> first
    | (cases hm; done)
    | (simp only [z18,okV,false_and] at h; done)
    | (refine z1v (fun σ hk=>z10 hk) (zl0 (K:=fun σ=>z0e C l σ K) h))
    | (refine z1v (fun σ hk=>z10 hk) (zt6 (K:=fun σ=>z0e C l σ K) h))
  | false =>
   rw [if_neg (by simp)]
   exact z3o (fun v s fz hk=>⟨hk.1,z10 hk.2⟩) (runOp_M hm h)
 | ⟨io,none,none,hid,wr⟩ :: l,σ,K,h=>by
  cases io <;> simp only [z0e] at h <;> try exact h.elim
  ·simp only [z0j,z1i,z8r,IOp.isMut,if_true]
   exact z1v (fun σ hk=>z10 hk) (run_store (K:=fun σ=>z0e C l σ K) h)
  ·rename_i z x y
   cases y with
   | t k=>exact h.elim
   | c d =>
    simp only [z0j,z1i,z8r,IOp.isMut,if_true]
    exact z1v (fun σ hk=>z10 hk) (run_clr (K:=fun σ=>z0e C l σ K) h)
  ·simp only [z0j,z1i,z8r,IOp.isMut,if_true]
   exact z1v (fun σ hk=>z10 hk) (run_storep (K:=fun σ=>z0e C l σ K) h)
 | ⟨io,some d,some (t,w),hid,wr⟩ :: l,σ,K,h=>by
  simp only [z0e] at h
  obtain ⟨h1,h2,h3⟩:=h
  simp only [z0j,z1i]
  rcases zdn h1 with ⟨b,e⟩ | e
  ·rw [e] at h2 h3
   rw [e]
   refine ⟨fun hb=>?_,fun hb=>?_⟩
   ·subst hb
    have h:=h2 (by cases b <;> rfl)
    simp only [z8r]
    cases hm:io.isMut with
    | true =>
     rw [if_pos rfl]
     cases io <;> first
      | (cases hm; done)
      | (simp only [z18,okV,false_and] at h; done)
      | (refine z1v (fun σ hk=>z10 hk) (zl0 (K:=fun σ=>z0e C l σ K) h))
      | (refine z1v (fun σ hk=>z10 hk) (zt6 (K:=fun σ=>z0e C l σ K) h))
    | false =>
     rw [if_neg (by simp)]
     exact z3o (fun v s fz hk=>⟨hk.1,z10 hk.2⟩) (runOp_M hm h)
   ·subst hb
    have h:=h3 (by cases w <;> rfl)
    simp only [AV.isB,if_true] at h
    exact z10 h
  ·rw [e] at h3
   rw [e]
   have h:=h3 (by cases w <;> rfl)
   simp only [AV.isB,Bool.false_eq_true,if_false] at h
   exact z10 h
 | ⟨io,none,some g,hid,wr⟩ :: l,σ,K,h=>by simp only [z0e] at h
def zsm (C:FuncId->List AV->AV->Prop) (F0:List Nat) (f:FuncId) (args:List AV) (hid:List Nat) (d:Nat) (fz:List Nat) (σ:St) (R:St->(St->Prop)->Prop) (K:St->Prop):Prop :=
 ∃ r,C f args r∧z1w hid d r = true∧(r.flatB || fz.all F0.contains) = true∧R (zda σ d [] r) K
def z0h (C:FuncId->List AV->AV->Prop) (F0:List Nat) (R:St->(St->Prop)->Prop) (K:St->Prop) (σ:St) (d:Nat) (hid:List Nat):IOp->Prop
 | .alloc z ty zero=>zero.cells.length = z∧0 < z∧zero.cells.all AV.one = true∧hid.contains d = false∧R (σ.made d (.ptr d 0 0) (zxn z ty zero)) K
 | .box z ty x=>byOk hid σ (σ.get x)∧(byFz (σ.get x)).all F0.contains = true∧(z1l σ (σ.get x)).cells.length = z∧0 < z∧(z1l σ (σ.get x)).cells.all AV.one = true∧hid.contains d = false∧R (σ.made d (.ptr d 0 0) (zxn z ty (z1l σ (σ.get x)))) K
 | .mknil z ty=>0 < z∧hid.contains d = false∧R (σ.made d (.rs d 0 0) (some ⟨z,ty,[],0⟩)) K
 | .bsl z ty xs=>z6b hid σ (xs.map σ.get)∧(z8k (xs.map σ.get)).all F0.contains = true∧0 < z∧zzb z (z17 σ (xs.map σ.get))∧hid.contains d = false∧R (σ.made d (.rs d 0 (z17 σ (xs.map σ.get)).length) (some ⟨z,ty,z17 σ (xs.map σ.get),0⟩)) K
 | .callv fx xs=>(σ.get fx).isC = true∧z6b hid σ (xs.map σ.get)∧zsm C F0 (σ.get fx).cf ((σ.get fx).c1 ++ z17 σ (xs.map σ.get) ++ (σ.get fx).c2) hid d (z8k (xs.map σ.get)) σ R K
 | .call p xs=>z6b hid σ (xs.map σ.get)∧z4i p (z17 σ (xs.map σ.get))∧z1w hid d (z1p p (z17 σ (xs.map σ.get))) = true∧((z1p p (z17 σ (xs.map σ.get))).flatB || (z8k (xs.map σ.get)).all F0.contains) = true∧R (zda σ d [] (z1p p (z17 σ (xs.map σ.get)))) K
 | io=>okV hid σ io∧z11 hid (valV σ io) = true∧(fzV σ io).all F0.contains = true∧R (σ.made d (valV σ io) none) K
def z08 (C:FuncId->List AV->AV->Prop) (F0:List Nat) (tl:List ROp):List ROp->St->(St->Prop)->Prop
 | [],σ,K=>z0e C tl σ K
 | ⟨io,some d,none,hid,wr⟩ :: l,σ,K=>z0h C F0 (z08 C F0 tl l) K σ d hid io
 | ⟨io,some d,some (t,w),hid,wr⟩ :: l,σ,K=>gB (σ.T t) = true∧(gIs w (σ.T t) = true->z0h C F0 (z08 C F0 tl l) K (σ.set t (.bool w)) d hid io) ∧
   (gIs w (σ.T t) = false->z08 C F0 tl l ((if (σ.T t).isB then σ.set t (.bool (!w)) else σ).set d (.tup [])) K)
 | ⟨io,none,none,hid,wr⟩ :: l,σ,K=>(match io with
  | .store z p x=>y0m F0 hid wr σ z (σ.get x) (σ.get p)∧z08 C F0 tl l (y0l σ z (σ.get x) (σ.get p)) K
  | _=>False)
 | _ :: _,_,_=>False
theorem run_storeH {F0 hid wr:List Nat} {σ:St} {K:St->Prop} {z:Nat} {p x:IOpd} (h:y0m F0 hid wr σ z (σ.get x) (σ.get p)∧K (y0l σ z (σ.get x) (σ.get p))):zyp F0 hid wr σ (fun r arr=>K ⟨σ.T,upd σ.H r (some arr)⟩) (.store z p x):=by
 obtain ⟨h1,h2⟩:=h
 simp only [zyp]
 cases hp:σ.get p <;> rw [hp] at h1 h2 <;> simp only [y0m,y0l] at h1 h2
 rename_i r i f
 obtain ⟨a1,a2,a3,g1,a4,g2,g3,g4,g5,g6⟩:=h1
 refine ⟨a1,a2,a3,?_⟩
 rw [z49.1 g1]
 refine ⟨a4,?_⟩
 cases ha:σ.H r with
 | none=>rw [ha] at g2; simp [z0a] at g2
 | some arr =>
  rw [ha] at g2 g4 g5 h2
  simp only [z0a,z1q] at g2 g4 g5
  simp only
  rw [List.getD_eq_getElem?_getD,List.getElem?_eq_getElem g2] at g4
  rw [List.getElem?_eq_getElem g2]
  refine ⟨g3,g4,g5,g6,?_⟩
  simp only [stArr] at h2
  rw [List.getD_eq_getElem?_getD,List.getElem?_eq_getElem g2] at h2
  exact h2
theorem y7l {C:FuncId->List AV->AV->Prop} {F0:List Nat} {R:St->(St->Prop)->Prop} {σ:St} {d:Nat} {hid:List Nat} {K:St->Prop} {io:IOp} (h:z0h C F0 R K σ d hid io):z0y C d hid σ (fun v s fz=>fz.all F0.contains = true∧z11 hid v = true∧R (σ.made d v s) K) io:=by
 cases io with
 | alloc z ty zero=>exact ⟨h.1,h.2.1,h.2.2.1,rfl,z6l h.2.2.2.1,h.2.2.2.2⟩
 | box z ty x =>
  simp only [z0h,z0y] at *
  rw [z49.1 h.1]
  exact ⟨h.2.2.1,h.2.2.2.1,h.2.2.2.2.1,h.2.1,z6l h.2.2.2.2.2.1,h.2.2.2.2.2.2⟩
 | mknil z ty=>exact ⟨h.1,rfl,z30 h.2.1,h.2.2⟩
 | bsl z ty xs =>
  simp only [z0h,z0y] at *
  rw [z1s.1 h.1]
  exact ⟨h.2.2.1,zcj h.2.2.2.1,h.2.1,z30 h.2.2.2.2.1,h.2.2.2.2.2⟩
 | callv fx xs =>
  simp only [z0h,z0y,zsm] at *
  obtain ⟨h1,h2,r,h3,h4,h5,h6⟩:=h
  cases hf:σ.get fx <;> rw [hf] at h1 h3 <;> simp only [AV.isC,Bool.false_eq_true] at h1
  rw [z1s.1 h2]
  refine ⟨r,h3,?_⟩
  have hres:∀ b,(if b = true then σ.made d r none else (σ.fzs []).made d r none) = σ.made d r none:=fun b=>by cases b <;> rfl
  cases r with
  | own z ty l=>exact ⟨by simpa [AV.flatB] using h5,z30 (by simpa [z1w] using h4),h6⟩
  | _ =>
   simp only [z1f]
   simp only [zda,hres] at h6
   simp only [z1w] at h4
   split
   ·exact ⟨rfl,h4,h6⟩
   ·rename_i hb
    simp only [Bool.not_eq_true] at hb
    rw [hb,Bool.false_or] at h5
    exact ⟨h5,h4,h6⟩
 | call p xs =>
  simp only [z0h,z0y] at *
  obtain ⟨h2,h3,h4,h5,h6⟩:=h
  rw [z1s.1 h2]
  refine ⟨h3,?_⟩
  generalize z1p p (z17 σ (xs.map σ.get)) = r at h4 h5 h6
  have hres:∀ b,(if b = true then σ.made d r none else (σ.fzs []).made d r none) = σ.made d r none:=fun b=>by cases b <;> rfl
  cases r with
  | own z ty l=>exact ⟨by simpa [AV.flatB] using h5,z30 (by simpa [z1w] using h4),h6⟩
  | _ =>
   simp only [z1f]
   simp only [zda,hres] at h6
   simp only [z1w] at h4
   split
   ·exact ⟨rfl,h4,h6⟩
   ·rename_i hb
    simp only [Bool.not_eq_true] at hb
    rw [hb,Bool.false_or] at h5
    exact ⟨h5,h4,h6⟩
 | store z p x=>simp only [z0h,okV,false_and] at h
 | append z ty b x y=>simp only [z0h,okV,false_and] at h
 | nileq neq x=>simp only [z0h,okV,false_and] at h
 | storep z p x=>simp only [z0h,okV,false_and] at h
 | copy z x y=>simp only [z0h,okV,false_and] at h
 | _=>exact y7v (K:=fun v fz=>fz.all F0.contains = true∧z11 hid v = true∧R (σ.made d v none) K) ⟨h.1,h.2.2.1,h.2.1,h.2.2.2⟩
theorem z1t {C:FuncId->List AV->AV->Prop} {F0:List Nat} {tl:List ROp}:∀ {l:List ROp} {σ:St} {K:St->Prop},z08 C F0 tl l σ K->z0q C F0 l σ fun σ=>z0j C tl σ K
 | [],σ,K,h=>z10 h
 | ⟨io,some d,none,hid,wr⟩ :: l,σ,K,h=>by
  simp only [z08] at h
  simp only [z0q,z1i]
  exact z3o (fun v s fz hk=>⟨hk.1,hk.2.1,z1t hk.2.2⟩) (y7l h)
 | ⟨io,none,none,hid,wr⟩ :: l,σ,K,h=>by
  cases io <;> simp only [z08] at h <;> try exact h.elim
  simp only [z0q,z1i]
  exact zpv (fun r a hk=>z1t hk) (run_storeH (K:=fun σ=>z08 C F0 tl l σ K) h)
 | ⟨io,some d,some (t,w),hid,wr⟩ :: l,σ,K,h=>by
  simp only [z08] at h
  obtain ⟨h1,h2,h3⟩:=h
  simp only [z0q,z1i]
  rcases zdn h1 with ⟨b,e⟩ | e
  ·rw [e] at h2 h3
   rw [e]
   refine ⟨fun hb=>?_,fun hb=>?_⟩
   ·subst hb
    exact z3o (fun v s fz hk=>⟨hk.1,hk.2.1,z1t hk.2.2⟩) (y7l (h2 (by cases b <;> rfl)))
   ·subst hb
    have h:=h3 (by cases w <;> rfl)
    simp only [AV.isB,if_true] at h
    exact z1t h
  ·rw [e] at h3
   rw [e]
   have h:=h3 (by cases w <;> rfl)
   simp only [AV.isB,Bool.false_eq_true,if_false] at h
   exact z1t h
 | ⟨io,none,some g,hid,wr⟩ :: l,σ,K,h=>by simp only [z08] at h
def z0l (C:FuncId->List AV->AV->Prop) (g:Reg) (σ:St) (K:St->Prop):Prop :=
 match g.draw with
 | true=>z08 C (g.fzT.filterMap fun t=>((σ.kills g.kills).T t).name) g.tail g.head ((σ.kills g.kills).fzs (g.fzT.filterMap fun t=>((σ.kills g.kills).T t).name)) K
 | false=>z0e C g.tail (σ.kills g.kills) K
theorem zta {C:FuncId->List AV->AV->Prop} {g:Reg} {σ:St} {K:St->Prop} (h:z0l C g σ K):z3y C g σ K:=by
 unfold z0l at h
 unfold z3y
 split at h
 ·rename_i e; rw [if_pos e]; exact z1t h
 ·rename_i e; rw [if_neg (by rw [e]; simp)]; exact z10 h
def ckOk (σ:St):AV->Prop
 | .ptr r _ _=>(σ.H r).isSome = true
 | .rp _=>True
 | _=>False
def cloOk (σ:St):AV->Prop
 | .ptr r 0 0=>(σ.H r).isSome = true
 | _=>False
def ptrAt:AV->Nat
 | .ptr r _ _=>r
 | _=>0
def mOk (σ:St):AV->Prop
 | .ptr _ _ _=>True
 | v=>byOk [] σ v
def mVal (σ:St):AV->AV
 | .ptr r i f=>.ptr r i f
 | v=>z1l σ v
def mFz:AV->List Nat
 | .ptr _ _ _=>[]
 | v=>byFz v
theorem mval_ok {σ:St} {v:AV} (h:mOk σ v):σ.mval v = some (mVal σ v,mFz v):=by
 cases v with
 | und=>exact h.elim
 | own z ty l=>exact h.elim
 | clom f r=>exact h.elim
 | mp r es=>exact h.elim
 | vrs r o l u=>exact h.elim
 | rs r o l =>
  have h':byOk [] σ (.rs r o l):=h
  exact z49.1 h'
 | _=>rfl
def mOks (σ:St):List AV->Prop
 | []=>True
 | v :: l=>mOk σ v∧mOks σ l
def y1l (σ:St):List AV->List AV
 | []=>[]
 | v :: l=>mVal σ v :: y1l σ l
def mFzs:List AV->List Nat
 | []=>[]
 | v :: l=>mFz v ++ mFzs l
theorem y6p {σ:St}:∀ {l:List AV},mOks σ l->σ.mvals l = some (y1l σ l,mFzs l)
 | [],_=>rfl
 | v :: l,h=>by
  simp only [St.mvals,mval_ok h.1,y6p h.2,y1l,mFzs]
def zxx (σ:St):AV->Prop
 | .clo _ [] []=>True
 | .clom _ q=>(σ.H q).isSome = true
 | _=>False
def mFn:AV->FuncId
 | .clo f _ _=>f
 | .clom f _=>f
 | _=>0
def mArgs (ds:List AV):AV->List AV
 | .clom _ q=>ds ++ [.ptr q 0 0]
 | _=>ds
def z4b (P:Program) (f:FuncId) (args:List AV) (T:Nat->AV) (H:Nat->Option Arr) (d:Nat) (R:St->(St->Prop)->Prop) (K:St->Prop):Prop:=∃ r H',MFn P f args H r H'∧R ⟨upd T d r,H'⟩ K
theorem zrw {P:Program} {f:FuncId} {args:List AV} {T:Nat->AV} {H:Nat->Option Arr} {d:Nat} {R:St->(St->Prop)->Prop} {K:St->Prop} {r:AV} {H':Nat->Option Arr} (h:MFn P f args H r H') (hk:R ⟨upd T d r,H'⟩ K):z4b P f args T H d R K:=⟨r,H',h,hk⟩
def z07 (σ:St):AV->Prop
 | .mp r _=>(σ.H r).isSome = true
 | .mv _=>True
 | _=>False
def ents:AV->List (Int × AV)
 | .mp _ es=>es
 | .mv es=>es
 | _=>[]
def kI:AV->Bool
 | .int .i64 _=>true
 | _=>false
def mpOk (σ:St):AV->Prop
 | .mp r _=>r < 1000∧(σ.H r).isSome = true
 | _=>False
def mpR:AV->Nat
 | .mp r _=>r
 | _=>0
def remT (r:Nat) (es:List (Int × AV)) (T:Nat->AV):Nat->AV:=fun t=>remp r es (T t)
theorem kI_of {v:AV} (h:kI v = true):∃ q,v = .int .i64 q:=by
 cases v with
 | int k q=>cases k <;> first | exact ⟨q,rfl⟩ | cases h
 | _=>cases h
theorem entOk_of {σ:St} {v:AV} (h:z07 σ v):y7x σ v = some (ents v):=by
 cases v with
 | mp r es=>exact if_pos h
 | mv es=>rfl
 | _=>exact h.elim
def wOk (σ:St):AV->Prop
 | .rs _ _ _=>True
 | v=>mOk σ v
def wVal (σ:St):AV->AV
 | .rs r off len=>.rs r off len
 | v=>mVal σ v
def wFz:AV->List Nat
 | .rs _ _ _=>[]
 | v=>mFz v
theorem wval_ok {σ:St} {v:AV} (h:wOk σ v):σ.wval v = some (wVal σ v,wFz v):=by
 cases v with
 | rs r off len=>rfl
 | _ =>
  simp only [wOk] at h
  simp only [St.wval,wVal,wFz]
  exact mval_ok h
def wOks (σ:St):List AV->Prop
 | []=>True
 | v :: l=>wOk σ v∧wOks σ l
def zqa (σ:St):List AV->List AV
 | []=>[]
 | v :: l=>wVal σ v :: zqa σ l
def wFzs:List AV->List Nat
 | []=>[]
 | v :: l=>wFz v ++ wFzs l
theorem y3y {σ:St}:∀ {l:List AV},wOks σ l->σ.wvals l = some (zqa σ l,wFzs l)
 | [],_=>rfl
 | v :: l,h=>by
  simp only [St.wvals,wval_ok h.1,y3y h.2,zqa,wFzs]
def y40:AV->Prop
 | .clo _ [] []=>True
 | _=>False
def clR:AV->Nat
 | .clom _ r=>r
 | _=>0
def gCalOk:AV->Prop
 | .clom _ r=>r < 500∨r = 1000
 | _=>False
def GCalling (P:Program) (f:FuncId) (r:Nat) (ds:List AV) (d:Nat) (σ:St) (R:St->(St->Prop)->Prop) (K:St->Prop):Prop:=∃ S res Rl,GFn P f (ds ++ [.ptr 1000 0 0]) S res Rl∧gsIn σ.T σ.H r S∧∀ S',Rl S'->R ⟨upd (zq7 σ r S').T d res,(zq7 σ r S').H⟩ K
def runX (P:Program) (C:FuncId->List AV->AV->Prop):XOp->St->(St->Prop)->Prop
 | .op k r,σ,K=>z0e C [r] (σ.kills k) K
 | .nilck d x none,σ,K=>ckOk σ (σ.get x)∧K (σ.set d (σ.get x))
 | .nilck d x (some (t,w)),σ,K=>gB (σ.T t) = true∧(gIs w (σ.T t) = true->ckOk (σ.set t (.bool w)) ((σ.set t (.bool w)).get x)∧K ((σ.set t (.bool w)).set d ((σ.set t (.bool w)).get x))) ∧
   (gIs w (σ.T t) = false->K ((if (σ.T t).isB then σ.set t (.bool (!w)) else σ).set d (.tup [])))
 | .mkclo d f x,σ,K=>cloOk σ (σ.get x)∧K (σ.set d (.clom f (ptrAt (σ.get x))))
 | .mcall d fx xs,σ,K=>mOks σ (xs.map σ.get)∧zxx (σ.fzs (mFzs (xs.map σ.get))) (σ.get fx)∧z4b P (mFn (σ.get fx)) (mArgs (y1l σ (xs.map σ.get)) (σ.get fx)) σ.T (σ.fzs (mFzs (xs.map σ.get))).H d (fun σ K=>K σ) K
 | .mkmap d ty,σ,K=>K ((σ.kill d).made d (.mp d []) (some ⟨1,ty,[],0⟩))
 | .mlook d ok m k z none,σ,K=>z07 σ (σ.get m)∧kI (σ.get k) = true∧K (σ.set d (lkV ok z (lkp (ents (σ.get m)) (σ.get k).iv)))
 | .mlook d ok m k z (some (t,w)),σ,K=>gB (σ.T t) = true∧(gIs w (σ.T t) = true->z07 (σ.set t (.bool w)) ((σ.set t (.bool w)).get m)∧kI ((σ.set t (.bool w)).get k) = true ∧
   K ((σ.set t (.bool w)).set d (lkV ok z (lkp (ents ((σ.set t (.bool w)).get m)) ((σ.set t (.bool w)).get k).iv))))∧(gIs w (σ.T t) = false->K ((if (σ.T t).isB then σ.set t (.bool (!w)) else σ).set d (.tup [])))
 | .mupd m k x,σ,K=>mpOk σ (σ.get m)∧kI (σ.get k) = true∧byOk [] σ (σ.get x)∧K ⟨remT (mpR (σ.get m)) (upk (ents (σ.get m)) (σ.get k).iv (z1l σ (σ.get x))) σ.T,(σ.fzs (byFz (σ.get x))).H⟩
 | .wcall d fx xs,σ,K=>wOks σ (xs.map σ.get)∧y40 (σ.get fx)∧z4b P (mFn (σ.get fx)) (zqa σ (xs.map σ.get)) σ.T (σ.fzs (wFzs (xs.map σ.get))).H d (fun σ K=>K σ) K
 | .gcall d fx xs,σ,K=>z6b [] σ (xs.map σ.get)∧gCalOk (σ.get fx)∧GCalling P (mFn (σ.get fx)) (clR (σ.get fx)) (z17 σ (xs.map σ.get)) d (σ.fzs (z8k (xs.map σ.get))) (fun σ K=>K σ) K
def z0n (P:Program) (C:FuncId->List AV->AV->Prop):List XOp->St->(St->Prop)->Prop
 | [],σ,K=>K σ
 | x :: l,σ,K=>runX P C x σ fun σ'=>z0n P C l σ' K
theorem runX_ok {P:Program} {C:FuncId->List AV->AV->Prop} {x:XOp} {σ:St} {K:St->Prop} (h:runX P C x σ K):z1k P C x σ K:=by
 cases x with
 | op k r=>exact z10 h
 | nilck d x g =>
  have key:∀ {σ:St},ckOk σ (σ.get x)∧K (σ.set d (σ.get x))->zpa σ d x K:=by
   intro σ h
   unfold zpa
   cases hx:σ.get x <;> rw [hx] at h <;> simp only [ckOk,false_and,true_and] at h
   ·exact h
   ·exact h
  cases g with
  | none=>exact key h
  | some g =>
   obtain ⟨t,w⟩:=g
   simp only [runX] at h
   obtain ⟨h1,h2,h3⟩:=h
   simp only [z1k,z1i]
   rcases zdn h1 with ⟨b,e⟩ | e
   ·rw [e] at h2 h3
    rw [e]
    refine ⟨fun hb=>?_,fun hb=>?_⟩
    ·subst hb
     exact key (h2 (by cases b <;> rfl))
    ·subst hb
     have h:=h3 (by cases w <;> rfl)
     simp only [AV.isB,if_true] at h
     exact h
   ·rw [e] at h3
    rw [e]
    have h:=h3 (by cases w <;> rfl)
    simp only [AV.isB,Bool.false_eq_true,if_false] at h
    exact h
 | mkclo d f x =>
  simp only [runX] at h
  simp only [z1k]
  cases hx:σ.get x <;> rw [hx] at h <;> try exact h.1.elim
  rename_i r i f'
  cases i with
  | succ i=>exact h.1.elim
  | zero =>
   cases f' with
   | succ f'=>exact h.1.elim
   | zero=>exact h
 | mcall d fx xs =>
  simp only [runX] at h
  obtain ⟨h1,h2,r,H',h3,h4⟩:=h
  simp only [z1k]
  rw [y6p h1]
  cases hf:σ.get fx <;> rw [hf] at h2 h3 <;> try exact h2.elim
  ·rename_i f first caps
   cases first with
   | cons a l=>exact h2.elim
   | nil =>
    cases caps with
    | cons a l=>exact h2.elim
    | nil=>exact ⟨r,H',h3,h4⟩
  ·exact ⟨h2,r,H',h3,h4⟩
 | mkmap d ty=>exact h
 | mlook d ok m k z g =>
  have key:∀ {σ:St},z07 σ (σ.get m)∧kI (σ.get k) = true∧K (σ.set d (lkV ok z (lkp (ents (σ.get m)) (σ.get k).iv)))->zpc σ d ok m k z K:=by
   intro σ h
   obtain ⟨h1,h2,h3⟩:=h
   unfold zpc
   obtain ⟨q,hq⟩:=kI_of h2
   rw [entOk_of h1,hq]
   rw [hq] at h3
   exact h3
  cases g with
  | none=>exact key h
  | some g =>
   obtain ⟨t,w⟩:=g
   simp only [runX] at h
   obtain ⟨h1,h2,h3⟩:=h
   simp only [z1k,z1i]
   rcases zdn h1 with ⟨b,e⟩ | e
   ·rw [e] at h2 h3
    rw [e]
    refine ⟨fun hb=>?_,fun hb=>?_⟩
    ·subst hb
     exact key (h2 (by cases b <;> rfl))
    ·subst hb
     have h:=h3 (by cases w <;> rfl)
     simp only [AV.isB,if_true] at h
     exact h
   ·rw [e] at h3
    rw [e]
    have h:=h3 (by cases w <;> rfl)
    simp only [AV.isB,Bool.false_eq_true,if_false] at h
    exact h
 | mupd m k x =>
  simp only [runX] at h
  obtain ⟨h1,h2,h3,h4⟩:=h
  simp only [z1k]
  unfold ziw
  obtain ⟨q,hq⟩:=kI_of h2
  rw [z49.1 h3,hq]
  rw [hq] at h4
  cases hm:σ.get m <;> rw [hm] at h1 h4 <;> try exact h1.elim
  exact ⟨h1.1,h1.2,h4⟩
 | wcall d fx xs =>
  simp only [runX] at h
  obtain ⟨h1,h2,r,H',h3,h4⟩:=h
  simp only [z1k]
  rw [y3y h1]
  cases hf:σ.get fx <;> rw [hf] at h2 h3 <;> try exact h2.elim
  rename_i f first caps
  cases first with
  | cons a l=>exact h2.elim
  | nil =>
   cases caps with
   | cons a l=>exact h2.elim
   | nil=>exact ⟨r,H',h3,h4⟩
 | gcall d fx xs =>
  simp only [runX] at h
  obtain ⟨h1,h2,S,res,Rl,h3,h4,h5⟩:=h
  simp only [z1k]
  rw [z1s.1 h1]
  cases hf:σ.get fx <;> rw [hf] at h2 h3 h4 h5 <;> try exact h2.elim
  exact ⟨h2,S,res,Rl,h3,h4,h5⟩
theorem z8w {P:Program} {C:FuncId->List AV->AV->Prop}:∀ {l:List XOp} {σ:St} {K:St->Prop},z0n P C l σ K->z12 P C l σ K
 | [],σ,K,h=>h
 | x :: l,σ,K,h=>zpu (fun σ=>z8w) (runX_ok h)
def isPtrR:AV->Nat->Prop
 | .ptr r _ _,s=>r = s
 | _,_=>False
def isRsR:AV->Nat->Prop
 | .rs r _ _,s=>r = s
 | _,_=>False
def nmB (v:AV):Bool:=v.name.isSome
def nmD (v:AV):Nat:=v.name.getD 0
def y0u (C:FuncId->List AV->AV->Prop) (g:Reg) (s:Nat) (σ:St) (K:St->Prop):Prop :=
 nmB (σ.T s) = true∧1000≤nmD (σ.T s)∧z0l C (g.ren s (nmD (σ.T s))) σ K
theorem runRegW_ok {C:FuncId->List AV->AV->Prop} {g:Reg} {s:Nat} {σ:St} {K:St->Prop} (h:y0u C g s σ K):z6o C g s σ K:=by
 unfold y0u nmB nmD at h
 unfold z6o
 cases hn:(σ.T s).name with
 | none=>rw [hn] at h; cases h.1
 | some q =>
  rw [hn] at h
  exact ⟨h.2.1,zta h.2.2⟩
def zg4 (P:Program) (C:FuncId->List AV->AV->Prop) (g:Reg) (l:List XOp) (σ:St) (K:St->Prop):Prop :=
 z08 C (g.fzT.filterMap fun t=>((σ.kills g.kills).T t).name) [] g.head ((σ.kills g.kills).fzs (g.fzT.filterMap fun t=>((σ.kills g.kills).T t).name)) fun σ=>z0n P C l σ K
theorem runRegD_ok {P:Program} {C:FuncId->List AV->AV->Prop} {g:Reg} {l:List XOp} {σ:St} {K:St->Prop} (h:zg4 P C g l σ K):z95 P C g l σ K :=
 z0i (fun σ hk=>z8w (by simpa only [z0j] using hk)) (z1t h)
def stpSrc (tp tv s0:Nat) (σ:St):Prop:=isPtrR (σ.T tp) s0∧isRsR (σ.T tv) tv
def y0v (P:Program) (C:FuncId->List AV->AV->Prop) (g:Reg) (z s0 tp tv:Nat) (l:List XOp) (σ:St) (K:St->Prop):Prop :=
 z08 C [] [] g.head (σ.kills g.kills) fun σ=>stpSrc tp tv s0 σ∧z0n P C (.op [] ⟨.storep z (.t tp) (.t tv),none,none,[],[]⟩ :: l) σ K
theorem runRegP_ok {P:Program} {C:FuncId->List AV->AV->Prop} {g:Reg} {z s0 tp tv:Nat} {l:List XOp} {σ:St} {K:St->Prop} (h:y0v P C g z s0 tp tv l σ K):z94 P C g z s0 tp tv l σ K:=by
 refine z0i (fun σ hk=>?_) (z1t h)
 have hk:stpSrc tp tv s0 σ∧z0n P C (.op [] ⟨.storep z (.t tp) (.t tv),none,none,[],[]⟩ :: l) σ K:=by simpa only [z0j] using hk
 obtain ⟨⟨h1,h2⟩,hk⟩:=hk
 have hx:=z8w hk
 simp only [z12,z1k,z0j,z1i,z8r,IOp.isMut,if_true,St.kills] at hx
 unfold zjt
 cases hp:σ.T tp <;> rw [hp] at h1 <;> try exact h1.elim
 cases hv:σ.T tv <;> rw [hv] at h2 <;> try exact h2.elim
 exact ⟨h1,h2,hx⟩
def zrk (P:Program) (C:FuncId->List AV->AV->Prop) (g:Reg) (lt:List Nat) (mo ko vo:IOpd) (l:List XOp) (σ:St) (K:St->Prop):Prop :=
 z08 C [] [] g.head σ fun σ=>zdb lt σ∧(σ.get vo).byFree = true∧z0n P C (.mupd mo ko vo :: l) σ K
theorem runRegM_ok {P:Program} {C:FuncId->List AV->AV->Prop} {g:Reg} {lt:List Nat} {mo ko vo:IOpd} {l:List XOp} {σ:St} {K:St->Prop} (h:zrk P C g lt mo ko vo l σ K):zdr P C g lt mo ko vo l σ K:=by
 refine z0i (fun σ hk=>?_) (z1t h)
 have hk:zdb lt σ∧(σ.get vo).byFree = true∧z0n P C (.mupd mo ko vo :: l) σ K:=by simpa only [z0j] using hk
 exact ⟨hk.1,hk.2.1,z8w hk.2.2⟩
def run (C:FuncId->List AV->AV->Prop):IR->(XK->St->Prop)->St->Prop
 | .gini l,Q,σ=>z93 l σ (Q .normal)
 | .skip,Q,σ=>Q .normal σ
 | .reg g,Q,σ=>z0l C g σ (Q .normal)
 | .regw g s,Q,σ=>y0u C g s σ (Q .normal)
 | .regd P g l,Q,σ=>zg4 P C g l σ (Q .normal)
 | .regp P g z s0 tp tv l,Q,σ=>y0v P C g z s0 tp tv l σ (Q .normal)
 | .regm P g lt mo ko vo l,Q,σ=>zrk P C g lt mo ko vo l σ (Q .normal)
 | .regx P l,Q,σ=>z0n P C l σ (Q .normal)
 | .seq x y,Q,σ=>run C x (z2h (run C y Q) Q) σ
 | .cond c x y,Q,σ=>(σ.get c).isB = true∧((σ.get c).bv = true->run C x Q σ)∧((σ.get c).bv = false->run C y Q σ)
 | .block id b,Q,σ=>run C b (z5c id Q) σ
 | .loop b,Q,σ=>awp C (.loop b) Q σ
 | .exit id,Q,σ=>Q (.exit id) σ
 | .ret,Q,σ=>Q .ret σ
theorem z09 {C:FuncId->List AV->AV->Prop}:∀ {c:IR} {Q:XK->St->Prop} {σ:St},run C c Q σ->awp C c Q σ
 | .gini l,Q,σ,h=>h
 | .skip,Q,σ,h=>h
 | .reg g,Q,σ,h=>zta h
 | .regw g s,Q,σ,h=>runRegW_ok h
 | .regd P g l,Q,σ,h=>runRegD_ok h
 | .regp P g z s0 tp tv l,Q,σ,h=>runRegP_ok h
 | .regm P g lt mo ko vo l,Q,σ,h=>runRegM_ok h
 | .regx P l,Q,σ,h=>z8w h
 | .seq x y,Q,σ,h=>by
  simp only [run] at h
  simp only [awp]
  refine z3k x (fun e σ' hq=>?_) σ (z09 h)
  cases e with
  | normal=>exact z09 hq
  | exit id=>exact hq
  | ret=>exact hq
 | .cond c x y,Q,σ,h=>by
  simp only [run] at h
  simp only [awp]
  cases hc:σ.get c <;> rw [hc] at h <;> simp only [AV.isB,AV.bv,Bool.false_eq_true,false_and] at h
  exact ⟨fun e=>z09 (h.2.1 e),fun e=>z09 (h.2.2 e)⟩
 | .block id b,Q,σ,h=>z09 (c:=b) h
 | .loop b,Q,σ,h=>h
 | .exit id,Q,σ,h=>h
 | .ret,Q,σ,h=>h
theorem z06 {C:FuncId->List AV->AV->Prop} {b:IR} {Q:XK->St->Prop} (I:Nat->St->Prop) {σ:St} {k:Nat} (h0:I k σ)
  (hstep:∀ k σ,I k σ->run C b (z2h (fun σ'=>∃ m,m < k∧I m σ') Q) σ):awp C (.loop b) Q σ :=
 loop_inv I h0 fun k σ h=>z09 (hstep k σ h)
def AV.isSl:AV->Bool | .sl _=>true | _=>false
def zxo:Option Arr->Nat | some a=>a.ty | none=>0
theorem apOk_rs (σ:St) (z ty bytes:Nat) (v:AV) (r off len:Nat):apOk σ z ty bytes v (.rs r off len) = (byOk [] σ v∧(z1l σ v).isSl = true∧(σ.H r).isSome = true∧objZ (σ.H r) = z∧zxo (σ.H r) = ty∧z1q ((σ.fzs (byFz v)).H r)≤off + len∧fitsV (len + (slOf (z1l σ v)).length) bytes∧r < 1000∧∀ d,d ∈ slOf (z1l σ v)->d.cells.length = z∧d.cells.all AV.one = true):=by
 have ht:apOk.objTy (σ.H r) = zxo (σ.H r):=by cases σ.H r <;> rfl
 apply propext
 simp only [apOk,ht]
 constructor
 ·rintro ⟨h1,l,h2,h3⟩
  rw [h2]
  exact ⟨h1,rfl,h3⟩
 ·rintro ⟨h1,h2,h3⟩
  refine ⟨h1,slOf (z1l σ v),?_,h3⟩
  cases hv:z1l σ v <;> rw [hv] at h2 <;> first | rfl | cases h2
theorem z4m (b:Bool) (X Y:Prop):(if b = true then X else Y) = ((b = true->X)∧(b = false->Y)):=by
 cases b <;> simp
theorem y1p (b:Bool) [inst:Decidable (b = false)] (X Y:Prop):(if b = false then X else Y) = ((b = false->X)∧(b = true->Y)):=by
 cases b <;> simp
theorem ite_branch (b:Bool) [inst:Decidable (b = true)] (X Y:Prop):(if b = true then X else Y) = ((b = true->X)∧(b = false->Y)):=by
 cases b <;> simp
theorem set_T (σ:St) (t s:Nat) (v:AV):(σ.set t v).T s = if s = t then v else σ.T s:=rfl
theorem set_H (σ:St) (t:Nat) (v:AV):(σ.set t v).H = σ.H:=rfl
theorem made_T (σ:St) (t s:Nat) (v:AV) (o:Option Arr):(σ.made t v o).T s = if s = t then v else σ.T s:=rfl
theorem y1k (σ:St) (t s:Nat) (v:AV):(σ.made t v none).H s = σ.H s:=rfl
theorem y1j (σ:St) (t s:Nat) (v:AV) (arr:Arr):(σ.made t v (some arr)).H s = if s = t then some arr else σ.H s:=rfl
theorem upd_at {α:Type} (f:Nat->α) (r s:Nat) (x:α):upd f r x s = if s = r then x else f s:=rfl
theorem sweep_at (T:Nat->AV) (r t:Nat):z8q T r t = if (T t).name = some r then .und else T t:=rfl
def keepS (σ:St):AV->AV
 | .rs r off len=>if (σ.H r).isSome = true then .sl (((z0a (σ.H r)).drop off).take len) else .und
 | _=>.und
theorem keepS_ok (σ:St) (v:AV):keepV σ.H v = keepS σ v:=by
 cases v with
 | rs r off len =>
  simp only [keepV,keepS]
  cases σ.H r <;> rfl
 | _=>rfl
theorem kill_T (σ:St) (r t:Nat):(σ.kill r).T t = if (σ.T t).name = some r then keepS σ (σ.T t) else σ.T t:=by
 rw [← keepS_ok]; rfl
theorem kill_H (σ:St) (r s:Nat):(σ.kill r).H s = if s = r then none else σ.H s:=rfl
theorem kills_nil (σ:St):σ.kills [] = σ:=rfl
theorem kills_cons (σ:St) (r:Nat) (l:List Nat):σ.kills (r :: l) = (σ.kill r).kills l:=rfl
theorem fz_T' (σ:St) (r t:Nat):(σ.fz r).T t = σ.T t:=rfl
theorem fz_H' (σ:St) (r s:Nat):(σ.fz r).H s = if s = r then (σ.H r).map Arr.freeze else σ.H s:=rfl
theorem fzs_nil (σ:St):σ.fzs [] = σ:=rfl
theorem fzs_cons (σ:St) (r:Nat) (l:List Nat):σ.fzs (r :: l) = (σ.fz r).fzs l:=rfl
theorem init_T (args:List AV) (t:Nat):(z0b args).T t = args.getD t .und:=rfl
theorem init_H (args:List AV) (t:Nat):(z0b args).H t = none:=rfl
theorem get_t (σ:St) (t:Nat):σ.get (.t t) = σ.T t:=rfl
theorem get_c (σ:St) (v:AV):σ.get (.c v) = v:=rfl
theorem freeze_mk (z ty:Nat) (l:List AV) (p:Nat):Arr.freeze ⟨z,ty,l,p⟩ = ⟨z,ty,l,l.length⟩:=rfl
theorem zsv (K:St->Prop) (Q:XK->St->Prop) (σ:St):z2h K Q .normal σ = K σ:=rfl
theorem thenQ_exit (K:St->Prop) (Q:XK->St->Prop) (i:Nat) (σ:St):z2h K Q (.exit i) σ = Q (.exit i) σ:=rfl
theorem thenQ_ret (K:St->Prop) (Q:XK->St->Prop) (σ:St):z2h K Q .ret σ = Q .ret σ:=rfl
theorem zsi (i:Nat) (Q:XK->St->Prop) (σ:St):z5c i Q .normal σ = Q .normal σ:=rfl
theorem blockQ_ret (i:Nat) (Q:XK->St->Prop) (σ:St):z5c i Q .ret σ = Q .ret σ:=rfl
theorem y3s (i j:Nat) (Q:XK->St->Prop) (σ:St):z5c i Q (.exit j) σ = if j = i then Q .normal σ else Q (.exit j) σ:=rfl
theorem endQ_ret (ds:List RDesc) (r:AV) (σ:St):endQ ds r .ret σ = retV ds r σ:=rfl
theorem y22 (ds:List RDesc) (r:AV) (σ:St):endQ ds r .normal σ = retV ds r σ:=rfl
theorem z01 {C:FuncId->List AV->AV->Prop} {f:FuncId} {args:List AV} {hid:List Nat} {d:Nat} {fz:List Nat} {σ:St} {R:St->(St->Prop)->Prop} {K:St->Prop} {r:AV} (h:C f args r) (hk:z1w hid d r = true∧R (zda σ d fz r) K):y3x C f args hid d fz σ R K:=⟨r,h,hk⟩
theorem z00 {C:FuncId->List AV->AV->Prop} {F0:List Nat} {f:FuncId} {args:List AV} {hid:List Nat} {d:Nat} {fz:List Nat} {σ:St} {R:St->(St->Prop)->Prop} {K:St->Prop} {r:AV} (h:C f args r) (hk:z1w hid d r = true∧(r.flatB || fz.all F0.contains) = true∧R (zda σ d [] r) K):zsm C F0 f args hid d fz σ R K:=⟨r,h,hk⟩
theorem run_skip (C:FuncId->List AV->AV->Prop) (Q:XK->St->Prop) (σ:St):run C .skip Q σ = Q .normal σ:=rfl
theorem run_reg (C:FuncId->List AV->AV->Prop) (g:Reg) (Q:XK->St->Prop) (σ:St):run C (.reg g) Q σ = z0l C g σ (Q .normal):=rfl
theorem run_regw (C:FuncId->List AV->AV->Prop) (g:Reg) (s:Nat) (Q:XK->St->Prop) (σ:St):run C (.regw g s) Q σ = (nmB (σ.T s) = true∧1000≤nmD (σ.T s)∧z0l C (g.ren s (nmD (σ.T s))) σ (Q .normal)):=rfl
theorem run_regd (C:FuncId->List AV->AV->Prop) (P:Program) (g:Reg) (l:List XOp) (Q:XK->St->Prop) (σ:St):run C (.regd P g l) Q σ = zg4 P C g l σ (Q .normal):=rfl
theorem run_regm (C:FuncId->List AV->AV->Prop) (P:Program) (g:Reg) (lt:List Nat) (mo ko vo:IOpd) (l:List XOp) (Q:XK->St->Prop) (σ:St):run C (.regm P g lt mo ko vo l) Q σ = zrk P C g lt mo ko vo l σ (Q .normal):=rfl
theorem noMps_nil (σ:St):zdb [] σ = True:=rfl
theorem noMps_cons (t:Nat) (l:List Nat) (σ:St):zdb (t :: l) σ = ((σ.T t).isMp = false∧zdb l σ):=rfl
theorem run_seq (C:FuncId->List AV->AV->Prop) (x y:IR) (Q:XK->St->Prop) (σ:St):run C (.seq x y) Q σ = run C x (z2h (run C y Q) Q) σ:=rfl
theorem run_cond (C:FuncId->List AV->AV->Prop) (c:IOpd) (x y:IR) (Q:XK->St->Prop) (σ:St):run C (.cond c x y) Q σ = ((σ.get c).isB = true∧if (σ.get c).bv = true then run C x Q σ else run C y Q σ):=by
 rw [z4m]; rfl
theorem run_block (C:FuncId->List AV->AV->Prop) (id:Nat) (b:IR) (Q:XK->St->Prop) (σ:St):run C (.block id b) Q σ = run C b (z5c id Q) σ:=rfl
theorem run_loop' (C:FuncId->List AV->AV->Prop) (b:IR) (Q:XK->St->Prop) (σ:St):run C (.loop b) Q σ = awp C (.loop b) Q σ:=rfl
theorem run_exit (C:FuncId->List AV->AV->Prop) (id:Nat) (Q:XK->St->Prop) (σ:St):run C (.exit id) Q σ = Q (.exit id) σ:=rfl
theorem run_ret (C:FuncId->List AV->AV->Prop) (Q:XK->St->Prop) (σ:St):run C .ret Q σ = Q .ret σ:=rfl
theorem runOps_nil (C:FuncId->List AV->AV->Prop) (σ:St) (K:St->Prop):z0e C [] σ K = K σ:=rfl
theorem runOps_op (C:FuncId->List AV->AV->Prop) (io:IOp) (d:Nat) (hid wr:List Nat) (l:List ROp) (σ:St) (K:St->Prop):z0e C (⟨io,some d,none,hid,wr⟩ :: l) σ K = z18 C (z0e C l) K σ d hid io:=rfl
theorem runOps_st (C:FuncId->List AV->AV->Prop) (z:Nat) (p x:IOpd) (hid wr:List Nat) (l:List ROp) (σ:St) (K:St->Prop):z0e C (⟨.store z p x,none,none,hid,wr⟩ :: l) σ K = (stOk σ z (σ.get x) (σ.get p)∧z0e C l (stSt σ z (σ.get x) (σ.get p)) K):=rfl
theorem runOps_g (C:FuncId->List AV->AV->Prop) (io:IOp) (d t:Nat) (w:Bool) (hid wr:List Nat) (l:List ROp) (σ:St) (K:St->Prop):z0e C (⟨io,some d,some (t,w),hid,wr⟩ :: l) σ K = (gB (σ.T t) = true∧if gIs w (σ.T t) = true then z18 C (z0e C l) K (σ.set t (.bool w)) d hid io else z0e C l ((if (σ.T t).isB then σ.set t (.bool (!w)) else σ).set d (.tup [])) K):=by
 rw [z4m]; rfl
theorem y0w (C:FuncId->List AV->AV->Prop) (F0:List Nat) (tl:List ROp) (σ:St) (K:St->Prop):z08 C F0 tl [] σ K = z0e C tl σ K:=rfl
theorem runHead_op (C:FuncId->List AV->AV->Prop) (F0:List Nat) (tl:List ROp) (io:IOp) (d:Nat) (hid wr:List Nat) (l:List ROp) (σ:St) (K:St->Prop):z08 C F0 tl (⟨io,some d,none,hid,wr⟩ :: l) σ K = z0h C F0 (z08 C F0 tl l) K σ d hid io:=rfl
theorem runHead_st (C:FuncId->List AV->AV->Prop) (F0:List Nat) (tl:List ROp) (z:Nat) (p x:IOpd) (hid wr:List Nat) (l:List ROp) (σ:St) (K:St->Prop):z08 C F0 tl (⟨.store z p x,none,none,hid,wr⟩ :: l) σ K = (y0m F0 hid wr σ z (σ.get x) (σ.get p)∧z08 C F0 tl l (y0l σ z (σ.get x) (σ.get p)) K):=rfl
theorem runHead_g (C:FuncId->List AV->AV->Prop) (F0:List Nat) (tl:List ROp) (io:IOp) (d t:Nat) (w:Bool) (hid wr:List Nat) (l:List ROp) (σ:St) (K:St->Prop):z08 C F0 tl (⟨io,some d,some (t,w),hid,wr⟩ :: l) σ K = (gB (σ.T t) = true∧if gIs w (σ.T t) = true then z0h C F0 (z08 C F0 tl l) K (σ.set t (.bool w)) d hid io else z08 C F0 tl l ((if (σ.T t).isB then σ.set t (.bool (!w)) else σ).set d (.tup [])) K):=by
 rw [z4m]; rfl
theorem y1e {hid:List Nat} {v:AV} (h:v.name = none):z11 hid v = true:=by unfold z11; rw [h]
theorem y1d (hid:List Nat) (r i f:Nat):z11 hid (.ptr r i f) = !hid.contains r:=rfl
theorem nameOk_rs' (hid:List Nat) (r i f:Nat):z11 hid (.rs r i f) = !hid.contains r:=rfl
theorem run_regx (C:FuncId->List AV->AV->Prop) (P:Program) (l:List XOp) (Q:XK->St->Prop) (σ:St):run C (.regx P l) Q σ = z0n P C l σ (Q .normal):=rfl
theorem runXs_nil (P:Program) (C:FuncId->List AV->AV->Prop) (σ:St) (K:St->Prop):z0n P C [] σ K = K σ:=rfl
theorem runXs_op (P:Program) (C:FuncId->List AV->AV->Prop) (k:List Nat) (r:ROp) (l:List XOp) (σ:St) (K:St->Prop):z0n P C (.op k r :: l) σ K = z0e C [r] (σ.kills k) fun σ'=>z0n P C l σ' K:=rfl
theorem y0p (P:Program) (C:FuncId->List AV->AV->Prop) (d:Nat) (x:IOpd) (l:List XOp) (σ:St) (K:St->Prop):z0n P C (.nilck d x none :: l) σ K = (ckOk σ (σ.get x)∧z0n P C l (σ.set d (σ.get x)) K):=rfl
theorem zt8 (P:Program) (C:FuncId->List AV->AV->Prop) (d:Nat) (x:IOpd) (t:Nat) (w:Bool) (l:List XOp) (σ:St) (K:St->Prop):z0n P C (.nilck d x (some (t,w)) :: l) σ K = (gB (σ.T t) = true∧if gIs w (σ.T t) = true then ckOk (σ.set t (.bool w)) ((σ.set t (.bool w)).get x)∧z0n P C l ((σ.set t (.bool w)).set d ((σ.set t (.bool w)).get x)) K else z0n P C l ((if (σ.T t).isB then σ.set t (.bool (!w)) else σ).set d (.tup [])) K):=by
 rw [z4m]; rfl
theorem y0s (P:Program) (C:FuncId->List AV->AV->Prop) (d:Nat) (f:FuncId) (x:IOpd) (l:List XOp) (σ:St) (K:St->Prop):z0n P C (.mkclo d f x :: l) σ K = (cloOk σ (σ.get x)∧z0n P C l (σ.set d (.clom f (ptrAt (σ.get x)))) K):=rfl
theorem y0t (P:Program) (C:FuncId->List AV->AV->Prop) (d:Nat) (fx:IOpd) (xs:List IOpd) (l:List XOp) (σ:St) (K:St->Prop):z0n P C (.mcall d fx xs :: l) σ K = (mOks σ (xs.map σ.get)∧zxx (σ.fzs (mFzs (xs.map σ.get))) (σ.get fx)∧z4b P (mFn (σ.get fx)) (mArgs (y1l σ (xs.map σ.get)) (σ.get fx)) σ.T (σ.fzs (mFzs (xs.map σ.get))).H d (z0n P C l) K):=rfl
theorem y0o (P:Program) (C:FuncId->List AV->AV->Prop) (d:Nat) (fx:IOpd) (xs:List IOpd) (l:List XOp) (σ:St) (K:St->Prop):z0n P C (.wcall d fx xs :: l) σ K = (wOks σ (xs.map σ.get)∧y40 (σ.get fx)∧z4b P (mFn (σ.get fx)) (zqa σ (xs.map σ.get)) σ.T (σ.fzs (wFzs (xs.map σ.get))).H d (z0n P C l) K):=rfl
theorem y0r (P:Program) (C:FuncId->List AV->AV->Prop) (d:Nat) (ty:TypeId) (l:List XOp) (σ:St) (K:St->Prop):z0n P C (.mkmap d ty :: l) σ K = z0n P C l ((σ.kill d).made d (.mp d []) (some ⟨1,ty,[],0⟩)) K:=rfl
theorem y0q (P:Program) (C:FuncId->List AV->AV->Prop) (d:Nat) (ok:Bool) (m k:IOpd) (z:AV) (l:List XOp) (σ:St) (K:St->Prop):z0n P C (.mlook d ok m k z none :: l) σ K = (z07 σ (σ.get m)∧kI (σ.get k) = true∧z0n P C l (σ.set d (lkV ok z (lkp (ents (σ.get m)) (σ.get k).iv))) K):=rfl
theorem zt9 (P:Program) (C:FuncId->List AV->AV->Prop) (d:Nat) (ok:Bool) (m k:IOpd) (z:AV) (t:Nat) (w:Bool) (l:List XOp) (σ:St) (K:St->Prop):z0n P C (.mlook d ok m k z (some (t,w)) :: l) σ K = (gB (σ.T t) = true∧if gIs w (σ.T t) = true then z07 (σ.set t (.bool w)) ((σ.set t (.bool w)).get m)∧kI ((σ.set t (.bool w)).get k) = true∧z0n P C l ((σ.set t (.bool w)).set d (lkV ok z (lkp (ents ((σ.set t (.bool w)).get m)) ((σ.set t (.bool w)).get k).iv))) K else z0n P C l ((if (σ.T t).isB then σ.set t (.bool (!w)) else σ).set d (.tup [])) K):=by
 rw [z4m]; rfl
theorem runXs_mupd (P:Program) (C:FuncId->List AV->AV->Prop) (m k x:IOpd) (l:List XOp) (σ:St) (K:St->Prop):z0n P C (.mupd m k x :: l) σ K = (mpOk σ (σ.get m)∧kI (σ.get k) = true∧byOk [] σ (σ.get x)∧z0n P C l ⟨remT (mpR (σ.get m)) (upk (ents (σ.get m)) (σ.get k).iv (z1l σ (σ.get x))) σ.T,(σ.fzs (byFz (σ.get x))).H⟩ K):=rfl
theorem nameOk_mp (hid:List Nat) (r:Nat) (es:List (Int × AV)):z11 hid (.mp r es) = !hid.contains r:=rfl
theorem y1f (hid:List Nat) (f:FuncId) (r:Nat):z11 hid (.clom f r) = !hid.contains r:=rfl
theorem initM_T (args:List AV) (H:Nat->Option Arr) (t:Nat):(zkp args H).T t = sh (args.getD t .und):=rfl
theorem initM_H (args:List AV) (H:Nat->Option Arr):(zkp args H).H = shH H:=rfl
theorem shH_big (H:Nat->Option Arr) (r:Nat):shH H (r + 1000) = H r:=by unfold shH; rw [if_neg (by omega),Nat.add_sub_cancel]
theorem shH_small (H:Nat->Option Arr) (r:Nat) (h:r < 1000):shH H r = none:=if_pos h
theorem endM_ret (ds:List RDesc) (r:AV) (H':Nat->Option Arr) (σ:St):endM ds r H' .ret σ = retM ds r H' σ:=rfl
theorem y23 (ds:List RDesc) (r:AV) (H':Nat->Option Arr) (σ:St):endM ds r H' .normal σ = retM ds r H' σ:=rfl
theorem run_gini (C:FuncId->List AV->AV->Prop) (l:List GIni) (Q:XK->St->Prop) (σ:St):run C (.gini l) Q σ = z93 l σ (Q .normal):=rfl
theorem giniV_nil (σ:St) (K:St->Prop):z93 [] σ K = K σ:=rfl
theorem giniV_cons (r j q z:Nat) (ty:TypeId) (l:List GIni) (σ:St) (K:St->Prop):z93 (⟨r,j,q,z,ty⟩ :: l) σ K = (q < 1000∧0 < z∧z93 l ⟨upd (σ.kill q).T (vt r j) (.vrs q 0 0 (.slice none 0 0)),upd (σ.kill q).H q (some ⟨z,ty,[],0⟩)⟩ K):=rfl
theorem runOps_clr (C:FuncId->List AV->AV->Prop) (z:Nat) (x:IOpd) (d:AV) (hid wr:List Nat) (l:List ROp) (σ:St) (K:St->Prop):z0e C (⟨.copy z x (.c d),none,none,hid,wr⟩ :: l) σ K = (clOk σ z d (σ.get x)∧z0e C l (clSt σ d (σ.get x)) K):=rfl
theorem runOps_stp (C:FuncId->List AV->AV->Prop) (z:Nat) (p x:IOpd) (hid wr:List Nat) (l:List ROp) (σ:St) (K:St->Prop):z0e C (⟨.storep z p x,none,none,hid,wr⟩ :: l) σ K = (stpOk σ z (σ.get x) (σ.get p)∧zch fun u=>z0e C l (zsx σ u (σ.get x) (σ.get p)) K):=rfl
end Go.Proofs.YtlhblpbfhfhlpaaGreat
end
section
namespace Go.Proofs.YtlhblpbfhfhlpaaGreat
abbrev EqR (r:Reg) (l:List ROp) (k:List Nat):Prop:=∀ (C:FuncId->List AV->AV->Prop) (σ:St) (K:St->Prop),z0l C r σ K = z0e C l (σ.kills k) K
theorem ev0 :
 (∀ (C:FuncId->List AV->AV->Prop) (Q:XK->St->Prop) (σ:St),run C .skip Q σ = Q .normal σ) ∧
 (∀ (C:FuncId->List AV->AV->Prop) (g:Reg) (Q:XK->St->Prop) (σ:St),run C (.reg g) Q σ = z0l C g σ (Q .normal)) ∧
 (∀ (C:FuncId->List AV->AV->Prop) (x y:IR) (Q:XK->St->Prop) (σ:St),run C (.seq x y) Q σ = run C x (z2h (run C y Q) Q) σ) ∧
 (∀ (C:FuncId->List AV->AV->Prop) (c:IOpd) (x y:IR) (Q:XK->St->Prop) (σ:St),run C (.cond c x y) Q σ = ((σ.get c).isB = true∧if (σ.get c).bv = true then run C x Q σ else run C y Q σ)) ∧
 (∀ (C:FuncId->List AV->AV->Prop) (id:Nat) (b:IR) (Q:XK->St->Prop) (σ:St),run C (.block id b) Q σ = run C b (z5c id Q) σ) ∧
 (∀ (C:FuncId->List AV->AV->Prop) (b:IR) (Q:XK->St->Prop) (σ:St),run C (.loop b) Q σ = awp C (.loop b) Q σ) ∧
 (∀ (C:FuncId->List AV->AV->Prop) (id:Nat) (Q:XK->St->Prop) (σ:St),run C (.exit id) Q σ = Q (.exit id) σ) ∧
 (∀ (C:FuncId->List AV->AV->Prop) (Q:XK->St->Prop) (σ:St),run C .ret Q σ = Q .ret σ) ∧
 (∀ (C:FuncId->List AV->AV->Prop) (σ:St) (K:St->Prop),z0e C [] σ K = K σ) ∧
 (∀ (C:FuncId->List AV->AV->Prop) (io:IOp) (d:Nat) (hid wr:List Nat) (l:List ROp) (σ:St) (K:St->Prop),z0e C (⟨io,some d,none,hid,wr⟩ :: l) σ K = z18 C (z0e C l) K σ d hid io) ∧
 (∀ (C:FuncId->List AV->AV->Prop) (z:Nat) (p x:IOpd) (hid wr:List Nat) (l:List ROp) (σ:St) (K:St->Prop),z0e C (⟨.store z p x,none,none,hid,wr⟩ :: l) σ K = (stOk σ z (σ.get x) (σ.get p)∧z0e C l (stSt σ z (σ.get x) (σ.get p)) K)) ∧
 (∀ (C:FuncId->List AV->AV->Prop) (io:IOp) (d t:Nat) (w:Bool) (hid wr:List Nat) (l:List ROp) (σ:St) (K:St->Prop),z0e C (⟨io,some d,some (t,w),hid,wr⟩ :: l) σ K = (gB (σ.T t) = true∧if gIs w (σ.T t) = true then z18 C (z0e C l) K (σ.set t (.bool w)) d hid io else z0e C l ((if (σ.T t).isB then σ.set t (.bool (!w)) else σ).set d (.tup [])) K)) :=
 ⟨run_skip,run_reg,run_seq,run_cond,run_block,run_loop',run_exit,run_ret,runOps_nil,runOps_op,runOps_st,runOps_g⟩
theorem ev1 :
 (∀ (C:FuncId->List AV->AV->Prop) (F0:List Nat) (tl:List ROp) (σ:St) (K:St->Prop),z08 C F0 tl [] σ K = z0e C tl σ K) ∧
 (∀ (C:FuncId->List AV->AV->Prop) (F0:List Nat) (tl:List ROp) (io:IOp) (d:Nat) (hid wr:List Nat) (l:List ROp) (σ:St) (K:St->Prop),z08 C F0 tl (⟨io,some d,none,hid,wr⟩ :: l) σ K = z0h C F0 (z08 C F0 tl l) K σ d hid io) ∧
 (∀ (C:FuncId->List AV->AV->Prop) (F0:List Nat) (tl:List ROp) (io:IOp) (d t:Nat) (w:Bool) (hid wr:List Nat) (l:List ROp) (σ:St) (K:St->Prop),z08 C F0 tl (⟨io,some d,some (t,w),hid,wr⟩ :: l) σ K = (gB (σ.T t) = true∧if gIs w (σ.T t) = true then z0h C F0 (z08 C F0 tl l) K (σ.set t (.bool w)) d hid io else z08 C F0 tl l ((if (σ.T t).isB then σ.set t (.bool (!w)) else σ).set d (.tup [])) K)) ∧
 (∀ (C:FuncId->List AV->AV->Prop) (F0:List Nat) (tl:List ROp) (z:Nat) (p x:IOpd) (hid wr:List Nat) (l:List ROp) (σ:St) (K:St->Prop),z08 C F0 tl (⟨.store z p x,none,none,hid,wr⟩ :: l) σ K = (y0m F0 hid wr σ z (σ.get x) (σ.get p)∧z08 C F0 tl l (y0l σ z (σ.get x) (σ.get p)) K)) ∧
 (∀ (σ:St),σ.kills [] = σ) ∧
 (∀ (σ:St) (r:Nat) (l:List Nat),σ.kills (r :: l) = (σ.kill r).kills l) ∧
 (∀ (σ:St) (r t:Nat),(σ.kill r).T t = if (σ.T t).name = some r then keepS σ (σ.T t) else σ.T t) ∧
 (∀ (σ:St) (r s:Nat),(σ.kill r).H s = if s = r then none else σ.H s) ∧
 (∀ (σ:St),σ.fzs [] = σ) ∧
 (∀ (σ:St) (r:Nat) (l:List Nat),σ.fzs (r :: l) = (σ.fz r).fzs l) ∧
 (∀ (σ:St) (r t:Nat),(σ.fz r).T t = σ.T t) ∧
 (∀ (σ:St) (r s:Nat),(σ.fz r).H s = if s = r then (σ.H r).map Arr.freeze else σ.H s) :=
 ⟨y0w,runHead_op,runHead_g,runHead_st,kills_nil,kills_cons,kill_T,kill_H,fzs_nil,fzs_cons,fz_T',fz_H'⟩
theorem ev2 :
 (∀ (σ:St) (t:Nat),σ.get (.t t) = σ.T t) ∧
 (∀ (σ:St) (v:AV),σ.get (.c v) = v) ∧
 (∀ (σ:St) (t s:Nat) (v:AV) (o:Option Arr),(σ.made t v o).T s = if s = t then v else σ.T s) ∧
 (∀ (σ:St) (t s:Nat) (v:AV),(σ.made t v none).H s = σ.H s) ∧
 (∀ (σ:St) (t s:Nat) (v:AV) (arr:Arr),(σ.made t v (some arr)).H s = if s = t then some arr else σ.H s) ∧
 (∀ (σ:St) (t s:Nat) (v:AV),(σ.set t v).T s = if s = t then v else σ.T s) ∧
 (∀ (σ:St) (t:Nat) (v:AV),(σ.set t v).H = σ.H) ∧
 (∀ (T:Nat->AV) (r t:Nat),z8q T r t = if (T t).name = some r then .und else T t) ∧
 (∀ (args:List AV) (t:Nat),(z0b args).T t = args.getD t .und) ∧
 (∀ (args:List AV) (t:Nat),(z0b args).H t = none) ∧
 (∀ (K:St->Prop) (Q:XK->St->Prop) (σ:St),z2h K Q .normal σ = K σ) ∧
 (∀ (K:St->Prop) (Q:XK->St->Prop) (σ:St),z2h K Q .ret σ = Q .ret σ) :=
 ⟨get_t,get_c,made_T,y1k,y1j,set_T,set_H,sweep_at,init_T,init_H,zsv,thenQ_ret⟩
theorem ev3 :
 (∀ (K:St->Prop) (Q:XK->St->Prop) (i:Nat) (σ:St),z2h K Q (.exit i) σ = Q (.exit i) σ) ∧
 (∀ (i:Nat) (Q:XK->St->Prop) (σ:St),z5c i Q .normal σ = Q .normal σ) ∧
 (∀ (i:Nat) (Q:XK->St->Prop) (σ:St),z5c i Q .ret σ = Q .ret σ) ∧
 (∀ (i j:Nat) (Q:XK->St->Prop) (σ:St),z5c i Q (.exit j) σ = if j = i then Q .normal σ else Q (.exit j) σ) ∧
 (∀ (ds:List RDesc) (r:AV) (σ:St),endQ ds r .ret σ = retV ds r σ) ∧
 (∀ (ds:List RDesc) (r:AV) (σ:St),endQ ds r .normal σ = retV ds r σ) ∧
 (∀ (hid:List Nat) (r i f:Nat),z11 hid (.ptr r i f) = !hid.contains r) ∧
 (∀ (hid:List Nat) (r i f:Nat),z11 hid (.rs r i f) = !hid.contains r) ∧
 (∀ (z ty:Nat) (l:List AV) (p:Nat),Arr.freeze ⟨z,ty,l,p⟩ = ⟨z,ty,l,l.length⟩) ∧
 (∀ (σ:St) (z ty bytes:Nat) (v:AV) (r off len:Nat),apOk σ z ty bytes v (.rs r off len) = (byOk [] σ v∧(z1l σ v).isSl = true∧(σ.H r).isSome = true∧objZ (σ.H r) = z∧zxo (σ.H r) = ty∧z1q ((σ.fzs (byFz v)).H r)≤off + len∧fitsV (len + (slOf (z1l σ v)).length) bytes∧r < 1000∧∀ d,d ∈ slOf (z1l σ v)->d.cells.length = z∧d.cells.all AV.one = true)) :=
 ⟨thenQ_exit,zsi,blockQ_ret,y3s,endQ_ret,y22,y1d,nameOk_rs',freeze_mk,apOk_rs⟩
theorem ev4 :
 (∀ (C:FuncId->List AV->AV->Prop) (P:Program) (l:List XOp) (Q:XK->St->Prop) (σ:St),run C (.regx P l) Q σ = z0n P C l σ (Q .normal)) ∧
 (∀ (P:Program) (C:FuncId->List AV->AV->Prop) (σ:St) (K:St->Prop),z0n P C [] σ K = K σ) ∧
 (∀ (P:Program) (C:FuncId->List AV->AV->Prop) (k:List Nat) (r:ROp) (l:List XOp) (σ:St) (K:St->Prop),z0n P C (.op k r :: l) σ K = z0e C [r] (σ.kills k) fun σ'=>z0n P C l σ' K) ∧
 (∀ (P:Program) (C:FuncId->List AV->AV->Prop) (d:Nat) (x:IOpd) (l:List XOp) (σ:St) (K:St->Prop),z0n P C (.nilck d x none :: l) σ K = (ckOk σ (σ.get x)∧z0n P C l (σ.set d (σ.get x)) K)) ∧
 (∀ (P:Program) (C:FuncId->List AV->AV->Prop) (d:Nat) (x:IOpd) (t:Nat) (w:Bool) (l:List XOp) (σ:St) (K:St->Prop),z0n P C (.nilck d x (some (t,w)) :: l) σ K = (gB (σ.T t) = true∧if gIs w (σ.T t) = true then ckOk (σ.set t (.bool w)) ((σ.set t (.bool w)).get x)∧z0n P C l ((σ.set t (.bool w)).set d ((σ.set t (.bool w)).get x)) K else z0n P C l ((if (σ.T t).isB then σ.set t (.bool (!w)) else σ).set d (.tup [])) K)) ∧
 (∀ (P:Program) (C:FuncId->List AV->AV->Prop) (d:Nat) (f:FuncId) (x:IOpd) (l:List XOp) (σ:St) (K:St->Prop),z0n P C (.mkclo d f x :: l) σ K = (cloOk σ (σ.get x)∧z0n P C l (σ.set d (.clom f (ptrAt (σ.get x)))) K)) ∧
 (∀ (P:Program) (C:FuncId->List AV->AV->Prop) (d:Nat) (fx:IOpd) (xs:List IOpd) (l:List XOp) (σ:St) (K:St->Prop),z0n P C (.mcall d fx xs :: l) σ K = (mOks σ (xs.map σ.get)∧zxx (σ.fzs (mFzs (xs.map σ.get))) (σ.get fx)∧z4b P (mFn (σ.get fx)) (mArgs (y1l σ (xs.map σ.get)) (σ.get fx)) σ.T (σ.fzs (mFzs (xs.map σ.get))).H d (z0n P C l) K)) ∧
 (∀ (hid:List Nat) (f:FuncId) (r:Nat),z11 hid (.clom f r) = !hid.contains r) ∧
 (∀ (args:List AV) (H:Nat->Option Arr) (t:Nat),(zkp args H).T t = sh (args.getD t .und)) ∧
 (∀ (args:List AV) (H:Nat->Option Arr),(zkp args H).H = shH H) ∧
 (∀ (H:Nat->Option Arr) (r:Nat),shH H (r + 1000) = H r) ∧
 (∀ (ds:List RDesc) (r:AV) (H':Nat->Option Arr) (σ:St),endM ds r H' .ret σ = retM ds r H' σ) ∧
 (∀ (ds:List RDesc) (r:AV) (H':Nat->Option Arr) (σ:St),endM ds r H' .normal σ = retM ds r H' σ) ∧
 (∀ (f:FuncId) (r:Nat),(AV.clom f r).name = some r) ∧
 (∀ (f:FuncId) (r:Nat),(AV.clom f r).isC = false) :=
 ⟨run_regx,runXs_nil,runXs_op,y0p,zt8,y0s,y0t,y1f,initM_T,initM_H,shH_big,endM_ret,y23,fun _ _=>rfl,fun _ _=>rfl⟩
theorem evA :
 (∀ (k:IntKind) (n:Int),(AV.int k n).isI = true) ∧
 (∀ (k:IntKind) (n:Int),(AV.int k n).isB = false) ∧
 (∀ (k:IntKind) (n:Int),(AV.int k n).isS = false) ∧
 (∀ (k:IntKind) (n:Int),(AV.int k n).isA = false) ∧
 (∀ (k:IntKind) (n:Int),(AV.int k n).isTu = false) ∧
 (∀ (k:IntKind) (n:Int),(AV.int k n).isC = false) ∧
 (∀ (b:Bool),(AV.bool b).isI = false) ∧
 (∀ (b:Bool),(AV.bool b).isB = true) ∧
 (∀ (b:Bool),(AV.bool b).isS = false) ∧
 (∀ (b:Bool),(AV.bool b).isA = false) ∧
 (∀ (b:Bool),(AV.bool b).isTu = false) ∧
 (∀ (b:Bool),(AV.bool b).isC = false) ∧
 (∀ (s:ByteArray),(AV.str s).isI = false) ∧
 (∀ (s:ByteArray),(AV.str s).isB = false) ∧
 (∀ (s:ByteArray),(AV.str s).isS = true) ∧
 (∀ (s:ByteArray),(AV.str s).isA = false) ∧
 (∀ (s:ByteArray),(AV.str s).isTu = false) ∧
 (∀ (s:ByteArray),(AV.str s).isC = false) ∧
 (∀ (l:List AV),(AV.agg l).isI = false) ∧
 (∀ (l:List AV),(AV.agg l).isB = false) ∧
 (∀ (l:List AV),(AV.agg l).isS = false) ∧
 (∀ (l:List AV),(AV.agg l).isA = true) ∧
 (∀ (l:List AV),(AV.agg l).isTu = false) ∧
 (∀ (l:List AV),(AV.agg l).isC = false) ∧
 (∀ (l:List AV),(AV.tup l).isI = false) ∧
 (∀ (l:List AV),(AV.tup l).isB = false) ∧
 (∀ (l:List AV),(AV.tup l).isS = false) ∧
 (∀ (l:List AV),(AV.tup l).isA = false) ∧
 (∀ (l:List AV),(AV.tup l).isTu = true) ∧
 (∀ (l:List AV),(AV.tup l).isC = false) ∧
 (∀ (f:FuncId) (x y:List AV),(AV.clo f x y).isI = false) ∧
 (∀ (f:FuncId) (x y:List AV),(AV.clo f x y).isB = false) ∧
 (∀ (f:FuncId) (x y:List AV),(AV.clo f x y).isS = false) ∧
 (∀ (f:FuncId) (x y:List AV),(AV.clo f x y).isA = false) ∧
 (∀ (f:FuncId) (x y:List AV),(AV.clo f x y).isTu = false) ∧
 (∀ (f:FuncId) (x y:List AV),(AV.clo f x y).isC = true) ∧
 (∀ (k:IntKind) (n:Int),(AV.int k n).iv = n) ∧
 (∀ (k:IntKind) (n:Int),(AV.int k n).ik = k) ∧
 (∀ b:Bool,(AV.bool b).bv = b) ∧
 (∀ s:ByteArray,(AV.str s).sv = s) ∧
 (∀ l:List AV,(AV.agg l).av = l) ∧
 (∀ l:List AV,(AV.tup l).tv = l) ∧
 (∀ (f:FuncId) (x y:List AV),(AV.clo f x y).cf = f) ∧
 (∀ (f:FuncId) (x y:List AV),(AV.clo f x y).c1 = x) ∧
 (∀ (f:FuncId) (x y:List AV),(AV.clo f x y).c2 = y) ∧
 (∀ l:List AV,(AV.agg l).cells = l) ∧
 (∀ (k:IntKind) (n:Int),(AV.int k n).cells = [.int k n]) ∧
 (∀ (k:IntKind) (n:Int),(AV.int k n).one = true) ∧
 (∀ (b:Bool),(AV.bool b).cells = [.bool b]) ∧
 (∀ (b:Bool),(AV.bool b).one = true) ∧
 (∀ (s:ByteArray),(AV.str s).cells = [.str s]) ∧
 (∀ (s:ByteArray),(AV.str s).one = true) ∧
 (∀ (l:List AV),(AV.sl l).cells = [.sl l]) ∧
 (∀ (l:List AV),(AV.sl l).one = true) ∧
 (∀ (l:List AV),(AV.rp l).cells = [.rp l]) ∧
 (∀ (l:List AV),(AV.rp l).one = true) ∧
 (∀ (f:FuncId) (x y:List AV),(AV.clo f x y).cells = [.clo f x y]) ∧
 (∀ (f:FuncId) (x y:List AV),(AV.clo f x y).one = true) ∧
 (∀ (v:Value),(AV.cst v).cells = [.cst v]) ∧
 (∀ (v:Value),(AV.cst v).one = true) ∧
 (AV.nilp.cells = [.nilp]) ∧
 (AV.nilp.one = true) ∧
 (∀ r i f:Nat,(AV.ptr r i f).name = some r) ∧
 (∀ r i f:Nat,(AV.rs r i f).name = some r) ∧
 (∀ (k:IntKind) (n:Int),(AV.int k n).name = none) ∧
 (∀ (b:Bool),(AV.bool b).name = none) ∧
 (∀ (s:ByteArray),(AV.str s).name = none) ∧
 (∀ (l:List AV),(AV.sl l).name = none) ∧
 (∀ (l:List AV),(AV.rp l).name = none) ∧
 (∀ (l:List AV),(AV.agg l).name = none) ∧
 (∀ (l:List AV),(AV.tup l).name = none) ∧
 (∀ (f:FuncId) (x y:List AV),(AV.clo f x y).name = none) ∧
 (∀ (v:Value),(AV.cst v).name = none) ∧
 (AV.und.name = none) ∧
 (AV.nilp.name = none):=by
 repeat' apply And.intro
 all_goals (intros; rfl)
theorem evM :
 (∀ (C:FuncId->List AV->AV->Prop) (P:Program) (g:Reg) (lt:List Nat) (mo ko vo:IOpd) (l:List XOp) (Q:XK->St->Prop) (σ:St),run C (.regm P g lt mo ko vo l) Q σ = zrk P C g lt mo ko vo l σ (Q .normal)) ∧
 (∀ σ:St,zdb [] σ = True) ∧
 (∀ (t:Nat) (l:List Nat) (σ:St),zdb (t :: l) σ = ((σ.T t).isMp = false∧zdb l σ)) ∧
 (∀ (C:FuncId->List AV->AV->Prop) (P:Program) (g:Reg) (l:List XOp) (Q:XK->St->Prop) (σ:St),run C (.regd P g l) Q σ = zg4 P C g l σ (Q .normal)) ∧
 (∀ (P:Program) (C:FuncId->List AV->AV->Prop) (d:Nat) (ty:TypeId) (l:List XOp) (σ:St) (K:St->Prop),z0n P C (.mkmap d ty :: l) σ K = z0n P C l ((σ.kill d).made d (.mp d []) (some ⟨1,ty,[],0⟩)) K) ∧
 (∀ (P:Program) (C:FuncId->List AV->AV->Prop) (d:Nat) (ok:Bool) (m k:IOpd) (z:AV) (l:List XOp) (σ:St) (K:St->Prop),z0n P C (.mlook d ok m k z none :: l) σ K = (z07 σ (σ.get m)∧kI (σ.get k) = true∧z0n P C l (σ.set d (lkV ok z (lkp (ents (σ.get m)) (σ.get k).iv))) K)) ∧
 (∀ (P:Program) (C:FuncId->List AV->AV->Prop) (d:Nat) (ok:Bool) (m k:IOpd) (z:AV) (t:Nat) (w:Bool) (l:List XOp) (σ:St) (K:St->Prop),z0n P C (.mlook d ok m k z (some (t,w)) :: l) σ K = (gB (σ.T t) = true∧if gIs w (σ.T t) = true then z07 (σ.set t (.bool w)) ((σ.set t (.bool w)).get m)∧kI ((σ.set t (.bool w)).get k) = true∧z0n P C l ((σ.set t (.bool w)).set d (lkV ok z (lkp (ents ((σ.set t (.bool w)).get m)) ((σ.set t (.bool w)).get k).iv))) K else z0n P C l ((if (σ.T t).isB then σ.set t (.bool (!w)) else σ).set d (.tup [])) K)) ∧
 (∀ (P:Program) (C:FuncId->List AV->AV->Prop) (m k x:IOpd) (l:List XOp) (σ:St) (K:St->Prop),z0n P C (.mupd m k x :: l) σ K = (mpOk σ (σ.get m)∧kI (σ.get k) = true∧byOk [] σ (σ.get x)∧z0n P C l ⟨remT (mpR (σ.get m)) (upk (ents (σ.get m)) (σ.get k).iv (z1l σ (σ.get x))) σ.T,(σ.fzs (byFz (σ.get x))).H⟩ K)) ∧
 (∀ (hid:List Nat) (r:Nat) (es:List (Int × AV)),z11 hid (.mp r es) = !hid.contains r) ∧
 (∀ (r:Nat) (es:List (Int × AV)),(AV.mp r es).name = some r) ∧
 (∀ es:List (Int × AV),(AV.mv es).name = none) ∧
 (∀ es:List (Int × AV),(AV.mv es).cells = [.mv es]) ∧
 (∀ es:List (Int × AV),(AV.mv es).one = true) ∧
 (∀ (r:Nat) (es:List (Int × AV)) (T:Nat->AV) (t:Nat),remT r es T t = remp r es (T t)) ∧
 (∀ (r s:Nat) (es l:List (Int × AV)),remp r es (.mp s l) = if s = r then .mp r es else .mp s l) :=
 ⟨run_regm,noMps_nil,noMps_cons,run_regd,y0r,y0q,zt9,runXs_mupd,nameOk_mp,fun _ _=>rfl,fun _=>rfl,fun _=>rfl,fun _=>rfl,fun _ _ _ _=>rfl,fun _ _ _ _=>rfl⟩
theorem evW :
 (∀ (C:FuncId->List AV->AV->Prop) (g:Reg) (s:Nat) (Q:XK->St->Prop) (σ:St),run C (.regw g s) Q σ = (nmB (σ.T s) = true∧1000≤nmD (σ.T s)∧z0l C (g.ren s (nmD (σ.T s))) σ (Q .normal))) ∧
 (∀ (r off len:Nat),nmB (.rs r off len) = true) ∧
 (∀ (r off len:Nat),nmD (.rs r off len) = r) ∧
 (∀ (P:Program) (C:FuncId->List AV->AV->Prop) (d:Nat) (fx:IOpd) (xs:List IOpd) (l:List XOp) (σ:St) (K:St->Prop),z0n P C (.wcall d fx xs :: l) σ K = (wOks σ (xs.map σ.get)∧y40 (σ.get fx)∧z4b P (mFn (σ.get fx)) (zqa σ (xs.map σ.get)) σ.T (σ.fzs (wFzs (xs.map σ.get))).H d (z0n P C l) K)) ∧
 (∀ (f:FuncId),y40 (.clo f [] []) = True) ∧
 (∀ (f:FuncId) (x y:List AV),mFn (.clo f x y) = f) ∧
 (∀ (σ:St),wOks σ [] = True) ∧
 (∀ (σ:St) (v:AV) (l:List AV),wOks σ (v :: l) = (wOk σ v∧wOks σ l)) ∧
 (∀ (σ:St),zqa σ [] = []) ∧
 (∀ (σ:St) (v:AV) (l:List AV),zqa σ (v :: l) = wVal σ v :: zqa σ l) ∧
 (wFzs [] = []) ∧
 (∀ (v:AV) (l:List AV),wFzs (v :: l) = wFz v ++ wFzs l) ∧
 (∀ (σ:St) (r off len:Nat),wOk σ (.rs r off len) = True) ∧
 (∀ (σ:St) (k:IntKind) (n:Int),wOk σ (.int k n) = True) ∧
 (∀ (σ:St) (f:FuncId) (x y:List AV),wOk σ (.clo f x y) = True) ∧
 (∀ (σ:St) (r off len:Nat),wVal σ (.rs r off len) = .rs r off len) ∧
 (∀ (σ:St) (k:IntKind) (n:Int),wVal σ (.int k n) = .int k n) ∧
 (∀ (σ:St) (f:FuncId) (x y:List AV),wVal σ (.clo f x y) = .clo f x y) ∧
 (∀ (r off len:Nat),wFz (.rs r off len) = []) ∧
 (∀ (k:IntKind) (n:Int),wFz (.int k n) = []) ∧
 (∀ (f:FuncId) (x y:List AV),wFz (.clo f x y) = []):=by
 refine ⟨run_regw,fun _ _ _=>rfl,fun _ _ _=>rfl,y0o,?_,?_,?_,?_,?_,?_,?_,?_,?_,?_,?_,?_,?_,?_,?_,?_,?_⟩ <;> (intros; first | rfl | (simp [wOk,mOk,byOk]))
theorem evP :
 (∀ (C:FuncId->List AV->AV->Prop) (P:Program) (g:Reg) (z s0 tp tv:Nat) (l:List XOp) (Q:XK->St->Prop) (σ:St),run C (.regp P g z s0 tp tv l) Q σ = y0v P C g z s0 tp tv l σ (Q .normal)) ∧
 (∀ (tp tv s0:Nat) (σ:St),stpSrc tp tv s0 σ = (isPtrR (σ.T tp) s0∧isRsR (σ.T tv) tv)) ∧
 (∀ (r i f s:Nat),isPtrR (.ptr r i f) s = (r = s)) ∧
 (∀ (r i f s:Nat),isRsR (.rs r i f) s = (r = s)) ∧
 (∀ (C:FuncId->List AV->AV->Prop) (l:List GIni) (Q:XK->St->Prop) (σ:St),run C (.gini l) Q σ = z93 l σ (Q .normal)) ∧
 (∀ (σ:St) (K:St->Prop),z93 [] σ K = K σ) ∧
 (∀ (r j q z:Nat) (ty:TypeId) (l:List GIni) (σ:St) (K:St->Prop),z93 (⟨r,j,q,z,ty⟩ :: l) σ K = (q < 1000∧0 < z∧z93 l ⟨upd (σ.kill q).T (vt r j) (.vrs q 0 0 (.slice none 0 0)),upd (σ.kill q).H q (some ⟨z,ty,[],0⟩)⟩ K)) ∧
 (∀ (C:FuncId->List AV->AV->Prop) (z:Nat) (p x:IOpd) (hid wr:List Nat) (l:List ROp) (σ:St) (K:St->Prop),z0e C (⟨.storep z p x,none,none,hid,wr⟩ :: l) σ K = (stpOk σ z (σ.get x) (σ.get p)∧zch fun u=>z0e C l (zsx σ u (σ.get x) (σ.get p)) K)) ∧
 (∀ (r o:Nat),vt r o = 1000 + 100 * r + o) ∧
 (∀ (r off len:Nat) (u:Value),(AV.vrs r off len u).name = some r) ∧
 (∀ (hid:List Nat) (r off len:Nat) (u:Value),z11 hid (.vrs r off len u) = !hid.contains r) ∧
 (∀ (v:Value),(AV.cst v).cells = [.cst v]) ∧
 (∀ (v:Value),(AV.cst v).one = true) ∧
 (nilV (.slice none 0 0) = .sl []) ∧
 (∀ (r i f:Nat),pRt (.ptr r i f) = r) ∧
 (∀ (σ:St) (r i f:Nat),pOf σ (.ptr r i f) = i * objZ (σ.H r) + f) ∧
 (∀ (r i f:Nat),isPtr (.ptr r i f) = true) :=
 ⟨fun _ _ _ _ _ _ _ _ _ _=>rfl,fun _ _ _ _=>rfl,fun _ _ _ _=>rfl,fun _ _ _ _=>rfl,run_gini,giniV_nil,giniV_cons,runOps_stp,fun _ _=>rfl,fun _ _ _ _=>rfl,fun _ _ _ _ _=>rfl,fun _=>rfl,fun _=>rfl,rfl,fun _ _ _=>rfl,fun _ _ _ _=>rfl,fun _ _ _=>rfl⟩
theorem evCl :
 (∀ (C:FuncId->List AV->AV->Prop) (z:Nat) (x:IOpd) (d:AV) (hid wr:List Nat) (l:List ROp) (σ:St) (K:St->Prop),z0e C (⟨.copy z x (.c d),none,none,hid,wr⟩ :: l) σ K = (clOk σ z d (σ.get x)∧z0e C l (clSt σ d (σ.get x)) K)) ∧
 (∀ (σ:St) (z:Nat) (d:AV) (r off len:Nat),clOk σ z d (.rs r off len) = ((σ.H r).isSome = true∧objZ (σ.H r) = z∧z1q (σ.H r)≤off∧d.cells.length = z∧d.cells.all AV.one = true)) ∧
 (∀ (σ:St) (d:AV) (r off len:Nat),clSt σ d (.rs r off len) = ⟨σ.T,upd σ.H r (clArr d off len (σ.H r))⟩) ∧
 (∀ (d:AV) (off len z:Nat) (ty:TypeId) (l:List AV) (p:Nat),clArr d off len (some ⟨z,ty,l,p⟩) = some ⟨z,ty,l.take off ++ List.replicate len d ++ l.drop (off + len),p⟩) :=
 ⟨runOps_clr,fun _ _ _ _ _ _=>rfl,fun _ _ _ _ _=>rfl,fun _ _ _ _ _ _ _=>rfl⟩
end Go.Proofs.YtlhblpbfhfhlpaaGreat
end
section
namespace Go.Proofs.YtlhblpbfhfhlpaaGreat
open Go.ChangeShapes Go.WideShapes Go.ChangeAt Go.RowKit Go.Deep
inductive Ty where
 | int (k:IntKind)
 | str
 | bool
 | sl (e:Ty)
 | st (fs:List Ty)
def zj9 (P:Program):List (Nat × TypeId)->Nat->Option Nat
 | [],o=>some o
 | (f,t) :: l,o=>if f = o then zj9 P l (o + P.cellsOf t) else none
def zxm {α β:Type} (f:α->Option β):List α->Option (List β)
 | []=>some []
 | a :: l=>match f a,zxm f l with
  | some b,some r=>some (b :: r)
  | _,_=>none
def z2j (m z:Nat) (e:TypeId):Nat->List (Nat × TypeId)
 | 0=>[]
 | k + 1=>((m - (k + 1)) * z,e) :: z2j m z e k
def y3m (P:Program):Nat->TypeId->Option Ty
 | 0,_=>none
 | n + 1,t=>match P.underlying t with
  | some (.int k)=>some (.int k)
  | some .string=>some .str
  | some .bool=>some .bool
  | some (.slice e)=>if 1≤P.bytesOf e∧1≤P.cellsOf e then (y3m P n e).map .sl else none
  | some (.struct fs)=>if zj9 P (fs.toList.map fun f=>(f.offset,f.type)) 0 = some (P.cellsOf t) then (zxm (y3m P n) (fs.toList.map (·.type))).map .st else none
  | some (.array m e)=>if zj9 P (z2j m (P.cellsOf e) e m) 0 = some (P.cellsOf t) then (zxm (y3m P n) (List.replicate m e)).map .st else none
  | _=>none
def zko:Ty->List AV->AV
 | .st _,cs=>.agg cs
 | _,cs=>cs.headD .und
inductive TypedC:Ty->List AV->Prop
 | int (k:IntKind) (n:Int) (h:(Lit.int k n).wf = true):TypedC (.int k) [.int k n]
 | str (s:ByteArray) (h:s.size≤281474976710656):TypedC .str [.str s]
 | bool (b:Bool):TypedC .bool [.bool b]
 | sl (T:Ty) (ls:List (List AV)) (hlen:ls.length≤281474976710656) (h:∀ c,c ∈ ls->TypedC T c):TypedC (.sl T) [.sl (ls.map (zko T))]
 | nil:TypedC (.st []) []
 | cons {T:Ty} {fs:List Ty} {c r:List AV} (h:TypedC T c) (hr:TypedC (.st fs) r):TypedC (.st (T :: fs)) (c ++ r)
theorem zio {T:Ty} {c:List AV} (h:TypedC T c):(zko T c).cells = c:=by
 cases h <;> rfl
theorem zy0 {P:Program}:∀ {l:List (Nat × TypeId)} {o tot:Nat},zj9 P l o = some tot->o≤tot
 | [],o,tot,h=>by cases h; exact Nat.le_refl _
 | (f,t) :: l,o,tot,h=>by
  rw [zj9] at h
  split at h
  ·have:=zy0 h; omega
  ·cases h
section
variable {H:Type} {enc:TypeId × Value->H} {P:Program} {w:World} {sp:Nat->Bool} {held:Bool}
def z2m (w:World) (T:Ty) (cs:List Value) (ds:List AV):Prop :=
 TypedC T ds∧ds.length = cs.length∧∀ (j:Nat) (d:AV) (v:Value),ds[j]? = some d->cs[j]? = some v->VR (fun b _=>b < w.heap.size) w d v
theorem z6x {n m:Nat} (ih:∀ {t:TypeId} {T:Ty} {fuel:Nat} {cs:List Value} {x:DataW H × List MemPlace},y3m P n t = some T->(x.1.weights P t).all (·≤reachBytes) = true->DataW.trod enc P w 0 sp held fuel t cs = some x->∃ ds,z2m w T cs ds)
  {cs:List Value}:∀ (pl:List (Nat × TypeId)) (o:Nat) (Ts:List Ty) (xs:List (DataW H × List MemPlace)),zj9 P pl o = some cs.length->zxm (y3m P n) (pl.map (·.2)) = some Ts->xs.length = pl.length ->
   (∀ (i:Nat) (f:Nat × TypeId),pl[i]? = some f->DataW.trod enc P w 0 sp held m f.2 ((cs.drop f.1).take (P.cellsOf f.2)) = xs[i]?) ->
   (DataW.weightsEach P (pl.map (·.2)) (xs.map (·.1))).all (·≤reachBytes) = true->∃ ds,z2m w (.st Ts) (cs.drop o) ds
 | [],o,Ts,xs,hl,ho,hx,ht,hw=>by
  cases hl; cases ho
  exact ⟨[],.nil,by simp,fun j d v h=>by simp at h⟩
 | (f,t) :: pl,o,Ts,xs,hl,ho,hx,ht,hw=>by
  rw [zj9] at hl
  split at hl
  case isFalse=>cases hl
  rename_i hf
  subst hf
  rw [List.map_cons,zxm] at ho
  split at ho
  case h_2=>cases ho
  rename_i T Ts' h1 h2
  cases ho
  cases xs with
  | nil=>simp at hx
  | cons x xs =>
   rw [List.map_cons,List.map_cons,DataW.weightsEach,List.all_append,Bool.and_eq_true] at hw
   obtain ⟨d0,t0,l0,v0⟩:=ih h1 hw.1 (ht 0 _ rfl)
   obtain ⟨dr,tr,lr,vr⟩:=z6x ih pl (f + P.cellsOf t) Ts' xs hl h2 (by simpa using hx) (fun i g hg=>ht (i + 1) g (by simpa using hg)) hw.2
   have hle:=zy0 hl
   have hz:d0.length = P.cellsOf t:=by
    rw [l0,List.length_take,List.length_drop]; show min (P.cellsOf t) (cs.length - f) = _; omega
   refine ⟨d0 ++ dr,.cons t0 tr,?_,fun j d v hd hv=>?_⟩
   ·rw [List.length_append,hz,lr,List.length_drop,List.length_drop]; omega
   ·rw [List.getElem?_drop] at hv
    rcases Nat.lt_or_ge j d0.length with hj | hj
    ·rw [List.getElem?_append_left hj] at hd
     refine v0 j d v hd ?_
     show (List.take (P.cellsOf t) (List.drop f cs))[j]? = _
     rw [List.getElem?_take,if_pos (by omega),List.getElem?_drop]
     exact hv
    ·rw [List.getElem?_append_right hj] at hd
     refine vr _ d v hd ?_
     rw [List.getElem?_drop,hz,show f + P.cellsOf t + (j - P.cellsOf t) = f + j by omega]
     exact hv
theorem zdy {e:TypeId}:∀ {m:Nat} {l:List (DataW H)},l.length = m->(DataW.weightsAll P e l).all (·≤reachBytes) = true->(DataW.weightsEach P (List.replicate m e) l).all (·≤reachBytes) = true
 | 0,[],_,_=>rfl
 | m + 1,x :: l,hl,h=>by
  simp only [DataW.weightsAll,List.all_append,Bool.and_eq_true] at h
  rw [List.replicate_succ,DataW.weightsEach,List.all_append,Bool.and_eq_true]
  exact ⟨h.1,zdy (by simpa using hl) h.2⟩
theorem zxj (m z:Nat) (e:TypeId):∀ (k i:Nat) (f:Nat × TypeId),k≤m->(z2j m z e k)[i]? = some f->i < k∧f = ((m - k + i) * z,e):=by
 intro k
 induction k with
 | zero=>intro i f _ h; simp [z2j] at h
 | succ k ih =>
  intro i f hk h
  cases i with
  | zero=>simp [z2j] at h; exact ⟨by omega,h.symm⟩
  | succ i =>
   obtain ⟨h1,rfl⟩:=ih i f (by omega) (by simpa [z2j] using h)
   exact ⟨by omega,by rw [show m - k + i = m - (k + 1) + (i + 1) by omega]⟩
theorem z4o:∀ (n:Nat) {t:TypeId} {T:Ty} {fuel:Nat} {cs:List Value} {x:DataW H × List MemPlace},y3m P n t = some T->(x.1.weights P t).all (·≤reachBytes) = true->DataW.trod enc P w 0 sp held fuel t cs = some x->∃ ds,z2m w T cs ds
 | 0,t,T,fuel,cs,x,ht,hw,h=>by cases ht
 | n + 1,t,T,fuel,cs,x,ht,hw,h=>by
  rw [y3m] at ht
  split at ht
  ·rename_i k hu
   cases ht
   obtain ⟨m,rfl,rfl,hb⟩:=DataW.trod_int hu h
   exact ⟨[.int k m],.int k m hb,rfl,fun j d v hd hv=>by
    cases j with
    | zero=>cases hd; cases hv; exact .int _ _
    | succ j=>simp at hd⟩
  ·rename_i hu
   cases ht
   obtain ⟨s,rfl,rfl,hb⟩:=DataW.trod_string hu h
   exact ⟨[.str s],.str s (str_reach hw),rfl,fun j d v hd hv=>by
    cases j with
    | zero=>cases hd; cases hv; exact .str _
    | succ j=>simp at hd⟩
  ·rename_i hu
   cases ht
   obtain ⟨b,rfl,rfl⟩:=DataW.trod_bool hu h
   exact ⟨[.bool b],.bool b,rfl,fun j d v hd hv=>by
    cases j with
    | zero=>cases hd; cases hv; exact .bool _
    | succ j=>simp at hd⟩
  ·rename_i e hu
   split at ht
   case isFalse=>cases ht
   rename_i hz
   obtain ⟨Te,hTe,rfl⟩:=Option.map_eq_some_iff.1 ht
   rcases open_slice hu h with ⟨hv,_⟩ | ⟨a,len,cap,m,n',D,Pl,hv,_,hl,hm,hmm,hx,hi⟩
   ·subst hv
    refine ⟨[.sl []],.sl Te [] (by simp) (fun c hc=>by cases hc),rfl,fun j d v hd hv=>?_⟩
    cases j with
    | zero =>
     cases hd; cases hv
     exact .sl [] none 0 1 (fun _ _=>.bool false) (by simp) (by simp) (fun h=>by simp at h) (fun i d j c hi=>by simp at hi)
    | succ j=>simp at hd
   ·subst hv
    have hlm:len≤m:=by rw [hmm]; split <;> omega
    rw [hx] at hw
    simp only [DataW.weights,hu,List.all_cons,Bool.and_eq_true,decide_eq_true_eq,List.length_map,List.length_range,List.all_append] at hw
    have hlr:len≤reachBytes:=Nat.le_trans (Nat.le_trans (Nat.le_add_right len (m - len)) (Nat.le_mul_of_pos_right _ hz.1)) hw.1
    have hwi:∀ i,i < len->((D i).weights P e).all (·≤reachBytes) = true:=fun i hil=>zkk hw.2.1 (List.mem_map.2 ⟨i,List.mem_range.2 hil,rfl⟩)
    have each:∀ i,i < len->∃ y:List Value × List AV,w.cells? 0 (a.add (i * P.cellsOf e)) (P.cellsOf e) = some y.1∧z2m w Te y.1 y.2:=fun i him=>by
     obtain ⟨cs',h1,h2⟩:=hi i (by omega)
     obtain ⟨ds,hd⟩:=z4o n hTe (hwi i him) h2
     exact ⟨(cs',ds),h1,hd⟩
    obtain ⟨S,hS⟩:=choose_lt each
    have hL:((List.range len).map fun i=>(S i).2).length = len:=by simp
    have hcell:∀ i,i < len->∀ (j:Nat) (u:Value),((S i).1)[j]? = some u->w.cell? (a.add (i * P.cellsOf e + j)) = some u:=by
     intro i hil j u hj
     obtain ⟨_,hlen,hat⟩:=World.cells?_some (hS i hil).1
     have hjl:j < P.cellsOf e:=by rw [← hlen]; exact (List.getElem?_eq_some_iff.1 hj).1
     rw [← Go.Deep.add_add,hat j hjl,hj]
    refine ⟨[.sl (((List.range len).map fun i=>(S i).2).map (zko Te))],.sl Te _ (by rw [hL]; exact Nat.le_trans hlr (by decide)) (fun c hc=>?_),rfl,fun j d v hd hv=>?_⟩
    ·obtain ⟨i,hir,rfl⟩:=List.mem_map.1 hc
     exact (hS i (List.mem_range.1 hir)).2.1
    ·cases j with
     | succ j=>simp at hd
     | zero =>
      cases hd; cases hv
      have hL2:(((List.range len).map fun i=>(S i).2).map (zko Te)).length = len:=by simp
      have hget:∀ (i:Nat) (d:AV),(((List.range len).map fun i=>(S i).2).map (zko Te))[i]? = some d->i < len∧d = zko Te (S i).2:=by
       intro i d hd
       rw [List.getElem?_map,List.getElem?_map] at hd
       by_cases hlt:i < len
       ·rw [List.getElem?_range hlt] at hd; simp at hd
        exact ⟨hlt,hd.symm⟩
       ·rw [List.getElem?_eq_none (by simp; omega)] at hd; cases hd
      have key:VR (fun b _=>b < w.heap.size) w (.sl (((List.range len).map fun i=>(S i).2).map (zko Te))) (.slice (some a) (((List.range len).map fun i=>(S i).2).map (zko Te)).length cap):=by
       refine .sl _ (some a) cap (P.cellsOf e) (fun i j=>((S i).1).getD j (.bool false)) (by rw [hL2]; omega) hm (fun h0=>?_) (fun i d j c hi hj=>?_)
       ·rw [hL2] at h0
        obtain ⟨ab,ao,asp⟩:=a
        obtain ⟨_,hlen,_⟩:=World.cells?_some (hS 0 h0).1
        have hu0:((S 0).1)[0]? = some (((S 0).1)[0]'(by omega)):=List.getElem?_eq_getElem _
        have hc0:=hcell 0 h0 0 _ hu0
        have e0:(⟨ab,ao,asp⟩:Addr).add (0 * P.cellsOf e + 0) = ⟨ab,ao,asp⟩:=by simp [Addr.add]
        rw [e0] at hc0
        have hsp:asp = none:=by
         cases asp with
         | none=>rfl
         | some k =>
          simp only [World.cell?] at hc0
          split at hc0
          ·simp at hc0
          ·cases hc0
        subst hsp
        have hlt:=block_lt_of_cell hc0
        refine ⟨ab,ao,rfl,hlt,fun d hd=>?_,fun i j hi hj=>⟨hlt,?_⟩⟩
        ·obtain ⟨c,hc,rfl⟩:=List.mem_map.1 hd
         obtain ⟨i,hir,rfl⟩:=List.mem_map.1 hc
         have h2:=(hS i (List.mem_range.1 hir)).2
         obtain ⟨_,hlen,_⟩:=World.cells?_some (hS i (List.mem_range.1 hir)).1
         rw [zio h2.1,h2.2.1,hlen]
        ·rw [hL2] at hi
         obtain ⟨_,hlen,_⟩:=World.cells?_some (hS i hi).1
         have hv:((S i).1)[j]? = some (((S i).1).getD j (.bool false)):=by
          rw [List.getD_eq_getElem?_getD,List.getElem?_eq_getElem (by omega)]; rfl
         have:=hcell i hi j _ hv
         have e:(⟨ab,ao,none⟩:Addr).add (i * P.cellsOf e + j) = ⟨ab,ao + (i * P.cellsOf e + j),none⟩:=by
          unfold Addr.add; split
          ·rename_i h; rw [h]; rfl
          ·rfl
         rwa [e] at this
       ·obtain ⟨hlt,rfl⟩:=hget i d hi
        obtain ⟨q1,q2,q3⟩:=(hS i hlt).2
        rw [zio q1] at hj
        have hjl:=(List.getElem?_eq_some_iff.1 hj).1
        refine q3 j c _ hj ?_
        rw [List.getD_eq_getElem?_getD,List.getElem?_eq_getElem (by omega)]; rfl
      rw [hL2] at key
      exact key
  ·rename_i fs hu
   split at ht
   case isFalse=>cases ht
   rename_i hoff
   obtain ⟨Ts,hTs,rfl⟩:=Option.map_eq_some_iff.1 ht
   obtain ⟨xs,m,_,rfl,hl,hxs,hf⟩:=DataW.trod_struct hu h
   simp only [DataW.weights,hu] at hw
   have:=z6x (n:=n) (m:=m) (fun h1 h2 h3=>z4o n h1 h2 h3) (cs:=cs) (fs.toList.map fun f=>(f.offset,f.type)) 0 Ts xs (by rw [hl]; exact hoff) (by rw [List.map_map]; exact hTs) (by simpa using hxs)
    (fun i f hfi=>by
     rw [List.getElem?_map,Option.map_eq_some_iff] at hfi
     obtain ⟨g,hg,rfl⟩:=hfi
     exact hf i g (by simpa using hg)) (by rw [List.map_map]; exact hw)
   simpa using this
  ·rename_i k e hu
   split at ht
   case isFalse=>cases ht
   rename_i hoff
   obtain ⟨Ts,hTs,rfl⟩:=Option.map_eq_some_iff.1 ht
   obtain ⟨xs,m,_,rfl,hl,hxs,hf⟩:=DataW.trod_array hu h
   simp only [DataW.weights,hu] at hw
   have hm:(z2j k (P.cellsOf e) e k).map (·.2) = List.replicate k e:=by
    have:∀ j,(z2j k (P.cellsOf e) e j).map (·.2) = List.replicate j e:=by
     intro j
     induction j with
     | zero=>rfl
     | succ j ih=>rw [z2j,List.map_cons,ih,List.replicate_succ]
    exact this k
   have hlen:(z2j k (P.cellsOf e) e k).length = k:=by
    have:=congrArg List.length hm
    simpa using this
   have:=z6x (n:=n) (m:=m) (fun h1 h2 h3=>z4o n h1 h2 h3) (cs:=cs) (z2j k (P.cellsOf e) e k) 0 Ts xs (by rw [hl]; exact hoff) (by rw [hm]; exact hTs) (by rw [hlen,hxs])
    (fun i f hfi=>by
     obtain ⟨h1,rfl⟩:=zxj _ _ _ _ _ _ (Nat.le_refl _) hfi
     rw [Nat.sub_self,Nat.zero_add]
     exact hf i h1) (by rw [hm]; exact zdy (by rw [List.length_map,hxs]) hw)
   simpa using this
  ·cases ht
end
end Go.Proofs.YtlhblpbfhfhlpaaGreat
end
section
namespace Go.Proofs.YtlhblpbfhfhlpaaGreat.kp
open Go.Op (bytesLess)
def common:List UInt8->List UInt8->Nat
 | a :: x,b :: y=>if a = b then common x y + 1 else 0
 | _,_=>0
theorem less_cons (a b:UInt8) (x y:List UInt8):bytesLess (a :: x) (b :: y) = (decide (a < b) || (a == b && bytesLess x y)):=rfl
theorem less_nil (x:List UInt8):bytesLess x [] = false:=by cases x <;> rfl
theorem nil_less (b:UInt8) (y:List UInt8):bytesLess [] (b :: y) = true:=rfl
theorem u8_lt_irrefl (a:UInt8):¬ a < a:=by simp
theorem zzf {a b:UInt8} (h1:¬ a < b) (h2:¬ b < a):a = b:=by
 apply UInt8.toNat.inj; simp [UInt8.lt_iff_toNat_lt] at h1 h2; omega
theorem u8_lt_trans {a b c:UInt8} (h1:a < b) (h2:b < c):a < c:=by simp [UInt8.lt_iff_toNat_lt] at *; omega
theorem less_irrefl:∀ x:List UInt8,bytesLess x x = false
 | []=>rfl
 | a :: x=>by simp [less_cons,less_irrefl x]
theorem less_total:∀ x y:List UInt8,bytesLess x y = false->bytesLess y x = false->x = y
 | [],[],_,_=>rfl
 | [],_ :: _,h,_=>by simp [nil_less] at h
 | _ :: _,[],_,h=>by simp [nil_less] at h
 | a :: x,b :: y,h1,h2=>by
  simp only [less_cons,Bool.or_eq_false_iff,decide_eq_false_iff_not,Bool.and_eq_false_iff] at h1 h2
  have e:=zzf h1.1 h2.1
  subst e
  simp at h1 h2
  rw [less_total x y h1 h2]
theorem less_asymm:∀ x y:List UInt8,bytesLess x y = true->bytesLess y x = false
 | _,[],h=>by simp [less_nil] at h
 | [],b :: y,_=>by simp [less_nil]
 | a :: x,b :: y,h=>by
  simp only [less_cons,Bool.or_eq_true,decide_eq_true_eq,Bool.and_eq_true,beq_iff_eq] at h
  simp only [less_cons,Bool.or_eq_false_iff,decide_eq_false_iff_not,Bool.and_eq_false_iff]
  rcases h with h | ⟨rfl,h⟩
  ·refine ⟨fun h'=>u8_lt_irrefl _ (u8_lt_trans h h'),.inl ?_⟩
   simp only [beq_eq_false_iff_ne]
   intro e; subst e; exact u8_lt_irrefl _ h
  ·exact ⟨u8_lt_irrefl _,.inr (less_asymm x y h)⟩
theorem less_trans:∀ x y z:List UInt8,bytesLess x y = true->bytesLess y z = true->bytesLess x z = true
 | _,[],_,h,_=>by simp [less_nil] at h
 | _,_ :: _,[],_,h=>by simp [less_nil] at h
 | [],_ :: _,_ :: _,_,_=>rfl
 | a :: x,b :: y,c :: z,h1,h2=>by
  simp only [less_cons,Bool.or_eq_true,decide_eq_true_eq,Bool.and_eq_true,beq_iff_eq] at *
  rcases h1 with h1 | ⟨rfl,h1⟩ <;> rcases h2 with h2 | ⟨rfl,h2⟩
  ·exact .inl (u8_lt_trans h1 h2)
  ·exact .inl h1
  ·exact .inl h2
  ·exact .inr ⟨rfl,less_trans x y z h1 h2⟩
end Go.Proofs.YtlhblpbfhfhlpaaGreat.kp
end
section
namespace Go.Proofs.YtlhblpbfhfhlpaaGreat
open Go.RowKit
structure Spn where
 lo:ByteArray
 hi:ByteArray
 op:Bool
deriving DecidableEq
def Spn.a (s:Spn):AV:=.agg [.str s.lo,.str s.hi,.bool s.op]
def lt (a b:ByteArray):Bool:=Op.bytesLess a.toList b.toList
def Spn.has (s:Spn) (k:ByteArray):Bool:=!lt k s.lo && (s.op || lt k s.hi)
def Spn.empty (s:Spn):Bool:=!s.op && !lt s.lo s.hi
def Spn.none:Spn:=⟨⟨#[]⟩,⟨#[]⟩,false⟩
def Spn.norm (s:Spn):Spn:=if s.empty then Spn.none else if s.op then ⟨s.lo,⟨#[]⟩,true⟩ else s
def maxS (a b:ByteArray):ByteArray:=if lt a b then b else a
def minS (a b:ByteArray):ByteArray:=if lt b a then b else a
def Spn.cut (a b:Spn):Spn:=⟨maxS a.lo b.lo,if a.op then b.hi else if b.op then a.hi else minS a.hi b.hi,a.op && b.op⟩
def Spn.meet (a b:Spn):Spn:=(a.cut b).norm
def Spn.within (a b:Spn):Bool:=decide ((a.meet b).norm = a.norm)
def Spn.touch (a b:Spn):Bool:=!(a.meet b).empty
attribute [local irreducible] mxS mnS
theorem Spn.ext' {a b:Spn} (h1:a.lo = b.lo) (h2:a.hi = b.hi) (h3:a.op = b.op):a = b:=by cases a; cases b; simp_all
def z2i (k:ByteArray):Spn:=⟨k,k ++ ⟨#[0]⟩,false⟩
end Go.Proofs.YtlhblpbfhfhlpaaGreat
end
section
namespace Go.Proofs.YtlhblpbfhfhlpaaGreat
open Go.RowKit
structure Eff where
 kind:Int
 val:ByteArray
deriving DecidableEq
structure Msg where
 stamp:Int
 kind:Int
 key:ByteArray
 hi:ByteArray
 op:Bool
 val:ByteArray
deriving DecidableEq
def Eff.a (e:Eff):AV:=.agg [.int .i64 e.kind,.str e.val]
def Msg.a (m:Msg):AV:=.agg [.int .i64 m.stamp,.int .i64 m.kind,.str m.key,.str m.hi,.bool m.op,.str m.val]
def Eff.none:Eff:=⟨0,⟨#[]⟩⟩
def z3q (s:ByteArray):ByteArray:=s.extract (s.size - 16) s.size
def Eff.thenC (a b:Eff):Eff:=if b.kind = 0 then a else if b.kind ≠ 2∨a.kind = 0 then b else ⟨if a.kind = 2 then 2 else 1,z3q ((if a.kind = 3 then ⟨#[]⟩ else a.val) ++ b.val)⟩
def Eff.thenR (a b:Eff):Eff:=if b.kind = 0 then a else if b.kind ≠ 2∨a.kind = 0 then b else ⟨if a.kind = 2 then 2 else 1,z3q (a.val ++ b.val)⟩
theorem then_same {a:Eff} (b:Eff) (h:a.kind = 3->a.val = ⟨#[]⟩):a.thenC b = a.thenR b:=by
 unfold Eff.thenC Eff.thenR
 split
 ·rfl
 ·split
  ·rfl
  ·by_cases h3:a.kind = 3
   ·rw [if_pos h3,h h3]
   ·rw [if_neg h3]
def Msg.span (m:Msg):Spn:=if m.kind = 4 then ⟨m.key,m.hi,m.op⟩ else z2i m.key
def Msg.on (m:Msg) (k:ByteArray):Eff:=if m.span.has k = true then (if m.kind = 1∨m.kind = 2 then ⟨m.kind,m.val⟩ else if m.kind = 3∨m.kind = 4 then ⟨3,⟨#[]⟩⟩ else Eff.none) else Eff.none
def z3b (a b:Msg):Msg × Bool :=
 if b.kind = 4∧a.span.within b.span = true then (b,true)
 else if a.kind = 4∨b.kind = 4∨a.key ≠ b.key then (⟨0,0,⟨#[]⟩,⟨#[]⟩,false,⟨#[]⟩⟩,false)
 else ({ b with kind:=((a.on a.key).thenC (b.on b.key)).kind,val:=((a.on a.key).thenC (b.on b.key)).val },true)
end Go.Proofs.YtlhblpbfhfhlpaaGreat
end
section
namespace Go.Proofs.YtlhblpbfhfhlpaaGreat
open Go.RowKit
def MOk (l:List Msg):Prop:=l.length≤1000000∧∀ m,m ∈ l->m.key.size≤9223372036854775806
def z1x (p:Nat->Bool):Nat->Nat->Option Nat
 | 0,_=>none
 | f + 1,j=>if p j then some j else z1x p f (j + 1)
def z43 (l:List Msg) (i:Nat):Option Nat:=match l[i]? with
 | some m=>z1x (fun j=>(l[j]?).any fun x=>x.span.touch m.span) (l.length - (i + 1)) (i + 1)
 | none=>none
def cov (l:List Msg) (i:Nat):Bool:=match l[i]? with
 | some m=>(l.drop (i + 1)).any fun x=>x.kind == 4 && m.span.within x.span
 | none=>false
def dead (l:List Msg) (i:Nat):Bool:=match l[i]? with
 | some m=>if m.kind = 4 then cov l i else match z43 l i with
  | some j=>(l[j]?).any fun x=>x.kind != 2
  | none=>false
 | none=>false
theorem z4d {p:Nat->Bool}:∀ {f j k:Nat},z1x p f j = some k->j≤k∧k < j + f∧p k = true
 | 0,j,k,h=>by simp [z1x] at h
 | f + 1,j,k,h=>by
  simp only [z1x] at h
  by_cases hp:p j = true
  ·rw [if_pos hp] at h; cases h
   exact ⟨Nat.le_refl _,by omega,hp⟩
  ·rw [if_neg hp] at h
   obtain ⟨h1,h2,h3⟩:=z4d h
   exact ⟨by omega,by omega,h3⟩
theorem ziu {l:List Msg} {i j:Nat} (h:z43 l i = some j):i < j∧∃ x,l[j]? = some x:=by
 unfold z43 at h
 split at h
 ·obtain ⟨h1,h2,h3⟩:=z4d h
  refine ⟨by omega,?_⟩
  cases hx:l[j]? with
  | none=>simp only [hx] at h3; cases h3
  | some x=>exact ⟨x,rfl⟩
 ·cases h
end Go.Proofs.YtlhblpbfhfhlpaaGreat
end
section
namespace Go.Proofs.YtlhblpbfhfhlpaaGreat
open Go.RowKit
def sqGo:Nat->Nat->List Msg->List Msg->List Msg
 | 0,_,_,out=>out
 | f + 1,i,rest,out=>match rest[i]? with
  | none=>out
  | some m=>if dead rest i then sqGo f (i + 1) rest out else match z43 rest i with
   | none=>sqGo f (i + 1) rest (out ++ [m])
   | some j=>if m.kind = 4 then sqGo f (i + 1) rest (out ++ [m]) else match rest[j]? with
    | none=>out
    | some x=>if (z3b m x).2 then sqGo f (i + 1) (rest.set j (z3b m x).1) out else sqGo f (i + 1) rest (out ++ [m])
def z8s (l:List Msg):List Msg:=sqGo l.length 0 l []
def ROk (l:List Msg):Prop:=l.length≤1000000∧∀ m,m ∈ l->m.key.size≤9223372036854775806∧m.val.size≤4611686018427387903
theorem ROk.ok {l:List Msg} (h:ROk l):MOk l:=⟨h.1,fun m hm=>(h.2 m hm).1⟩
theorem on_size (m:Msg) (k:ByteArray):(m.on k).val.size≤m.val.size:=by
 unfold Msg.on Eff.none
 split
 ·split
  ·exact Nat.le_refl _
  ·split <;> exact Nat.zero_le _
 ·exact Nat.zero_le _
theorem zzh (s:ByteArray):(z3q s).size≤16:=by
 unfold z3q
 rw [ByteArray.size_extract]
 omega
end Go.Proofs.YtlhblpbfhfhlpaaGreat
end
