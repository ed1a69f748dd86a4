/-
  Part 6 of a proof: AmI, AmJ, AmK0, AmK.
-/
import Derived.Great.BuildSlice
import Derived.WalkSpells
import Derived.Test.YtlhblpbfhfhlpaaGreatDoorSB5
set_option linter.unusedVariables false
set_option linter.unusedSimpArgs false
section
namespace Go.Proofs.YtlhblpbfhfhlpaaGreatDoor
open Go.RowKit
theorem zqm (size:Nat):∀ (vs:List Value) (k:Nat) (cs:Array Value),(∀ v,v ∈ vs->v.cells.size = size)->(k + vs.length) * size≤cs.size ->
  ∃ out,Instr.fill (fun i=>some (i * size,size)) cs ((vs.zipIdx k).map fun p=>(p.2,p.1)) = some out∧out.toList = cs.toList.take (k * size) ++ vs.flatMap (fun v=>v.cells.toList) ++ cs.toList.drop ((k + vs.length) * size)
 | [],k,cs,_,_=>⟨cs,rfl,by simp⟩
 | v :: vs,k,cs,hv,h=>by
  have hvs:=hv v (by simp)
  have hle:k * size + size≤cs.size:=by
   have e:(k + (v :: vs).length) * size = k * size + size + vs.length * size:=by
    rw [List.length_cons,Nat.add_mul,Nat.succ_mul]; omega
   omega
  have hl:=za5 (k * size) v.cells.toList 0 cs (by simp [hvs]; omega)
  simp only [List.zipIdx_cons,List.map_cons,Instr.fill]
  rw [if_neg (by simp [hvs]; omega)]
  have hf:(v.cells.zipIdx.foldl (fun cs (p:Value × Nat)=>cs.setIfInBounds (k * size + p.2) p.1) cs) = ((v.cells.toList.zipIdx 0).foldl (fun cs (p:Value × Nat)=>cs.setIfInBounds (k * size + p.2) p.1) cs):=by
   rw [← Array.foldl_toList,Array.toList_zipIdx]
  show ∃ out,Instr.fill _ (v.cells.zipIdx.foldl (fun cs (p:Value × Nat)=>cs.setIfInBounds (k * size + p.2) p.1) cs) _ = some out∧_
  rw [hf]
  generalize ((v.cells.toList.zipIdx 0).foldl (fun cs (p:Value × Nat)=>cs.setIfInBounds (k * size + p.2) p.1) cs) = cs' at hl ⊢
  have hsz:cs'.size = cs.size:=by
   have:=congrArg List.length hl
   simp [hvs] at this
   omega
  obtain ⟨out,h1,h2⟩:=zqm size vs (k + 1) cs' (fun x hx=>hv x (by simp [hx])) (by rw [hsz]; simp at h; rw [show k + 1 + vs.length = k + (vs.length + 1) by omega]; exact h)
  refine ⟨out,h1,?_⟩
  rw [h2,hl]
  have l1:(cs.toList.take (k * size + 0)).length = k * size:=by rw [List.length_take]; simp; omega
  have l2:v.cells.toList.length = size:=by simp [hvs]
  simp only [Nat.add_zero] at l1 ⊢
  have t1:(List.take (k * size) cs.toList ++ v.cells.toList ++ List.drop (k * size + v.cells.toList.length) cs.toList).take ((k + 1) * size) = List.take (k * size) cs.toList ++ v.cells.toList:=by
   rw [List.take_append_of_le_length (by simp [hvs,Nat.add_mul]; omega),List.take_of_length_le (by simp [hvs,Nat.add_mul]; omega)]
  have t2:(List.take (k * size) cs.toList ++ v.cells.toList ++ List.drop (k * size + v.cells.toList.length) cs.toList).drop ((k + 1 + vs.length) * size) = cs.toList.drop ((k + (v :: vs).length) * size):=by
   have e:(k + 1 + vs.length) * size = k * size + size + vs.length * size:=by rw [Nat.add_mul,Nat.add_mul]; omega
   rw [List.drop_append,List.length_append,l1,l2,e,List.drop_of_length_le (by simp [hvs]; omega),List.nil_append,List.drop_drop]
   congr 1
   rw [List.length_cons,Nat.add_mul,Nat.succ_mul]; omega
  rw [t1,t2]
  simp
section
variable {pv:Bool} {P:Program} {w0:Start} {Pr0:Nat->Nat->Prop} {n:Nat} {μ:Nat->Option Nat} {σ:St} {a:Act} {w:World} {Pr:Nat->Nat->Prop} {H:Nat->Option Arr}
theorem zfy {ρ:Operand->Value}:∀ {l:List (Nat × Operand)} {k:Nat},l.map (·.1) = (List.range l.length).map (· + k)->l.map (fun p=>(p.1,ρ p.2)) = (((l.map (·.2)).map ρ).zipIdx k).map fun p=>(p.2,p.1)
 | [],k,h=>rfl
 | p :: l,k,h=>by
  rw [List.length_cons,List.range_succ_eq_map,List.map_cons,List.map_cons,List.map_map] at h
  injection h with h1 h2
  have ih:=zfy (ρ:=ρ) (l:=l) (k:=k + 1) (by rw [h2]; apply List.map_congr_left; intro x _; simp; omega)
  simp only [List.map_cons,List.zipIdx_cons,ih]
  simp at h1
  rw [h1]
theorem flat_get {size:Nat}:∀ {vs:List Value} {i j:Nat} {v u:Value},(∀ v,v ∈ vs->v.cells.size = size)->vs[i]? = some v->v.cells[j]? = some u->(vs.flatMap (fun v=>v.cells.toList))[i * size + j]? = some u
 | [],i,j,v,u,_,hi,_=>by simp at hi
 | x :: vs,0,j,v,u,hs,hi,hj=>by
  simp at hi; subst hi
  have hjl:=(Array.getElem?_eq_some_iff.1 hj).1
  rw [List.flatMap_cons,List.getElem?_append_left (by simp; omega),Nat.zero_mul,Nat.zero_add]
  simpa using hj
 | x :: vs,i + 1,j,v,u,hs,hi,hj=>by
  have ih:=flat_get (vs:=vs) (i:=i) (j:=j) (fun v hv=>hs v (by simp [hv])) (by simpa using hi) hj
  have hx:=hs x (by simp)
  rw [List.flatMap_cons,List.getElem?_append_right (by simp [hx,Nat.succ_mul]; omega)]
  rw [show (i + 1) * size + j - x.cells.toList.length = i * size + j by simp [hx,Nat.succ_mul]; omega]
  exact ih
theorem zql {size:Nat}:∀ {vs:List Value},(∀ v,v ∈ vs->v.cells.size = size)->(vs.flatMap (fun v=>v.cells.toList)).length = vs.length * size
 | [],_=>by simp
 | x :: vs,hs=>by
  rw [List.flatMap_cons,List.length_append,zql (vs:=vs) (fun v hv=>hs v (by simp [hv])),List.length_cons,Nat.succ_mul]
  simp [hs x (by simp)]; omega
theorem bsl_sound {C:FuncId->List AV->AV->Prop} {o:Oper} {t e:TypeId} {len:Nat} {parts:Array (Nat × Operand)} {i:TypeInfo} {zv:Value} {xs:List IOpd} {dst:Nat} (ho:o.op = .buildSlice t len parts) (ht:P.underlying t = some (.slice e)) (hx:z0k (parts.toList.map (·.2)) = some xs)
  (hi:P.info? e = some i) (hzv:i.zero = some zv) (hp:(zkx len parts.toList && decide (len * i.size≤16777216) && zv.cells.size == i.size) = true) (hdst:o.dst = some dst) (hn:dst < n)
  (h:SR w0 Pr0 n μ σ a w) (h0:σ.H dst = none) (hT:∀ t,(σ.T t).name ≠ some dst) {hid:List Nat} {K:AV->Option Arr->List Nat->Prop} (hE:z0x C dst hid σ K (.bsl i.size e xs)) {Q:Exit->Act->World->Prop} :
  o.wp P a w (Made w0 Pr0 n σ dst K) Q:=by
 simp only [z0x] at hE
 split at hE
 ·rename_i ds fz hbv
  obtain ⟨hz,hds,hK⟩:=hE
  simp only [Bool.and_eq_true,decide_eq_true_eq,beq_iff_eq,zkx] at hp
  obtain ⟨⟨hp1,hp2⟩,hp3⟩:=hp
  have hplen:parts.toList.length = len:=by have:=congrArg List.length hp1; simpa using this
  obtain ⟨l1,t1⟩:=h.gets hx
  have hS:SR w0 Pr0 n μ (σ.fzs fz) a w:=SR.fzs h
  obtain ⟨l2,b2⟩:=h.byvals hS hbv l1 t1 z1x
  obtain ⟨vs,hvs⟩:∃ vs,(parts.toList.map (·.2)).map a.eval = vs:=⟨_,rfl⟩
  rw [hvs] at l1 l2 b2 t1
  have hvlen:vs.length = len:=by rw [← hvs]; simpa using hplen
  have hvcell:∀ v,v ∈ vs->v.cells.size = i.size:=by
   intro v hv
   obtain ⟨j,hj⟩:=List.mem_iff_getElem?.1 hv
   have hjl:=(List.getElem?_eq_some_iff.1 hj).1
   have hd:ds[j]? = some (ds[j]'(by omega)):=List.getElem?_eq_getElem _
   have:=(b2 j _ v hd hj).cells.1
   rw [← this]
   exact (hds _ (List.mem_of_getElem? hd)).1
  have hpar:(parts.map fun (p:Nat × Operand)=>(p.1,a.eval p.2)).toList = (vs.zipIdx 0).map fun p=>(p.2,p.1):=by
   rw [Array.toList_map,zfy (k:=0) (by rw [hplen]; simpa using hp1),hvs]
  obtain ⟨out,hf1,hf2⟩:=zqm i.size vs 0 ((Array.range (len * i.size)).map fun x=>zv.cells[x % zv.cells.size]!) hvcell (by simp [hvlen])
  have hout:out.toList = vs.flatMap (fun v=>v.cells.toList):=by
   rw [hf2,Nat.zero_mul,List.take_zero,List.nil_append,Nat.zero_add,hvlen,List.drop_of_length_le (by simp),List.append_nil]
  have hosz:out.size = len * i.size:=by rw [← Array.length_toList,hout,zql hvcell,hvlen]
  have hrun:(execOp a.eval o).run P w = .ok (.value (.slice (some ⟨w.heap.size,0,none⟩) len len)) (w.alloc (.cells out e)):=by
   have hcap:¬ (len * i.size > 2 ^ 24):=by omega
   simp only [execOp,ho,Instr.buildSlice]
   by_cases hz0:len * i.size = 0
   ·have hl0:len = 0:=by
     rcases Nat.mul_eq_zero.1 hz0 with q | q
     ·exact q
     ·omega
    subst hl0
    have hv0:vs = []:=List.length_eq_zero_iff.1 hvlen
    subst hv0
    have hp0:parts = #[]:=by apply Array.ext'; exact List.length_eq_zero_iff.1 hplen
    have ho0:out = #[]:=by apply Array.ext'; rw [hout]; rfl
    subst hp0
    subst ho0
    simp [run_underlying ht,sizeOf,typeInfo,hi,Instr.fill,newRow]
    congr 2
    apply Array.ext'
    simp
   ·simp only [Sem.run_bind,run_underlying ht,Result.andThen_ok,sizeOf,typeInfo,run_program,hi,Sem.run_pure,if_neg hcap,if_neg hz0,zeroValue,hzv]
    rw [hpar,hf1]
    simp [newRow]
  unfold Oper.wp
  rw [hrun,Oper.upon_value,hdst]
  have hb:Below w.heap.size w (w.alloc (.cells out e)):=(Below.refl _ _).alloc (Nat.le_refl _) _
  have hdl:ds.length = len:=by rw [l2,hvlen]
  have hS2:=SR.adopt hS hb (g:=w.heap.size) (Nat.le_refl _) (Nat.lt_of_lt_of_le hn h.small) (z0l h0) (by rw [z4i]; exact hT) (arr:=⟨i.size,e,ds,0⟩) (cs:=out) rfl hz (fun x hx=>⟨(hds x hx).1,fun c hc=>List.all_eq_true.1 (hds x hx).2 c hc⟩) (heap_alloc_new w _)
   (by show ds.length * i.size≤_; rw [hosz,hdl]; exact Nat.le_refl _) (by
   intro k x j c hk hj
   have hkl:k < ds.length:=(List.getElem?_eq_some_iff.1 hk).1
   have hv:vs[k]? = some (vs[k]'(by omega)):=List.getElem?_eq_getElem _
   have hr:=b2 k x _ hk hv
   obtain ⟨c1,c2⟩:=hr.cells
   have hjl:=(List.getElem?_eq_some_iff.1 hj).1
   have hu:(vs[k]'(by omega)).cells[j]? = some ((vs[k]'(by omega)).cells[j]'(by omega)):=Array.getElem?_eq_getElem _
   refine ⟨_,?_,(c2 j c _ hj hu).kept ⟨hb.size,fun b o hlt hp=>⟨hp,by omega⟩,fun b o hlt _=>hb.cell (p:=⟨b,o,none⟩) hlt,fun b ms c hlt _ e=>by rw [hb.block b hlt]; exact e⟩⟩
   have:=flat_get hvcell hv hu
   rw [← Array.getElem?_toList,hout]; exact this)
  refine ⟨_,_,_,fz,hK,SR.put hS2 hn ?_⟩
  intro arr ha
  have ha2:upd (σ.fzs fz).H dst (some ⟨i.size,e,ds,0⟩) dst = some arr:=ha
  rw [z03] at ha2
  cases ha2
  refine .inr ⟨w.heap.size,len,out,z03 _ _ _,.inl (by rw [Nat.zero_mul,hdl]),heap_alloc_new w _,by rw [Nat.zero_add,hosz],by simp,by omega,?_⟩
  have:len≤len * i.size:=Nat.le_mul_of_pos_right _ hz
  have h9:maxLen = 9223372036854775807:=rfl
  omega
 ·exact hE.elim
def IOp.pure:IOp->Bool
 | .alloc .. | .box .. | .mknil .. | .bsl .. | .callv .. | .call ..=>false
 | _=>true
theorem compV_pure {op:Op} {io:IOp} (h:zba pv P op = some io):io.pure = true:=by
 unfold zba at h
 repeat' split at h
 all_goals first
  | (cases h; done)
  | (cases h; rfl)
  | (cases h; split <;> rfl)
  | (rw [Option.map_eq_some_iff] at h; obtain ⟨_,_,rfl⟩:=h; rfl)
theorem zco {C:FuncId->List AV->AV->Prop} {dst:Nat} {hid:List Nat} {K:AV->Option Arr->List Nat->Prop} {io:IOp} (h:io.pure = true) (hE:z0x C dst hid σ K io):z05 hid σ (fun v fz=>K v none fz) io:=by
 cases io <;> first | exact hE | cases h
theorem z48 {o:Oper} {io:IOp} {dst:Nat} (hc:zit pv P o = some io) (hdst:o.dst = some dst) (hn:dst < n)
  (h:SR w0 Pr0 n μ σ a w) (hF:io.pure = false->σ.H dst = none∧∀ t,(σ.T t).name ≠ some dst) {hid:List Nat} {K:AV->Option Arr->List Nat->Prop} (hE:z0x (AFn P) dst hid σ K io) {Q:Exit->Act->World->Prop} :
  o.wp P a w (Made w0 Pr0 n σ dst K) Q:=by
 have pureCase:zba pv P o.op = some io->o.wp P a w (Made w0 Pr0 n σ dst K) Q:=by
  intro hv
  obtain ⟨d,fz,v,hK,hrun,ht⟩:=zlw hv h (zco (compV_pure hv) hE)
  unfold Oper.wp
  rw [hrun,Oper.upon_value,hdst]
  exact ⟨_,_,none,fz,hK,(SR.fzs h).made_none hn ht⟩
 unfold zit at hc
 split at hc
 ·rename_i e ho
  split at hc
  ·rename_i i hi
   split at hc
   ·rename_i zv hz
    rw [Option.map_eq_some_iff] at hc
    obtain ⟨d,hd,rfl⟩:=hc
    exact zmj ho hi hz hd hdst hn h (hF rfl).1 (hF rfl).2 hE
   ·cases hc
  ·cases hc
 ·rename_i e x ho
  split at hc
  ·rename_i i ix hi hx
   cases hc
   exact box_sound ho hi hx hdst hn h (hF rfl).1 (hF rfl).2 hE
  ·cases hc
 ·rename_i ho
  split at hc
  ·rename_i e he
   split at hc
   ·rename_i i hi
    cases hc
    exact zl6 ho hdst hn h (hF rfl).1 (hF rfl).2 hE
   ·cases hc
  ·cases hc
 ·rename_i t len parts ho
  split at hc
  ·rename_i e xs h1 h2
   split at hc
   ·rename_i i hi
    split at hc
    ·rename_i zv hz
     split at hc
     ·rename_i hp
      cases hc
      exact bsl_sound ho h1 h2 hi hz hp hdst hn h (hF rfl).1 (hF rfl).2 hE
     ·cases hc
    ·cases hc
   ·cases hc
  ·cases hc
 ·rename_i src dst' x ho
  split at hc
  ·rename_i e ix h1 h2 h3
   split at hc
   ·rename_i he
    cases hc
    exact zcz ho h1 h2 he h3 hdst hn h hE
   ·cases hc
  ·rename_i e ix h1 h2 h3
   split at hc
   ·rename_i he
    cases hc
    exact zj5 ho h1 h2 he h3 hdst hn h hE
   ·cases hc
  ·exact pureCase hc
 ·rename_i t x y ho
  split at hc
  ·rename_i e ix h1 h2
   split at hc
   ·rename_i i hi
    split at hc
    ·rename_i zv hz
     split at hc
     ·rename_i d0 hd0
      split at hc
      ·rename_i hxy
       cases hc
       exact mksl_sound ho h1 hi hz hd0 h2 hxy hdst hn h (hF rfl).1 (hF rfl).2 hE
      ·cases hc
     ·cases hc
    ·cases hc
   ·cases hc
  ·cases hc
 ·rename_i t x y yt ho
  split at hc
  ·rename_i ix iy h1 h2
   cases hc
   exact z9a (.inl ⟨rfl,rfl⟩) ho h1 h2 hdst hn h hE
  ·cases hc
 ·rename_i t x y yt ho
  split at hc
  ·rename_i ix iy h1 h2
   cases hc
   exact z9a (.inr ⟨rfl,rfl⟩) ho h1 h2 hdst hn h hE
  ·cases hc
 ·rename_i c ho
  split at hc
  ·rename_i f hf
   split at hc
   ·rename_i fx xs h1 h2
    cases hc
    exact call_sound ho hf h1 h2 hdst hn h (hF rfl).1 (hF rfl).2 hE
   ·cases hc
  ·exact pureCase hc
 ·exact pureCase hc
end
end Go.Proofs.YtlhblpbfhfhlpaaGreatDoor
end
section
namespace Go.Proofs.YtlhblpbfhfhlpaaGreatDoor
open Go.RowKit
def AV.patch (old:AV) (f z:Nat) (d:AV):AV:=if f = 0∧z = old.cells.length then d else .agg (old.cells.take f ++ d.cells ++ old.cells.drop (f + z))
def z6e (T:Nat->AV) (r:Nat):Nat->AV:=fun t=>if (T t).name = some r then .und else T t
def fitsV (len bytes:Nat):Prop:=len * bytes≤140737488355328∧len≤140737488355328
def z14 (σ:St) (dst:Option Nat) (K:St->Prop):IOp->Prop
 | .store z p x=>match σ.get p with
  | .ptr r i f=>match σ.byval [] (σ.get x) with
   | some (d,fz)=>match (σ.fzs fz).H r with
    | some arr=>match arr.cells[i]? with
     | some old=>d.cells.length = z∧f + z≤old.cells.length∧arr.prot≤i∧d.cells.all AV.one = true ∧
      K ⟨σ.T,upd (σ.fzs fz).H r (some { arr with cells:=arr.cells.set i (old.patch f z d) })⟩
     | none=>False
    | none=>False
   | none=>False
  | _=>False
 | .append z ty bytes x y=>match σ.get x,σ.byval [] (σ.get y),dst with
  | .rs r off len,some (.sl l,fz),some dst=>match (σ.fzs fz).H r with
   | some arr=>r < 1000∧arr.z = z∧arr.ty = ty∧arr.prot≤off + len∧fitsV (len + l.length) bytes∧(∀ d,d ∈ l->d.cells.length = z∧d.cells.all AV.one = true) ∧
    K ⟨upd (z6e σ.T r) dst (.rs r off (len + l.length)),upd (σ.fzs fz).H r (some { arr with cells:=arr.cells.take (off + len) ++ l })⟩ ∧
    (off ≠ 0->K ⟨upd (z6e σ.T r) dst (.rs r 0 (len + l.length)),upd (σ.fzs fz).H r (some ⟨arr.z,arr.ty,(arr.cells.drop off).take len ++ l,0⟩)⟩)
   | none=>False
  | _,_,_=>False
 | .nileq neq x=>match σ.get x,dst with
  | .sl l,some dst=>(l.isEmpty = true->K (σ.set dst (.bool (!neq))))∧K (σ.set dst (.bool neq))
  | .rs r off len,some dst=>(σ.H r).isSome = true∧(len = 0->K (σ.set dst (.bool (!neq))))∧K (σ.set dst (.bool neq))
  | _,_=>False
 | .copy z x y=>match σ.get x,y with
  | .rs r off len,.c d=>match σ.H r with
   | some arr=>arr.z = z∧arr.prot≤off∧d.cells.length = z∧d.cells.all AV.one = true∧dst = none ∧
    K ⟨σ.T,upd σ.H r (some { arr with cells:=arr.cells.take off ++ List.replicate len d ++ arr.cells.drop (off + len) })⟩
   | none=>False
  | _,_=>False
 | .storep z p x=>match σ.get p,σ.get x with
  | .ptr r i f,.rs q off len=>match σ.H r with
   | some arr=>match arr.cells[i]? with
    | some old=>z = 1∧f + 1≤old.cells.length∧arr.prot≤i∧(σ.H q).isSome = true ∧
     ∀ u,u.oneCell' = true->K ⟨upd σ.T (vt r (i * arr.z + f)) (.vrs q off len u),upd σ.H r (some { arr with cells:=arr.cells.set i (old.patch f 1 (.cst u)) })⟩
    | none=>False
   | none=>False
  | .ptr r i f,.sl l=>match σ.H r with
   | some arr=>match arr.cells[i]? with
    | some old=>z = 1∧f + 1≤old.cells.length∧arr.prot≤i∧K ⟨σ.T,upd σ.H r (some { arr with cells:=arr.cells.set i (old.patch f 1 (.sl l)) })⟩
    | none=>False
   | none=>False
  | _,_=>False
 | _=>False
section
variable {P:Program} {w0:Start} {Pr0:Nat->Nat->Prop} {n:Nat} {μ:Nat->Option Nat} {σ:St} {a:Act} {w:World} {Pr:Nat->Nat->Prop} {H:Nat->Option Arr}
theorem SR.keptAt (h:SR w0 Pr0 n μ σ a w) {w':World} {r g:Nat} {arr':Arr} (hsz:w.heap.size≤w'.heap.size) (hoth:∀ k,k < w.heap.size->k ≠ g->w'.heap[k]? = w.heap[k]?) (hg:μ r = some g∨w.heap.size≤g)
  (hkeep:∀ arr,σ.H r = some arr->μ r = some g->arr.z = arr'.z∧arr.prot≤arr'.prot∧∀ o,o < arr.prot * arr.z->w'.cell? ⟨g,o,none⟩ = w.cell? ⟨g,o,none⟩) :
  Kept (PrOf w0 Pr0 μ σ.H) (PrOf w0 Pr0 (upd μ r (some g)) (upd σ.H r (some arr'))) w w':=by
 refine ⟨hsz,fun b o hlt hp=>⟨hp.1,fun s hs=>?_⟩,fun b o hlt hp=>?_,fun b ms c hlt hp hm=>?_⟩
 ·by_cases e:s = r
  ·subst e
   rw [z03] at hs; cases hs
   rw [z03]
   refine ⟨arr',rfl,?_⟩
   rcases hg with hg | hg
   ·obtain ⟨arr,q1,q2⟩:=hp.2 s hg
    obtain ⟨k1,k2,k3⟩:=hkeep arr q1 hg
    rw [← k1]
    exact Nat.lt_of_lt_of_le q2 (Nat.mul_le_mul_right _ k2)
   ·omega
  ·rw [z04 _ _ e] at hs ⊢
   exact hp.2 s hs
 ·by_cases e:b = g
  ·subst e
   rcases hg with hg | hg
   ·obtain ⟨arr,q1,q2⟩:=hp.2 r hg
    exact (hkeep arr q1 hg).2.2 o q2
   ·omega
  ·exact World.cell?_of_block (w:=w) (hoth b hlt e)
 ·by_cases e:b = g
  ·subst e
   rcases hg with hg | hg
   ·obtain ⟨arr,q1,q2⟩:=hp.2 r hg
    obtain ⟨o1,o2,o3,o4⟩:=h.obj r arr q1
    rw [hg] at o4
    rcases o4 with ⟨p0,_⟩ | ⟨cs,p1,_⟩
    ·rw [p0] at o2
     have:arr.prot = 0:=Nat.le_zero.1 o2
     rw [this,Nat.zero_mul] at q2
     omega
    ·rw [p1] at hm; cases hm
   ·omega
  ·rw [hoth b hlt e]; exact hm
theorem SR.remake (h:SR w0 Pr0 n μ σ a w) {w':World} {r g:Nat} {arr':Arr} {cs':Array Value} (hB:Below w0.w.heap.size w0.w w') (hsz:w.heap.size≤w'.heap.size) (hoth:∀ k,k < w.heap.size->k ≠ g->w'.heap[k]? = w.heap[k]?) (hg:μ r = some g∨w.heap.size≤g)
  (hblk:w'.heap[g]? = some (.cells cs' arr'.ty (0,0)))
  (hkeep:∀ arr,σ.H r = some arr->μ r = some g->arr.z = arr'.z∧arr.prot≤arr'.prot∧∀ o,o < arr.prot * arr.z->w'.cell? ⟨g,o,none⟩ = w.cell? ⟨g,o,none⟩)
  (hz:0 < arr'.z) (hp:arr'.prot≤arr'.cells.length) (hones:∀ x,x ∈ arr'.cells->x.cells.length = arr'.z∧∀ c,c ∈ x.cells->c.one = true) (hcs:arr'.cells.length * arr'.z≤cs'.size)
  (hel:∀ (i:Nat) (x:AV) (j:Nat) (c:AV),arr'.cells[i]? = some x->x.cells[j]? = some c->∃ u,cs'[i * arr'.z + j]? = some u∧VR (PrOf w0 Pr0 μ σ.H) w c u) (hr:(σ.H r).isSome)
  {T':Nat->AV} (hT:∀ t,T' t = .und∨(T' t = σ.T t∧((σ.T t).name ≠ some r∨∀ v,TR (PrOf w0 Pr0 μ σ.H) μ σ.H w (σ.T t) v->TR (PrOf w0 Pr0 (upd μ r (some g)) (upd σ.H r (some arr'))) (upd μ r (some g)) (upd σ.H r (some arr')) w' (σ.T t) v)))
  (hFr:∀ d v,w0.F d v->d.name ≠ some r∨∀ u,TR (PrOf w0 Pr0 μ σ.H) μ σ.H w d u->TR (PrOf w0 Pr0 (upd μ r (some g)) (upd σ.H r (some arr'))) (upd μ r (some g)) (upd σ.H r (some arr')) w' d u) :
  SR w0 Pr0 n (upd μ r (some g)) ⟨T',upd σ.H r (some arr')⟩ a w':=by
 have k:=h.keptAt (arr':=arr') hsz hoth hg hkeep
 have hgB:w0.w.heap.size≤g:=by
  rcases hg with hg | hg
  ·exact (h.range r g hg).1
  ·exact Nat.le_trans h.below.size hg
 have hne:∀ s b,s ≠ r->μ s = some b->b ≠ g:=fun s b hs hb e=>by
  subst e
  rcases hg with hg | hg
  ·exact hs (h.inj s r b hb hg)
  ·have:=(h.range s b hb).2; omega
 have tr:∀ v u,v.name ≠ some r->TR (PrOf w0 Pr0 μ σ.H) μ σ.H w v u->TR (PrOf w0 Pr0 (upd μ r (some g)) (upd σ.H r (some arr'))) (upd μ r (some g)) (upd σ.H r (some arr')) w' v u:=by
  intro v u hn ht
  cases v with
  | und=>trivial
  | own=>exact ht
  | clom f s =>
   have hs:s ≠ r:=fun e=>hn (by rw [e]; rfl)
   intro ar har
   have har:=(z04 σ.H _ hs).symm.trans har
   rw [z04 _ _ hs]
   exact ht ar har
  | mp s es =>
   have hs:s ≠ r:=fun e=>hn (by rw [e]; rfl)
   intro ar har
   have har:=(z04 σ.H _ hs).symm.trans har
   rw [z04 _ _ hs]
   obtain ⟨b,ms,c,q1,q2,q3,q4⟩:=ht ar har
   exact ⟨b,ms,c,q1,q2,by rw [hoth b (h.range s b q1).2 (hne s b hs q1)]; exact q3,q4.kept k⟩
  | ptr s i f =>
   have hs:s ≠ r:=fun e=>hn (by rw [e]; rfl)
   intro ar har
   have har:=(z04 σ.H _ hs).symm.trans har
   rw [z04 _ _ hs]
   exact ht ar har
  | rs s off len =>
   have hs:s ≠ r:=fun e=>hn (by rw [e]; rfl)
   intro ar har
   have har:=(z04 σ.H _ hs).symm.trans har
   rw [z04 _ _ hs]
   rcases ht ar har with q | ⟨b,cap,cs,q1,q2,q3,q4⟩
   ·exact .inl q
   ·exact .inr ⟨b,cap,cs,q1,q2,by rw [hoth b (h.range s b q1).2 (hne s b hs q1)]; exact q3,q4⟩
  | vrs s off len u0 =>
   have hs:s ≠ r:=fun e=>hn (by rw [e]; rfl)
   intro ar har
   have har:=(z04 σ.H _ hs).symm.trans har
   rw [z04 _ _ hs]
   rcases ht ar har with q | ⟨b,cap,cs,q1,q2,q3,q4⟩
   ·exact .inl q
   ·exact .inr ⟨b,cap,cs,q1,q2,by rw [hoth b (h.range s b q1).2 (hne s b hs q1)]; exact q3,q4⟩
  | _=>exact VR.kept k ht
 refine ⟨hB,fun s s' b hs hs'=>?_,fun s b hs=>?_,fun s b hs=>?_,h.size,fun t=>?_,fun s ar har=>?_,h.defers,h.glob,h.small,fun v u hf=>⟨(h.frame v u hf).1,?_⟩⟩
 ·by_cases e:s = r
  ·subst e; rw [z03] at hs; cases hs
   by_cases e':s' = s
   ·exact e'.symm
   ·rw [z04 _ _ e'] at hs'; exact absurd rfl (hne s' _ e' hs')
  ·rw [z04 _ _ e] at hs
   by_cases e':s' = r
   ·subst e'; rw [z03] at hs'; cases hs'; exact absurd rfl (hne s _ e hs)
   ·rw [z04 _ _ e'] at hs'; exact h.inj s s' b hs hs'
 ·by_cases e:s = r
  ·subst e; rw [z03] at hs; cases hs; exact ⟨hgB,z6x hblk⟩
  ·rw [z04 _ _ e] at hs
   have:=h.range s b hs
   exact ⟨this.1,by omega⟩
 ·show (upd σ.H r (some arr') s).isSome
  by_cases e:s = r
  ·subst e; rw [z03]; rfl
  ·rw [z04 _ _ e] at hs ⊢; exact h.live s b hs
 ·show TR _ _ _ _ (T' t) _
  rcases hT t with e | ⟨e,hn⟩
  ·rw [e]; trivial
  ·rw [e]
   have ht:=h.tmp t
   rcases hn with hn | hn
   ·exact tr _ _ hn ht
   ·exact hn _ ht
 ·have har':upd σ.H r (some arr') s = some ar:=har
  by_cases e:s = r
  ·subst e
   rw [z03] at har'
   cases har'
   refine ⟨hz,hp,hones,?_⟩
   rw [z03]
   exact .inr ⟨cs',hblk,hcs,fun i x j c hi hj=>let ⟨u,m1,m2⟩:=hel i x j c hi hj; ⟨u,m1,m2.kept k⟩⟩
  ·rw [z04 _ _ e] at har'
   obtain ⟨q1,q2,q3,q4⟩:=h.obj s ar har'
   refine ⟨q1,q2,q3,?_⟩
   rw [z04 _ _ e]
   cases hs:μ s with
   | none=>rw [hs] at q4; exact q4
   | some b =>
    rw [hs] at q4
    rcases q4 with ⟨p0,ms,c,p1⟩ | ⟨cs,p1,p2,p3⟩
    ·exact .inl ⟨p0,ms,c,by rw [hoth b (h.range s b hs).2 (hne s b e hs)]; exact p1⟩
    exact .inr ⟨cs,by rw [hoth b (h.range s b hs).2 (hne s b e hs)]; exact p1,p2,fun i x j c hi hj=>let ⟨u,m1,m2⟩:=p3 i x j c hi hj; ⟨u,m1,m2.kept k⟩⟩
 ·rcases hFr v u hf with e | e
  ·exact tr v u e (h.frame v u hf).2
  ·exact e u (h.frame v u hf).2
theorem z4a {B g:Nat} {w0 w:World} (hb:Below B w0 w) (hBg:B≤g) (cs:Array Value):Below B w0 (w.setRow g cs) :=
 hb.trans ⟨rfl,rfl,rfl,by simp,fun k hk=>setRow_other w g k cs (by omega)⟩
theorem z3l {α:Type} (f:Nat->α) (r:Nat) (x:α) (h:f r = x):upd f r x = f:=by
 funext s
 by_cases e:s = r
 ·subst e; rw [z03,h]
 ·rw [z04 _ _ e]
theorem zkw {old d:AV} {f z:Nat} (hd:d.cells.length = z) (hf:f + z≤old.cells.length):(old.patch f z d).cells = old.cells.take f ++ d.cells ++ old.cells.drop (f + z):=by
 unfold AV.patch
 split
 ·rename_i h
  obtain ⟨rfl,rfl⟩:=h
  simp
 ·rfl
theorem z9s {o:Oper} {op:BinOp} {neq:Bool} {t e yt:TypeId} {x y:Operand} {ix:IOpd} {dst:Nat} {n' c':Nat} (ho:o.op = .binOp op t x (.const (.slice none n' c')) yt) (hop:op = if neq then .neq else .eql) (ht:P.underlying t = some (.slice e)) (hx:z02 x = some ix) (hdst:o.dst = some dst) (hlt:dst < n)
  (h:SR w0 Pr0 n μ σ a w) {K:St->Prop} (hE:z14 σ (some dst) K (.nileq neq ix)) {Q:Exit->Act->World->Prop} :
  o.wp P a w (fun a' w'=>∃ μ' σ',K σ'∧SR w0 Pr0 n μ' σ' a' w') Q:=by
 have tx:=h.get hx
 have hrun:∀ A N C,a.eval x = .slice A N C->(execOp a.eval o).run P w = .ok (.value (.bool (if neq then !A.isNone else A.isNone))) w:=by
  intro A N C hv
  subst hop
  have hc:a.eval (.const (.slice none n' c')) = .slice none n' c':=rfl
  cases neq
  ·simp [execOp,ho,hv,hc,eqGuard,Lib.run_eql_slice_nil w t e A N C n' c' ht]
  ·simp [execOp,ho,hv,hc,eqGuard,run_neq_slice_nil_any w t e A N C n' c' ht]
 have fin:∀ b,(execOp a.eval o).run P w = .ok (.value (.bool b)) w->K (σ.set dst (.bool b))->o.wp P a w (fun a' w'=>∃ μ' σ',K σ'∧SR w0 Pr0 n μ' σ' a' w') Q:=by
  intro b hr hk
  unfold Oper.wp
  rw [hr,Oper.upon_value,hdst]
  exact ⟨μ,_,hk,h.put hlt (TR.of_VR (.bool b))⟩
 simp only [z14] at hE
 split at hE
 ·rename_i l d e1 e2
  cases e2
  rw [e1] at tx
  have tx':VR (PrOf w0 Pr0 μ σ.H) w (.sl l) (a.eval x):=tx
  obtain ⟨A,C,hv,hA⟩:∃ A C,a.eval x = .slice A l.length C∧(0 < l.length->A.isNone = false):=by
   generalize a.eval x = v at tx'
   cases tx' with
   | sl _ A cap z u hcap hmax hA hr=>exact ⟨A,cap,rfl,fun h0=>by obtain ⟨b,off,rfl,_⟩:=hA h0; rfl⟩
  have hr:=hrun _ _ _ hv
  cases hn:A.isNone with
  | true =>
   rw [hn] at hr
   have hl:l.isEmpty = true:=by
    cases l with
    | nil=>rfl
    | cons y l=>rw [hA (by simp)] at hn; cases hn
   exact fin _ hr (by cases neq <;> exact hE.1 hl)
  | false =>
   rw [hn] at hr
   exact fin _ hr (by cases neq <;> exact hE.2)
 ·rename_i r off len d e1 e2
  cases e2
  rw [e1] at tx
  obtain ⟨hs,hE1,hE2⟩:=hE
  obtain ⟨arr,ha⟩:=Option.isSome_iff_exists.1 hs
  rcases tx arr ha with ⟨m1,m2,m3,m4⟩ | ⟨g,cap,cs,m1,m2,m3,m4,m5,m6,m7⟩
  ·exact fin _ (hrun _ _ _ m2) (by cases neq <;> exact hE1 m4)
  ·obtain ⟨o',m2⟩:=m2.val
   exact fin _ (hrun _ _ _ m2) (by cases neq <;> exact hE2)
 ·exact hE.elim
theorem SR.redo (h:SR w0 Pr0 n μ σ a w) {r g:Nat} {arr:Arr} (ha:σ.H r = some arr) (hg:μ r = some g) {cs cs':Array Value} (f1:w.heap[g]? = some (.cells cs arr.ty (0,0))) {l':List AV} (hl:l'.length = arr.cells.length) (hcsz:cs'.size = cs.size)
  (hlow:∀ q,q < arr.prot * arr.z->cs'[q]? = cs[q]?) (hones:∀ y,y ∈ l'->y.cells.length = arr.z∧∀ c,c ∈ y.cells->c.one = true)
  (hel:∀ (i:Nat) (x:AV) (j:Nat) (c:AV),l'[i]? = some x->x.cells[j]? = some c->∃ u,cs'[i * arr.z + j]? = some u∧VR (PrOf w0 Pr0 μ σ.H) w c u) :
  SR w0 Pr0 n μ ⟨σ.T,upd σ.H r (some { arr with cells:=l' })⟩ a (w.setRow g cs'):=by
 obtain ⟨o1,o2,o3,o4⟩:=h.obj r arr ha
 rw [hg] at o4
 have hcs:arr.cells.length * arr.z≤cs.size:=by
  rcases o4 with ⟨q,ms,c,q'⟩ | ⟨cs0,q1,q2,q3⟩
  ·rw [f1] at q'; cases q'
  ·rw [f1] at q1; cases q1; exact q2
 have hup:upd μ r (some g) = μ:=z3l μ r _ hg
 have hsame:∀ v:AV,v.name = some r->∀ u,TR (PrOf w0 Pr0 μ σ.H) μ σ.H w v u->TR (PrOf w0 Pr0 (upd μ r (some g)) (upd σ.H r (some { arr with cells:=l' }))) (upd μ r (some g)) (upd σ.H r (some { arr with cells:=l' })) (w.setRow g cs') v u:=by
  rw [hup]
  intro v e u hu
  cases v with
  | ptr s i' f' =>
   cases e
   intro ar har
   rw [z03] at har; cases har
   exact hu arr ha
  | clom f' s =>
   cases e
   intro ar har
   rw [z03] at har; cases har
   exact hu arr ha
  | mp s es =>
   cases e
   obtain ⟨b,ms,c0,q1,q2,q3,q4⟩:=hu arr ha
   rw [hg] at q1; cases q1
   rw [f1] at q3; cases q3
  | rs s off len =>
   cases e
   intro ar har
   rw [z03] at har; cases har
   rcases hu arr ha with q | ⟨b,cap,cs0,q1,q2,q3,q4,q5,q6⟩
   ·exact .inl q
   ·rw [hg] at q1; cases q1
    rw [f1] at q3; cases q3
    exact .inr ⟨g,cap,cs',hg,q2,setRow_heap w g cs cs' arr.ty (0,0) f1,by rw [hcsz]; exact q4,by rw [hl]; exact q5,q6⟩
  | vrs s off len u0 =>
   cases e
   intro ar har
   rw [z03] at har; cases har
   rcases hu arr ha with q | ⟨b,cap,cs0,q1,q2,q3,q4,q5,q6⟩
   ·exact .inl q
   ·rw [hg] at q1; cases q1
    rw [f1] at q3; cases q3
    exact .inr ⟨g,cap,cs',hg,q2,setRow_heap w g cs cs' arr.ty (0,0) f1,by rw [hcsz]; exact q4,by rw [hl]; exact q5,q6⟩
  | _=>cases e
 have hR:=SR.remake h (w':=w.setRow g cs') (r:=r) (g:=g) (arr':={ arr with cells:=l' }) (cs':=cs')
  (z4a h.below (h.range r g hg).1 cs') (by simp) (fun k hk hne=>setRow_other w g k cs' hne) (.inl hg) (setRow_heap w g cs cs' arr.ty (0,0) f1) (by
   intro ar har _
   rw [ha] at har; cases har
   refine ⟨rfl,Nat.le_refl _,fun q hq=>?_⟩
   rw [cell_setRow_same w g q cs cs' arr.ty (0,0) f1,z32 f1]
   exact hlow q hq) o1 (by rw [hl]; exact o2) hones (by rw [hl,hcsz]; exact hcs) hel (by rw [ha]; rfl) (T':=σ.T) (fun t=>.inr ⟨rfl,by
    by_cases e:(σ.T t).name = some r
    ·exact .inr (hsame _ e)
    ·exact .inl e⟩) (fun v u hf=>by
    by_cases e:v.name = some r
    ·exact .inr (hsame _ e)
    ·exact .inl e)
 rw [hup] at hR
 exact hR
theorem zki {w:World} (t e ty:TypeId) (i:TypeInfo) (zv:Value) (ht:P.underlying t = some (.slice e)) (hi:P.info? e = some i) (hz:i.zero = some zv) (g o n' cap:Nat) (cs:Array Value) (tt:TypeId) (hg:w.heap[g]? = some (.cells cs tt (0,0)))
  (hfit:o + n' * zv.cells.size≤cs.size) (h1:∀ v,v ∈ zv.cells.toList->v.oneCell' = true) :
  (Builtin.clear_ #[t] ty #[.slice (some ⟨g,o,none⟩) n' cap]).run P w = .ok (.tuple #[]) (w.setRow g (cs.toList.take o ++ (madeCells zv.cells (n' * zv.cells.size)).toList ++ cs.toList.drop (o + n' * zv.cells.size)).toArray):=by
 have hl:(madeCells zv.cells (n' * zv.cells.size)).toList.length = n' * zv.cells.size:=by rw [Array.length_toList,size_madeCells]
 have h1':∀ v,v ∈ (madeCells zv.cells (n' * zv.cells.size)).toList->v.oneCell' = true:=by
  intro v hv
  obtain ⟨k,hk⟩:=List.mem_iff_getElem?.1 hv
  have hkl:=(List.getElem?_eq_some_iff.1 hk).1
  rw [hl] at hkl
  have hzp:0 < zv.cells.size:=by
   rcases Nat.eq_zero_or_pos zv.cells.size with q | q
   ·rw [q,Nat.mul_zero] at hkl; omega
   ·exact q
  rw [Array.getElem?_toList] at hk
  have hkk:k / zv.cells.size * zv.cells.size + k % zv.cells.size = k:=by rw [Nat.mul_comm]; exact Nat.div_add_mod _ _
  have hm:=zl8 (z:=zv.cells) (m:=n' * zv.cells.size) (i:=k / zv.cells.size) (j:=k % zv.cells.size) (Nat.mod_lt _ hzp) (by rw [hkk]; exact hkl)
  rw [hkk] at hm
  rw [hm] at hk
  cases hk
  exact h1 _ (by simp)
 cases n' with
 | zero =>
  have e:(cs.toList.take o ++ (madeCells zv.cells (0 * zv.cells.size)).toList ++ cs.toList.drop (o + 0 * zv.cells.size)).toArray = cs:=by
   have:(madeCells zv.cells (0 * zv.cells.size)).toList = []:=List.length_eq_zero_iff.1 (by rw [hl,Nat.zero_mul])
   rw [this]
   simp
  rw [e,setRow_self w g cs tt (0,0) hg]
  simp [Builtin.clear_,run_underlying ht]
 | succ m =>
  have hst:=run_storeCells_at P g o tt (madeCells zv.cells ((m + 1) * zv.cells.size)).toList 0 cs w hg (by rw [hl]; omega) h1'
  rw [hl,Nat.add_zero] at hst
  have hzz:Builtin.zeroCells zv.cells (m + 1) = madeCells zv.cells ((m + 1) * zv.cells.size):=rfl
  simp [Builtin.clear_,run_underlying ht,zeroValue,typeInfo,hi,hz,hzz,hst]
theorem zmf {o : Oper} {c : Call} {t e : TypeId} {i : TypeInfo} {zv : Value} {d0 : AV} {x : Operand} {ix : IOpd} (ho : o.op = .call c) (hc : c.callee = .builtin .clear) (hargs : c.args.toList = [x]) (hts : c.argTypes = #[t]) (ht : P.underlying t = some (.slice e)) (hi : P.info? e = some i) (hzv : i.zero = some zv) (hd0 : z1h zv = some d0)
    (hx : z02 x = some ix) (hdst : o.dst = none) (h : SR w0 Pr0 n μ σ a w) {K : St → Prop} (hE : z14 σ none K (.copy i.size ix (.c d0))) {Q : Exit → Act → World → Prop} :
    o.wp P a w (fun a' w' => ∃ μ' σ', K σ' ∧ SR w0 Pr0 n μ' σ' a' w') Q := by
  have tx := h.get hx
  have hrun := z3e (P := P) (a := a) (w := w) ho hc
  rw [call1 hargs, hts] at hrun
  simp only [z14] at hE
  split at hE
  · rename_i r off len d e1 e2
    cases e2
    rw [e1] at tx
    split at hE
    · rename_i arr ha
      obtain ⟨b1, b2, b3, b4, _, hK⟩ := hE
      obtain ⟨o1, o2, o3, o4⟩ := h.obj r arr ha
      have fin : ∀ w', (execOp a.eval o).run P w = .ok (.value (.tuple #[])) w' → SR w0 Pr0 n μ ⟨σ.T, upd σ.H r (some { arr with cells := arr.cells.take off ++ List.replicate len d0 ++ arr.cells.drop (off + len) })⟩ a w' → o.wp P a w (fun a' w' => ∃ μ' σ', K σ' ∧ SR w0 Pr0 n μ' σ' a' w') Q := by
        intro w' hr hS
        unfold Oper.wp
        rw [hr, Oper.upon_value, hdst]
        exact ⟨μ, _, hK, hS⟩
      rcases tx arr ha with ⟨m1, m2, m3, m4⟩ | ⟨g, cap, cs, m1, m2, m3, m4, m5, m6, m7⟩
      · subst m3
        subst m4
        refine fin w ?_ ?_
        · rw [hrun]
          simp only [List.map_toArray, List.map_cons, List.map_nil, m2, builtin]
          simp [Builtin.clear_, run_underlying ht]
        · have e : upd σ.H r (some { arr with cells := arr.cells.take 0 ++ List.replicate 0 d0 ++ arr.cells.drop (0 + 0) }) = σ.H := z3l _ _ _ (by rw [ha]; simp)
          rw [e]
          exact h
      · rw [m1] at o4
        rcases o4 with ⟨q, ms, c0, q'⟩ | ⟨cs0, f1, f2, f3⟩
        · rw [m3] at q'; cases q'
        rw [m3] at f1; cases f1
        obtain ⟨q1, q2⟩ := z5e (Pr := PrOf w0 Pr0 μ σ.H) (w := w) hd0
        have hzs : zv.cells.size = arr.z := by rw [← q1, b3, b1]
        have hone : ∀ v, v ∈ zv.cells.toList → v.oneCell' = true := by
          intro v hv
          obtain ⟨k, hk⟩ := List.mem_iff_getElem?.1 hv
          rw [Array.getElem?_toList] at hk
          have hkl := (Array.getElem?_eq_some_iff.1 hk).1
          have hd : d0.cells[k]? = some (d0.cells[k]'(by omega)) := List.getElem?_eq_getElem _
          exact (q2 k _ v hd hk).oneCell (List.all_eq_true.1 b4 _ (List.mem_of_getElem? hd))
        have hlen : (arr.cells.take off ++ List.replicate len d0 ++ arr.cells.drop (off + len)).length = arr.cells.length := by
          rw [List.length_append, List.length_append, List.length_take, List.length_replicate, List.length_drop]; omega
        have hfit : off * arr.z + len * arr.z ≤ cs.size := by
          rw [← Nat.add_mul, ← m4]; exact Nat.mul_le_mul_right _ (by omega)
        obtain ⟨o', hv⟩ := m2.val
        rcases Nat.eq_zero_or_pos len with hl0 | hl0
        · subst hl0
          refine fin w ?_ ?_
          · rw [hrun]
            simp only [List.map_toArray, List.map_cons, List.map_nil, hv, builtin]
            simp [Builtin.clear_, run_underlying ht]
          · have e : upd σ.H r (some { arr with cells := arr.cells.take off ++ List.replicate 0 d0 ++ arr.cells.drop (off + 0) }) = σ.H := z3l _ _ _ (by rw [ha]; simp)
            rw [e]
            exact h
        · have hve := m2.exact (by omega)
          have hcl := zki (P := P) t e o.type i zv ht hi hzv g (off * arr.z) len cap cs arr.ty m3 (by rw [hzs]; exact hfit) hone
          rw [hzs] at hcl
          obtain ⟨cs', hcs'⟩ : ∃ cs', (cs.toList.take (off * arr.z) ++ (madeCells zv.cells (len * arr.z)).toList ++ cs.toList.drop (off * arr.z + len * arr.z)).toArray = cs' := ⟨_, rfl⟩
          rw [hcs'] at hcl
          have hl1 : (cs.toList.take (off * arr.z)).length = off * arr.z := by rw [List.length_take, Array.length_toList]; omega
          have hl2 : (madeCells zv.cells (len * arr.z)).toList.length = len * arr.z := by rw [Array.length_toList, size_madeCells]
          have hget1 : ∀ q, q < off * arr.z → cs'[q]? = cs[q]? := by
            intro q hq
            rw [← hcs', List.getElem?_toArray, List.append_assoc, List.getElem?_append_left (by omega), List.getElem?_take, if_pos hq, Array.getElem?_toList]
          have hget2 : ∀ q, q < len * arr.z → cs'[off * arr.z + q]? = (madeCells zv.cells (len * arr.z))[q]? := by
            intro q hq
            rw [← hcs', List.getElem?_toArray, List.append_assoc, List.getElem?_append_right (by omega), hl1, List.getElem?_append_left (by omega), show off * arr.z + q - off * arr.z = q by omega, Array.getElem?_toList]
          have hget3 : ∀ q, off * arr.z + len * arr.z ≤ q → cs'[q]? = cs[q]? := by
            intro q hq
            rw [← hcs', List.getElem?_toArray, List.getElem?_append_right (by rw [List.length_append]; omega), List.length_append, hl1, hl2, List.getElem?_drop, show off * arr.z + len * arr.z + (q - (off * arr.z + len * arr.z)) = q by omega, Array.getElem?_toList]
          refine fin (w.setRow g cs') ?_ ?_
          · rw [hrun]
            simp only [List.map_toArray, List.map_cons, List.map_nil, hve, builtin, hcl, Sem.run_bind, Result.andThen_ok]
            rfl
          · refine h.redo ha m1 m3 hlen (by rw [← hcs']; simp only [List.size_toArray, List.length_append, hl1, hl2, List.length_drop, Array.length_toList]; omega) (fun q hq => hget1 q (by have : arr.prot * arr.z ≤ off * arr.z := Nat.mul_le_mul_right _ b2; omega)) (fun y hy => ?_) (fun k y j c hk hj => ?_)
            · rcases List.mem_append.1 hy with hy | hy
              · rcases List.mem_append.1 hy with hy | hy
                · exact o3 y (List.mem_of_mem_take hy)
                · rw [List.eq_of_mem_replicate hy]
                  exact ⟨by rw [b3, b1], fun c hc => List.all_eq_true.1 b4 c hc⟩
              · exact o3 y (List.mem_of_mem_drop hy)
            · rcases Nat.lt_or_ge k off with h1 | h1
              · rw [List.append_assoc, List.getElem?_append_left (by rw [List.length_take]; omega), List.getElem?_take, if_pos h1] at hk
                obtain ⟨u, r1, r2⟩ := f3 k y j c hk hj
                have hjl : j < arr.z := by rw [← (o3 y (List.mem_of_getElem? hk)).1]; exact (List.getElem?_eq_some_iff.1 hj).1
                exact ⟨u, by rw [hget1 _ (z4t h1 hjl)]; exact r1, r2⟩
              · rcases Nat.lt_or_ge k (off + len) with h2 | h2
                · rw [List.append_assoc, List.getElem?_append_right (by rw [List.length_take]; omega), List.length_take, Nat.min_eq_left (by omega), List.getElem?_append_left (by rw [List.length_replicate]; omega), List.getElem?_replicate, if_pos (by omega)] at hk
                  cases hk
                  have hjl : j < arr.z := by rw [b1, ← b3]; exact (List.getElem?_eq_some_iff.1 hj).1
                  have hm := zl8 (z := zv.cells) (m := len * arr.z) (i := k - off) (j := j) (by omega) (by rw [hzs]; exact z4t (by omega) hjl)
                  rw [show (k - off) * zv.cells.size + j = (k - off) * arr.z + j by rw [hzs]] at hm
                  refine ⟨_, ?_, q2 j c _ hj (Array.getElem?_eq_getElem (by omega))⟩
                  rw [show k * arr.z + j = off * arr.z + ((k - off) * arr.z + j) by rw [← Nat.add_assoc, ← Nat.add_mul, show off + (k - off) = k by omega], hget2 _ (z4t (by omega) hjl)]
                  exact hm
                · rw [List.getElem?_append_right (by rw [List.length_append, List.length_take, List.length_replicate]; omega), List.length_append, List.length_take, List.length_replicate, Nat.min_eq_left (by omega), List.getElem?_drop, show off + len + (k - (off + len)) = k by omega] at hk
                  obtain ⟨u, r1, r2⟩ := f3 k y j c hk hj
                  refine ⟨u, ?_, r2⟩
                  rw [hget3 _ (by have : (off + len) * arr.z ≤ k * arr.z := Nat.mul_le_mul_right _ h2
                                  rw [Nat.add_mul] at this; omega)]
                  exact r1
    · exact hE.elim
  · exact hE.elim
theorem z7a {o:Oper} {t:TypeId} {z:Nat} {agg:Bool} {p x:Operand} (ho:o.op = .store t p x) (ht:tyOf P t = some (z,agg)) (hdst:o.dst = none)
  {σ1:St} (hS:SR w0 Pr0 n μ σ1 a w) {r i f:Nat} (tp:TR (PrOf w0 Pr0 μ σ1.H) μ σ1.H w (.ptr r i f) (a.eval p)) {d:AV} (hv:VR (PrOf w0 Pr0 μ σ1.H) w d (a.eval x)) {arr:Arr} (ha:σ1.H r = some arr) {old:AV} (hold:arr.cells[i]? = some old)
  (e2:d.cells.length = z) (e3:f + z≤old.cells.length) (e4:arr.prot≤i) (e5:d.cells.all AV.one = true) {K:Act->World->Prop}
  (hK:∀ w',SR w0 Pr0 n μ ⟨σ1.T,upd σ1.H r (some { arr with cells:=arr.cells.set i (old.patch f z d) })⟩ a w'->K a w') {Q:Exit->Act->World->Prop}:o.wp P a w K Q:=by
 obtain ⟨c1,c2⟩:=hv.cells
 obtain ⟨g,hg,hpv⟩:=tp arr ha
 obtain ⟨o1,o2,o3,o4⟩:=hS.obj r arr ha
 rw [hg] at o4
 rcases o4 with ⟨q,_⟩ | ⟨cs,f1,f2,f3⟩
 ·rw [q] at hold; simp at hold
 have hil:i < arr.cells.length:=(List.getElem?_eq_some_iff.1 hold).1
 have hol:=(o3 old (List.mem_of_getElem? hold)).1
 have hvc:(a.eval x).cells.size = z:=by rw [← c1]; exact e2
 have hin:i * arr.z + f + z≤cs.size:=by
  have:(i + 1) * arr.z≤arr.cells.length * arr.z:=Nat.mul_le_mul_right _ hil
  rw [Nat.succ_mul] at this; omega
 have hone:∀ u,u ∈ (a.eval x).cells.toList->u.oneCell' = true:=by
  intro u hu
  obtain ⟨j,hj⟩:=List.mem_iff_getElem?.1 hu
  rw [Array.getElem?_toList] at hj
  have hjl:=(Array.getElem?_eq_some_iff.1 hj).1
  have hd:d.cells[j]? = some (d.cells[j]'(by omega)):=List.getElem?_eq_getElem _
  exact (c2 j _ u hd hj).oneCell (List.all_eq_true.1 e5 _ (List.mem_of_getElem? hd))
 have hst:=run_storeCells_at P g (i * arr.z + f) arr.ty (a.eval x).cells.toList 0 cs w f1 (by simp [hvc]; omega) hone
 have hrun:(execOp a.eval o).run P w = .ok .skip (w.setRow g (cs.toList.take (i * arr.z + f) ++ (a.eval x).cells.toList ++ cs.toList.drop (i * arr.z + f + z)).toArray):=by
  have hz:∃ j,P.info? t = some j∧j.size = z:=by
   unfold tyOf at ht
   split at ht
   ·rename_i j ds hj _
    injection ht with ht
    injection ht with he1 _
    exact ⟨j,hj,he1⟩
   ·cases ht
  obtain ⟨j,hj,hjz⟩:=hz
  simp only [Nat.add_zero,Array.length_toList,hvc] at hst
  simp only [execOp,ho,hpv,Instr.storeAt,Instr.sureAddr]
  simp [storeVar,sizeOf,typeInfo,hj,hjz,hvc,hst]
 unfold Oper.wp
 rw [hrun,Oper.upon_skip,hdst]
 obtain ⟨cs',hcs'⟩:∃ cs',(cs.toList.take (i * arr.z + f) ++ (a.eval x).cells.toList ++ cs.toList.drop (i * arr.z + f + z)).toArray = cs':=⟨_,rfl⟩
 rw [hcs']
 have hl1:(cs.toList.take (i * arr.z + f)).length = i * arr.z + f:=by rw [List.length_take,Array.length_toList]; omega
 have hl2:(a.eval x).cells.toList.length = z:=by rw [Array.length_toList]; exact hvc
 have hcsz:cs'.size = cs.size:=by rw [← hcs']; simp [hvc]; omega
 have hget1:∀ q,q < i * arr.z + f->cs'[q]? = cs[q]?:=by
  intro q hq
  rw [← hcs',List.getElem?_toArray,List.append_assoc,List.getElem?_append_left (by omega),List.getElem?_take,if_pos hq,Array.getElem?_toList]
 have hget2:∀ q,q < z->cs'[i * arr.z + f + q]? = (a.eval x).cells[q]?:=by
  intro q hq
  rw [← hcs',List.getElem?_toArray,List.append_assoc,List.getElem?_append_right (by omega),hl1,List.getElem?_append_left (by omega),show i * arr.z + f + q - (i * arr.z + f) = q by omega,Array.getElem?_toList]
 have hget3:∀ q,i * arr.z + f + z≤q->cs'[q]? = cs[q]?:=by
  intro q hq
  rw [← hcs',List.getElem?_toArray,List.getElem?_append_right (by rw [List.length_append]; omega),List.length_append,hl1,hl2,List.getElem?_drop,show i * arr.z + f + z + (q - (i * arr.z + f + z)) = q by omega,Array.getElem?_toList]
 have hup:upd μ r (some g) = μ:=z3l μ r _ hg
 have hcl:({ arr with cells:=arr.cells.set i (old.patch f z d) }:Arr).cells.length = arr.cells.length:=List.length_set
 have hpc:=zkw (old:=old) (d:=d) (f:=f) (z:=z) e2 e3
 have hout:∀ q,¬ (i * arr.z + f≤q∧q < i * arr.z + f + z)->cs'[q]? = cs[q]?:=by
  intro q hq
  rcases Nat.lt_or_ge q (i * arr.z + f) with h1 | h1
  ·exact hget1 q h1
  ·exact hget3 q (by omega)
 have hsame:∀ v:AV,v.name = some r->∀ u,TR (PrOf w0 Pr0 μ σ1.H) μ σ1.H w v u->TR (PrOf w0 Pr0 (upd μ r (some g)) (upd σ1.H r (some { arr with cells:=arr.cells.set i (old.patch f z d) }))) (upd μ r (some g)) (upd σ1.H r (some { arr with cells:=arr.cells.set i (old.patch f z d) })) (w.setRow g cs') v u:=by
  rw [hup]
  intro v e u hu
  cases v with
  | ptr s i' f' =>
   cases e
   intro ar har
   rw [z03] at har; cases har
   exact hu arr ha
  | clom f' s =>
   cases e
   intro ar har
   rw [z03] at har; cases har
   exact hu arr ha
  | mp s es =>
   cases e
   obtain ⟨b,ms,c0,q1,q2,q3,q4⟩:=hu arr ha
   rw [hg] at q1; cases q1
   rw [f1] at q3; cases q3
  | rs s off len =>
   cases e
   intro ar har
   rw [z03] at har; cases har
   rcases hu arr ha with q | ⟨b,cap,cs0,q1,q2,q3,q4,q5,q6⟩
   ·exact .inl q
   ·rw [hg] at q1; cases q1
    rw [f1] at q3; cases q3
    exact .inr ⟨g,cap,cs',hg,q2,setRow_heap w g cs cs' arr.ty (0,0) f1,by rw [hcsz]; exact q4,by rw [hcl]; exact q5,q6⟩
  | vrs s off len u0 =>
   cases e
   intro ar har
   rw [z03] at har; cases har
   rcases hu arr ha with q | ⟨b,cap,cs0,q1,q2,q3,q4,q5,q6⟩
   ·exact .inl q
   ·rw [hg] at q1; cases q1
    rw [f1] at q3; cases q3
    exact .inr ⟨g,cap,cs',hg,q2,setRow_heap w g cs cs' arr.ty (0,0) f1,by rw [hcsz]; exact q4,by rw [hcl]; exact q5,q6⟩
  | _=>cases e
 have hR:=SR.remake hS (w':=w.setRow g cs') (r:=r) (g:=g) (arr':={ arr with cells:=arr.cells.set i (old.patch f z d) }) (cs':=cs')
  (z4a hS.below (hS.range r g hg).1 cs') (by simp) (fun k hk hne=>setRow_other w g k cs' hne) (.inl hg) (setRow_heap w g cs cs' arr.ty (0,0) f1) (by
   intro ar har _
   rw [ha] at har; cases har
   refine ⟨rfl,Nat.le_refl _,fun q hq=>?_⟩
   rw [cell_setRow_same w g q cs cs' arr.ty (0,0) f1,z32 f1]
   refine hget1 q ?_
   have:arr.prot * arr.z≤i * arr.z:=Nat.mul_le_mul_right _ e4
   omega) o1 (by rw [hcl]; exact o2) (by
   intro y hy
   rcases List.mem_or_eq_of_mem_set hy with hy | hy
   ·exact o3 y hy
   ·subst hy
    rw [hpc]
    refine ⟨by rw [List.length_append,List.length_append,List.length_take,List.length_drop,e2]; show _ = arr.z; omega,fun c hc=>?_⟩
    rcases List.mem_append.1 hc with hc | hc
    ·rcases List.mem_append.1 hc with hc | hc
     ·exact (o3 old (List.mem_of_getElem? hold)).2 c (List.mem_of_mem_take hc)
     ·exact List.all_eq_true.1 e5 c hc
    ·exact (o3 old (List.mem_of_getElem? hold)).2 c (List.mem_of_mem_drop hc)) (by rw [hcl,hcsz]; exact f2) (by
   intro k y j c hk hj
   have hk':(arr.cells.set i (old.patch f z d))[k]? = some y:=hk
   show ∃ u,cs'[k * arr.z + j]? = some u∧_
   by_cases e:k = i
   ·subst e
    rw [List.getElem?_set_self hil] at hk'
    cases hk'
    rw [hpc] at hj
    rcases Nat.lt_or_ge j f with h1 | h1
    ·rw [List.append_assoc,List.getElem?_append_left (by rw [List.length_take]; omega),List.getElem?_take,if_pos h1] at hj
     obtain ⟨u,m1,m2⟩:=f3 k old j c hold hj
     exact ⟨u,by rw [hout _ (by omega)]; exact m1,m2⟩
    ·rcases Nat.lt_or_ge j (f + z) with h2 | h2
     ·rw [List.append_assoc,List.getElem?_append_right (by rw [List.length_take]; omega),List.length_take,Nat.min_eq_left (by omega),List.getElem?_append_left (by omega)] at hj
      have hu:(a.eval x).cells[j - f]? = some ((a.eval x).cells[j - f]'(by omega)):=Array.getElem?_eq_getElem _
      refine ⟨_,?_,c2 _ c _ hj hu⟩
      rw [show k * arr.z + j = k * arr.z + f + (j - f) by omega,hget2 _ (by omega)]
      exact hu
     ·rw [List.getElem?_append_right (by rw [List.length_append,List.length_take]; omega),List.length_append,List.length_take,Nat.min_eq_left (by omega),e2,List.getElem?_drop,show f + z + (j - (f + z)) = j by omega] at hj
      obtain ⟨u,m1,m2⟩:=f3 k old j c hold hj
      exact ⟨u,by rw [hout _ (by omega)]; exact m1,m2⟩
   ·rw [List.getElem?_set_ne (fun q=>e q.symm)] at hk'
    obtain ⟨u,m1,m2⟩:=f3 k y j c hk' hj
    refine ⟨u,?_,m2⟩
    have hjl:j < arr.z:=by rw [← (o3 y (List.mem_of_getElem? hk')).1]; exact (List.getElem?_eq_some_iff.1 hj).1
    rw [hout _ ?_]
    ·exact m1
    ·rcases Nat.lt_or_ge k i with h1 | h1
     ·have:(k + 1) * arr.z≤i * arr.z:=Nat.mul_le_mul_right _ h1
      rw [Nat.succ_mul] at this; omega
     ·have:(i + 1) * arr.z≤k * arr.z:=Nat.mul_le_mul_right _ (by omega)
      rw [Nat.succ_mul] at this; omega) (by rw [ha]; rfl) (T':=σ1.T) (by
   intro t
   refine .inr ⟨rfl,?_⟩
   by_cases e:(σ1.T t).name = some r
   ·exact .inr (hsame _ e)
   ·exact .inl e) (fun v u hf=>by
   by_cases e:v.name = some r
   ·exact .inr (hsame _ e)
   ·exact .inl e)
 rw [hup] at hR
 exact hK _ hR
theorem zkd {o:Oper} {t:TypeId} {z:Nat} {agg:Bool} {p x:Operand} {ip ix:IOpd} (ho:o.op = .store t p x) (ht:tyOf P t = some (z,agg)) (hp:z02 p = some ip) (hx:z02 x = some ix) (hdst:o.dst = none)
  (h:SR w0 Pr0 n μ σ a w) {K:St->Prop} (hE:z14 σ none K (.store z ip ix)) {Q:Exit->Act->World->Prop} :
  o.wp P a w (fun a' w'=>∃ μ' σ',K σ'∧SR w0 Pr0 n μ' σ' a' w') Q:=by
 have tp:=h.get hp
 simp only [z14] at hE
 split at hE
 ·rename_i r i f e1
  rw [e1] at tp
  split at hE
  ·rename_i d fz hbv
   have hS:SR w0 Pr0 n μ (σ.fzs fz) a w:=SR.fzs h
   have hv:=h.byval hbv (h.get hx) hS z1x
   split at hE
   ·rename_i arr ha
    split at hE
    ·rename_i old hold
     obtain ⟨e2,e3,e4,e5,hK⟩:=hE
     obtain ⟨arr0,ha0⟩:∃ arr0,σ.H r = some arr0:=by
      cases hh:σ.H r with
      | some arr0=>exact ⟨arr0,rfl⟩
      | none=>rw [z0l hh] at ha; cases ha
     refine z7a ho ht hdst hS (r:=r) (i:=i) (f:=f) (fun arr1 ha1=>?_) hv ha hold e2 e3 e4 e5 (fun w' hS'=>⟨μ,_,hK,by rw [z4i] at hS'; exact hS'⟩)
     rw [ha] at ha1; cases ha1
     obtain ⟨g,hg,hpv⟩:=tp arr0 ha0
     have hz0:arr.z = arr0.z:=by
      obtain ⟨a',q1,q2,_⟩:=z7j (l:=fz) ha0
      rw [ha] at q1; cases q1; exact q2.z
     exact ⟨g,hg,by rw [hz0]; exact hpv⟩
    ·exact hE.elim
   ·exact hE.elim
  ·exact hE.elim
 ·exact hE.elim
theorem SR.ghost (h:SR w0 Pr0 n μ σ a w) {t:Nat} {d:AV} (hv:∀ v,TR (PrOf w0 Pr0 μ σ.H) μ σ.H w d v):SR w0 Pr0 n μ ⟨upd σ.T t d,σ.H⟩ a w:=by
 refine ⟨h.below,h.inj,h.range,h.live,h.size,fun s=>?_,h.obj,h.defers,h.glob,h.small,h.frame⟩
 show TR _ _ _ _ (upd σ.T t d s) _
 by_cases e:s = t
 ·rw [e,z03]; exact hv _
 ·rw [z04 _ _ e]; exact h.tmp s
theorem zg9 {o:Oper} {t:TypeId} {z:Nat} {agg:Bool} {p x:Operand} {ip ix:IOpd} (ho:o.op = .store t p x) (ht:tyOf P t = some (z,agg)) (hp:z02 p = some ip) (hx:z02 x = some ix) (hdst:o.dst = none)
  (h:SR w0 Pr0 n μ σ a w) {K:St->Prop} (hE:z14 σ none K (.storep z ip ix)) {Q:Exit->Act->World->Prop} :
  o.wp P a w (fun a' w'=>∃ μ' σ',K σ'∧SR w0 Pr0 n μ' σ' a' w') Q:=by
 have tp:=h.get hp
 have tx:=h.get hx
 simp only [z14] at hE
 split at hE
 ·rename_i r i f q off len e1 e2
  rw [e1] at tp
  rw [e2] at tx
  split at hE
  ·rename_i arr ha
   split at hE
   ·rename_i old hold
    obtain ⟨rfl,e3,e4,e5,hK⟩:=hE
    obtain ⟨aq,haq⟩:=Option.isSome_iff_exists.1 e5
    have hone:(a.eval x).oneCell' = true:=by
     rcases tx aq haq with ⟨_,e,_⟩ | ⟨g,cap,cs,_,e,_⟩
     ·rw [e]; rfl
     ·obtain ⟨o',e⟩:=e.val
      rw [e]; rfl
    refine z7a ho ht hdst h tp (.cst (a.eval x) hone) ha hold rfl e3 e4 (by simp [AV.cells,AV.one]) (fun w' hS'=>⟨μ,_,hK (a.eval x) hone,?_⟩)
    have tx':=hS'.get hx
    have e2':St.get ⟨σ.T,upd σ.H r (some { arr with cells:=arr.cells.set i (old.patch f 1 (.cst (a.eval x))) })⟩ ix = .rs q off len:=by
     rw [← e2]; cases ix <;> rfl
    rw [e2'] at tx'
    exact SR.ghost hS' (fun v=>tx')
   ·exact hE.elim
  ·exact hE.elim
 ·rename_i r i f l e1 e2
  rw [e1] at tp
  rw [e2] at tx
  have tx':VR (PrOf w0 Pr0 μ σ.H) w (.sl l) (a.eval x):=tx
  split at hE
  ·rename_i arr ha
   split at hE
   ·rename_i old hold
    obtain ⟨rfl,e3,e4,hK⟩:=hE
    exact z7a ho ht hdst h tp tx' ha hold rfl e3 e4 (by simp [AV.cells,AV.one]) (fun w' hS'=>⟨μ,_,hK,hS'⟩)
   ·exact hE.elim
  ·exact hE.elim
 ·exact hE.elim
theorem z4l {t ty e:TypeId} {i:TypeInfo} (ht:P.underlying t = some (.slice e)) (hi:P.info? e = some i) {base A:Option Addr} {len cap c:Nat} (hl:len≤cap) :
  (Builtin.append_ #[t,t] ty #[.slice base len cap,.slice A 0 c]).run P w = .ok (.slice base len cap) w:=by
 cases A with
 | none =>
  cases base with
  | none=>simp [Builtin.append_,run_underlying ht,sizeOf,typeInfo,hi,Builtin.lenOf,hl,Builtin.firstCells]
  | some b=>simp [Builtin.append_,run_underlying ht,sizeOf,typeInfo,hi,Builtin.lenOf,hl,Builtin.firstCells,storeCells]
 | some a' =>
  cases base with
  | none=>simp [Builtin.append_,run_underlying ht,sizeOf,typeInfo,hi,Builtin.lenOf,hl,Builtin.firstCells,loadCells,loadCellsFrom]
  | some b=>simp [Builtin.append_,run_underlying ht,sizeOf,typeInfo,hi,Builtin.lenOf,hl,Builtin.firstCells,storeCells,loadCells,loadCellsFrom]
theorem VR.news {l:List AV} {v:Value} (h:VR Pr w (.sl l) v) (z:Nat) (hz:∀ d,d ∈ l->d.cells.length = z∧d.cells.all AV.one = true) (h0:0 < l.length) :
  ∃ b off cap,∃ news:List Value,v = .slice (some ⟨b,off,none⟩) l.length cap∧news.length = l.length * z∧(∀ (j:Nat) (u:Value),news[j]? = some u->w.cell? ((⟨b,off,none⟩:Addr).add j) = some u)∧(∀ u,u ∈ news->u.oneCell' = true) ∧
   ∀ (i:Nat) (d:AV) (j:Nat) (c:AV),l[i]? = some d->d.cells[j]? = some c->∃ u,news[i * z + j]? = some u∧VR Pr w c u:=by
 cases h with
 | sl _ A cap z' u hcap hmax hA hr =>
  obtain ⟨b,off,rfl,hL⟩:=hA h0
  have hzz:z' = z:=by rw [← hL.len l[0] (List.getElem_mem h0)]; exact (hz _ (List.getElem_mem h0)).1
  subst hzz
  have hq:∀ q,q < l.length * z'->q / z' < l.length∧q % z' < z'∧q / z' * z' + q % z' = q:=by
   intro q hq
   have hz0:0 < z':=by
    rcases Nat.eq_zero_or_pos z' with e | e
    ·rw [e,Nat.mul_zero] at hq; omega
    ·exact e
   exact ⟨Nat.div_lt_of_lt_mul (by rw [Nat.mul_comm]; exact hq),Nat.mod_lt _ hz0,by rw [Nat.mul_comm]; exact Nat.div_add_mod q z'⟩
  have hnew:∀ q x,((List.range (l.length * z')).map fun q=>u (q / z') (q % z'))[q]? = some x->q < l.length * z'∧x = u (q / z') (q % z'):=by
   intro q x hx
   have hlt:q < l.length * z':=by have:=(List.getElem?_eq_some_iff.1 hx).1; simpa using this
   simp [hlt] at hx
   exact ⟨hlt,hx.symm⟩
  refine ⟨b,off,cap,(List.range (l.length * z')).map (fun q=>u (q / z') (q % z')),rfl,by simp,fun q x hx=>?_,fun x hx=>?_,fun i d j c hi hj=>?_⟩
  ·obtain ⟨hlt,rfl⟩:=hnew q x hx
   obtain ⟨q1,q2,q3⟩:=hq q hlt
   have:=(hL.at_ _ _ q1 q2).2
   rw [z3q]
   rw [q3] at this
   exact this
  ·obtain ⟨q,hqx⟩:=List.mem_iff_getElem?.1 hx
   obtain ⟨hlt,rfl⟩:=hnew q x hqx
   obtain ⟨q1,q2,q3⟩:=hq q hlt
   have hd:l[q / z']? = some (l[q / z']):=List.getElem?_eq_getElem q1
   have hdl:=hz _ (List.mem_of_getElem? hd)
   have hc:(l[q / z']).cells[q % z']? = some ((l[q / z']).cells[q % z']'(by rw [hdl.1]; exact q2)):=List.getElem?_eq_getElem _
   exact (hr _ _ _ _ hd hc).oneCell (List.all_eq_true.1 hdl.2 _ (List.mem_of_getElem? hc))
  ·have hil:=(List.getElem?_eq_some_iff.1 hi).1
   have hjl:j < z':=by rw [← (hz d (List.mem_of_getElem? hi)).1]; exact (List.getElem?_eq_some_iff.1 hj).1
   have hlt:=z4t hil hjl
   have e1:(i * z' + j) / z' = i:=by rw [Nat.mul_comm,Nat.mul_add_div (by omega),Nat.div_eq_of_lt hjl,Nat.add_zero]
   have e2:(i * z' + j) % z' = j:=by rw [Nat.mul_comm,Nat.mul_add_mod,Nat.mod_eq_of_lt hjl]
   refine ⟨u i j,?_,hr i d j c hi hj⟩
   simp [hlt,e1,e2]
theorem z5i {w:World} (t ty e:TypeId) (i:TypeInfo) (ht:P.underlying t = some (.slice e)) (hi:P.info? e = some i)
  (g off sLen sCap:Nat) (cur:Array Value) (hg:w.heap[g]? = some (.cells cur e (0,0)))
  (a:Addr) (m c:Nat) (news:List Value) (hl:news.length = m * i.size) (hnews:∀ j u,news[j]? = some u->w.cell? (a.add j) = some u) (h1:∀ u ∈ news,u.oneCell' = true)
  (hroom:sLen + m≤sCap) (hfit:(off + sLen) * i.size + news.length≤cur.size) :
  (Builtin.append_ #[t,t] ty #[.slice (some ⟨g,off * i.size,none⟩) sLen sCap,.slice (some a) m c]).run P w =
   .ok (.slice (some ⟨g,off * i.size,none⟩) (sLen + m) sCap) (w.setRow g (cur.toList.take ((off + sLen) * i.size) ++ news ++ cur.toList.drop ((off + sLen) * i.size + news.length)).toArray):=by
 have hf:=run_firstCells_some (P:=P) w i.size m a m c news hl hnews
 have hst:=run_storeCells_at P g ((off + sLen) * i.size) e news 0 cur w hg (by simpa using hfit) h1
 simp only [Nat.add_zero] at hst
 rw [Nat.add_mul] at hst ⊢
 simp [Builtin.append_,run_underlying ht,sizeOf,typeInfo,hi,Builtin.lenOf,hroom,hf,Addr.add_lit,hst]
theorem ziz {o:Oper} {c:Call} {t e:TypeId} {i:TypeInfo} {zv:Value} {x y:Operand} {ix iy:IOpd} {dst:Nat} (ho:o.op = .call c) (hc:c.callee = .builtin .append) (hargs:c.args.toList = [x,y]) (hts:c.argTypes = #[t,t]) (ht:P.underlying t = some (.slice e)) (hi:P.info? e = some i) (hzv:i.zero = some zv) (hzs:zv.cells.size = i.size)
  (hx:z02 x = some ix) (hy:z02 y = some iy) (hdst:o.dst = some dst) (hn:dst < n)
  (h:SR w0 Pr0 n μ σ a w) {K:St->Prop} (hE:z14 σ (some dst) K (.append i.size e i.bytes ix iy)) {Q:Exit->Act->World->Prop} :
  o.wp P a w (fun a' w'=>∃ μ' σ',K σ'∧SR w0 Pr0 n μ' σ' a' w') Q:=by
 have tx:=h.get hx
 have ty:=h.get hy
 have hrun:=z3e (P:=P) (a:=a) (w:=w) ho hc
 rw [call2 hargs,hts] at hrun
 simp only [z14] at hE
 split at hE
 ·rename_i r off len l fz dst' e1 hbv hdd
  cases hdd
  rw [e1] at tx
  have hS:SR w0 Pr0 n μ (σ.fzs fz) a w:=SR.fzs h
  have hv:=h.byval hbv ty hS z1x
  split at hE
  ·rename_i arr ha
   obtain ⟨e0,e2,e3,e4,e5,e6,hK,hK2⟩:=hE
   obtain ⟨arr0,ha0⟩:∃ arr0,σ.H r = some arr0:=by
    cases hh:σ.H r with
    | some arr0=>exact ⟨arr0,rfl⟩
    | none=>rw [z0l hh] at ha; cases ha
   have hfz:Frozen arr0 arr:=by
    obtain ⟨a',q1,q2,_⟩:=z7j (l:=fz) ha0
    rw [ha] at q1; cases q1; exact q2
   obtain ⟨o1,o2,o3,o4⟩:=hS.obj r arr ha
   have hfinish:∀ (off' g cap:Nat) (cs':Array Value) (w':World) (arr':Arr) (v:Value),K ⟨upd (z6e σ.T r) dst (.rs r off' (len + l.length)),upd (σ.fzs fz).H r (some arr')⟩->arr'.z = arr.z->arr'.ty = arr.ty->arr'.prot≤off' + len->arr'.cells.length = off' + len + l.length ->
     (∀ y,y ∈ arr'.cells->y.cells.length = arr.z∧∀ c,c ∈ y.cells->c.one = true) ->
     (execOp a.eval o).run P w = .ok (.value v) w'->SlAt v g (off' * arr.z) (len + l.length) cap->Below w0.w.heap.size w0.w w'->w.heap.size≤w'.heap.size ->
     (∀ k,k < w.heap.size->k ≠ g->w'.heap[k]? = w.heap[k]?)->(μ r = some g∨w.heap.size≤g)->w'.heap[g]? = some (.cells cs' arr.ty (0,0))->(off' + cap) * arr.z = cs'.size->len + l.length≤cap->cap≤maxLen ->
     (μ r = some g->arr.prot≤arr'.prot∧∀ o,o < arr.prot * arr.z->w'.cell? ⟨g,o,none⟩ = w.cell? ⟨g,o,none⟩) ->
     (∀ (k:Nat) (y:AV) (j:Nat) (c:AV),arr'.cells[k]? = some y->y.cells[j]? = some c->∃ u,cs'[k * arr.z + j]? = some u∧VR (PrOf w0 Pr0 μ (σ.fzs fz).H) w c u) ->
     o.wp P a w (fun a' w'=>∃ μ' σ',K σ'∧SR w0 Pr0 n μ' σ' a' w') Q:=by
    intro off' g cap cs' w' arr' v hK hz' hty' hpr hlen2 hones hrun' hsl hB hsz hoth hg hblk hcap hle hmax hkeep hel
    unfold Oper.wp
    rw [hrun',Oper.upon_value,hdst]
    have hR:=SR.remake hS (w':=w') (r:=r) (g:=g) (arr':=arr') (cs':=cs') hB hsz hoth hg (by rw [hty']; exact hblk) (by
      intro ar har hg'
      rw [ha] at har; cases har
      exact ⟨hz'.symm,(hkeep hg').1,(hkeep hg').2⟩) (by rw [hz']; exact o1) (by omega) (by
      intro y hy
      rw [hz']; exact hones y hy) (by rw [hz',hlen2,← hcap]; exact Nat.mul_le_mul_right _ (by omega)) (by rw [hz']; exact hel) (by rw [ha]; rfl) (T':=z6e σ.T r) (by
      intro t
      unfold z6e
      by_cases e:(σ.T t).name = some r
      ·left; rw [if_pos e]
      ·right; rw [if_neg e,z4i]; exact ⟨rfl,.inl e⟩) (fun v u hf=>.inl fun e=>by have:=(h.frame v u hf).1 r e; omega)
    refine ⟨_,_,hK,SR.put hR hn ?_⟩
    intro ar har
    have har':upd (σ.fzs fz).H r (some arr') r = some ar:=har
    rw [z03] at har'
    cases har'
    exact .inr ⟨g,cap,cs',z03 _ _ _,by rw [hz']; exact hsl,by rw [hty']; exact hblk,by rw [hz']; exact hcap,by omega,hle,hmax⟩
   have hm9:maxLen = 9223372036854775807:=rfl
   obtain ⟨b1,b2⟩:=e5
   -- the cells of the first outcome
   have onesA:∀ y,y ∈ arr.cells.take (off + len) ++ l->y.cells.length = arr.z∧∀ c,c ∈ y.cells->c.one = true:=by
    intro y hy
    rcases List.mem_append.1 hy with hy | hy
    ·exact o3 y (List.mem_of_mem_take hy)
    ·exact ⟨by rw [(e6 y hy).1]; exact e2.symm,fun c hc=>List.all_eq_true.1 (e6 y hy).2 c hc⟩
   have lenA:off + len≤arr.cells.length->(arr.cells.take (off + len) ++ l).length = off + len + l.length:=fun q=>by rw [List.length_append,List.length_take,Nat.min_eq_left q]
   by_cases hl0:l.length = 0
   ·have hlnil:l = []:=List.length_eq_zero_iff.1 hl0
    subst hlnil
    obtain ⟨A,cy,hyv⟩:∃ A cy,a.eval y = .slice A 0 cy:=by
     generalize a.eval y = v at hv
     cases hv with
     | sl _ A cap z u hcap hmax hA hr=>exact ⟨A,cap,rfl⟩
    rcases tx arr0 ha0 with ⟨m1,m2,m3,m4⟩ | ⟨g,cap,cs,m1,m2,m3,m4,m5,m6,m7⟩
    ·-- nil and nothing
     subst m4
     subst m3
     have hr0:(execOp a.eval o).run P w = .ok (.value (.slice none 0 0)) w:=by
      rw [hrun]
      simp only [List.map_toArray,List.map_cons,List.map_nil,m2,hyv,builtin,Sem.run_bind,z4l ht hi (Nat.le_refl 0)]
      rfl
     unfold Oper.wp
     rw [hr0,Oper.upon_value,hdst]
     rw [m1] at o4
     have hc0:arr.cells = []:=o4
     have hH:upd (σ.fzs fz).H r (some { arr with cells:=arr.cells.take (0 + 0) ++ [] }) = (σ.fzs fz).H:=z3l _ r _ (by rw [ha]; congr 1; rw [hc0]; cases arr; simp at hc0; subst hc0; rfl)
     have hS3:SR w0 Pr0 n μ ⟨z6e σ.T r,(σ.fzs fz).H⟩ a w:=SR.forget hS (z6e σ.T r) (fun t=>by
      unfold z6e
      rw [z4i]
      by_cases e:(σ.T t).name = some r
      ·right; rw [if_pos e]
      ·left; rw [if_neg e])
     have hS4:=SR.put hS3 hn (d:=.rs r 0 (0 + ([]:List AV).length)) (v:=.slice none 0 0) (fun ar har=>.inl ⟨m1,rfl,rfl,rfl⟩)
     refine ⟨μ,_,hK,?_⟩
     rw [hH]
     exact hS4
    ·have hz0:=hfz.z
     rw [m1] at o4
     rcases o4 with ⟨_,ms,c0,q⟩ | ⟨cs0,f1,f2,f3⟩
     ·rw [m3] at q; cases q
     have hty:=hfz.ty
     rw [← hty] at m3
     rw [m3] at f1; cases f1
     obtain ⟨o',hvv⟩:=m2.val
     have hr0:(execOp a.eval o).run P w = .ok (.value (.slice (some ⟨g,o',none⟩) len cap)) w:=by
      rw [hrun]
      simp only [List.map_toArray,List.map_cons,List.map_nil,hvv,hyv,builtin,Sem.run_bind,z4l ht hi m6]
      rfl
     have hll:off + len≤arr.cells.length:=by rw [hfz.cells]; exact m5
     refine hfinish off g cap cs w _ _ hK rfl rfl e4 (lenA hll) onesA hr0 (by rw [← hvv,hz0]; exact m2) h.below (Nat.le_refl _) (fun _ _ _=>rfl) (.inl m1) m3 (by rw [hz0]; exact m4) m6 m7 (fun _=>⟨Nat.le_refl _,fun _ _=>rfl⟩) ?_
     intro k y' j c hk hj
     have hk:(arr.cells.take (off + len) ++ [])[k]? = some y':=hk
     rw [List.append_nil,List.getElem?_take] at hk
     split at hk
     ·exact f3 k y' j c hk hj
     ·cases hk
   ·have hlpos:0 < l.length:=by omega
    obtain ⟨b,off2,cy,news,hyv,n1,n2,n3,n4⟩:=hv.news i.size e6 hlpos
    have hsz:0 < i.size:=by rw [← e2]; exact o1
    rcases tx arr0 ha0 with ⟨m1,m2,m3,m4⟩ | ⟨g,cap,cs,m1,m2,m3,m4,m5,m6,m7⟩
    ·-- nil
     subst m4
     subst m3
     have hra:=run_append_nil (P:=P) w t o.type e i zv ht hi hzv ⟨b,off2,none⟩ l.length cy news n1 n2 hlpos (by omega) (by rw [Nat.zero_add] at b1; omega)
     have hr0:(execOp a.eval o).run P w = .ok (.value (.slice (some ⟨w.heap.size,0,none⟩) (0 + l.length) (grownCap w l.length 0 e))) (w.drew.alloc (.cells (news.toArray ++ Builtin.zeroCells zv.cells (grownCap w l.length 0 e - l.length)) e)):=by
      rw [hrun]
      simp only [List.map_toArray,List.map_cons,List.map_nil,m2,hyv,builtin,Sem.run_bind,hra,Nat.zero_add]
      rfl
     rw [m1] at o4
     have hc0:arr.cells = []:=o4
     have hge:=grownCap_ge w l.length 0 e
     refine hfinish 0 w.heap.size _ (news.toArray ++ Builtin.zeroCells zv.cells (grownCap w l.length 0 e - l.length)) _ _ _ hK rfl rfl e4 (lenA (Nat.zero_le _)) onesA hr0 (.inl (by rw [Nat.zero_mul])) (h.below.drew.alloc (by have:=h.below.size; exact this) _) (by simp) (fun k hk _=>Below.heap_alloc w.drew _ k hk) (.inr (Nat.le_refl _)) (by rw [e3]; exact heap_alloc_new w.drew _) ?_ (by omega) (grownCap_le_maxLen w _ _ e (by omega)) (fun hg=>by rw [m1] at hg; cases hg) ?_
     ·simp only [Array.size_append,List.size_toArray,n1,size_zeroCells,hzs,e2]
      rw [← Nat.add_mul]; congr 1; omega
     ·intro k y' j c hk hj
      have hk:(arr.cells.take (0 + 0) ++ l)[k]? = some y':=hk
      rw [Nat.add_zero,List.take_zero,List.nil_append] at hk
      obtain ⟨u,q1,q2⟩:=n4 k y' j c hk hj
      refine ⟨u,?_,q2⟩
      rw [e2,Array.getElem?_append_left (by have:=(List.getElem?_eq_some_iff.1 q1).1; simpa using this)]
      simpa using q1
    ·have hz0:=hfz.z
     have hty:=hfz.ty
     rw [m1] at o4
     rcases o4 with ⟨_,ms,c0,q⟩ | ⟨cs0,f1,f2,f3⟩
     ·rw [m3] at q; cases q
     rw [← hty] at m3
     rw [m3] at f1; cases f1
     rw [← hz0] at m4 m2
     have hll:off + len≤arr.cells.length:=by rw [hfz.cells]; exact m5
     have hcz:(off + cap) * i.size = cs.size:=by rw [← e2]; exact m4
     by_cases hroom:len + l.length≤cap
     ·-- there is room
      have hbase:a.eval x = .slice (some ⟨g,off * i.size,none⟩) len cap:=by rw [← e2]; exact m2.exact (by omega)
      have hfit:(off + len) * i.size + news.length≤cs.size:=by
       rw [n1,← Nat.add_mul,← hcz]; exact Nat.mul_le_mul_right _ (by omega)
      have hra:=z5i (P:=P) (w:=w) t o.type e i ht hi g off len cap cs (by rw [← e3]; exact m3) ⟨b,off2,none⟩ l.length cy news n1 n2 n3 hroom hfit
      obtain ⟨cs',hcs'⟩:∃ cs',(cs.toList.take ((off + len) * i.size) ++ news ++ cs.toList.drop ((off + len) * i.size + news.length)).toArray = cs':=⟨_,rfl⟩
      rw [hcs'] at hra
      have hr0:(execOp a.eval o).run P w = .ok (.value (.slice (some ⟨g,off * i.size,none⟩) (len + l.length) cap)) (w.setRow g cs'):=by
       rw [hrun]
       simp only [List.map_toArray,List.map_cons,List.map_nil,hbase,hyv,builtin,Sem.run_bind,hra]
       rfl
      have hl1:(cs.toList.take ((off + len) * i.size)).length = (off + len) * i.size:=by rw [List.length_take,Array.length_toList]; omega
      have hcsz:cs'.size = cs.size:=by rw [← hcs']; simp; omega
      have hget1:∀ q,q < (off + len) * i.size->cs'[q]? = cs[q]?:=by
       intro q hq
       rw [← hcs',List.getElem?_toArray,List.append_assoc,List.getElem?_append_left (by omega),List.getElem?_take,if_pos hq,Array.getElem?_toList]
      have hget2:∀ q,q < news.length->cs'[(off + len) * i.size + q]? = news[q]?:=by
       intro q hq
       rw [← hcs',List.getElem?_toArray,List.append_assoc,List.getElem?_append_right (by omega),hl1,List.getElem?_append_left (by omega),show (off + len) * i.size + q - (off + len) * i.size = q by omega]
      refine hfinish off g cap cs' _ _ _ hK rfl rfl e4 (lenA hll) onesA hr0 (.inl (by rw [e2])) (z4a h.below (h.range r g m1).1 cs') (by simp) (fun k hk hne=>setRow_other w g k cs' hne) (.inl m1) (setRow_heap w g cs cs' arr.ty (0,0) m3) (by rw [hcsz,← hcz,e2]) hroom m7 ?_ ?_
      ·intro _
       refine ⟨Nat.le_refl _,fun q hq=>?_⟩
       rw [cell_setRow_same w g q cs cs' arr.ty (0,0) m3,z32 m3]
       refine hget1 q ?_
       have:arr.prot * arr.z≤(off + len) * i.size:=by rw [e2]; exact Nat.mul_le_mul_right _ e4
       omega
      ·intro k y' j c hk hj
       have hk:(arr.cells.take (off + len) ++ l)[k]? = some y':=hk
       rcases Nat.lt_or_ge k (off + len) with h1 | h1
       ·rw [List.getElem?_append_left (by rw [List.length_take]; omega),List.getElem?_take,if_pos h1] at hk
        obtain ⟨u,q1,q2⟩:=f3 k y' j c hk hj
        have hjl:j < arr.z:=by rw [← (o3 y' (List.mem_of_getElem? hk)).1]; exact (List.getElem?_eq_some_iff.1 hj).1
        exact ⟨u,by rw [hget1 _ (by rw [← e2]; exact z4t h1 hjl)]; exact q1,q2⟩
       ·rw [List.getElem?_append_right (by rw [List.length_take]; omega),List.length_take,Nat.min_eq_left hll] at hk
        obtain ⟨u,q1,q2⟩:=n4 (k - (off + len)) y' j c hk hj
        refine ⟨u,?_,q2⟩
        have e:k * arr.z + j = (off + len) * i.size + ((k - (off + len)) * i.size + j):=by
         rw [e2,← Nat.add_assoc,← Nat.add_mul,show off + len + (k - (off + len)) = k by omega]
        rw [e,hget2 _ (List.getElem?_eq_some_iff.1 q1).1]
        exact q1
     ·-- it grows
      obtain ⟨o',hbase⟩:=m2.val
      have hex:0 < len->o' = off * i.size:=fun h0=>by
       have:=m2.exact (by omega)
       rw [hbase] at this
       rw [← e2]
       simpa using this
      have hlenz:(off + len) * i.size≤cs.size:=by rw [← hcz]; exact Nat.mul_le_mul_right _ (by omega)
      obtain ⟨olds,holds⟩:∃ olds,(cs.toList.drop (off * i.size)).take (len * i.size) = olds:=⟨_,rfl⟩
      have hlol:olds.length = len * i.size:=by rw [← holds,List.length_take,List.length_drop,Array.length_toList]; rw [Nat.add_mul] at hlenz; omega
      have hra:=run_append_grow (P:=P) w t o.type e i zv ht hi hzv ⟨g,o',none⟩ len cap olds hlol (by
       intro j v hj
       have hjl:j < len * i.size:=by rw [← hlol]; exact (List.getElem?_eq_some_iff.1 hj).1
       have hl0':0 < len:=by
        rcases Nat.eq_zero_or_pos len with q | q
        ·rw [q,Nat.zero_mul] at hjl; omega
        ·exact q
       rw [← holds,List.getElem?_take,if_pos hjl,List.getElem?_drop,Array.getElem?_toList] at hj
       rw [z3q,z32 m3,hex hl0']; exact hj) ⟨b,off2,none⟩ l.length cy news n1 n2 (by omega) (by omega) (growslice_fits (by omega) b1)
      obtain ⟨cp,hcp⟩:∃ cp,grownCap w (len + l.length) cap e = cp:=⟨_,rfl⟩
      have hge:=grownCap_ge w (len + l.length) cap e
      have hmx:=grownCap_le_maxLen w (len + l.length) cap e (by omega)
      rw [hcp] at hra hge hmx
      obtain ⟨cs',hcs'⟩:∃ cs',olds.toArray ++ news.toArray ++ Builtin.zeroCells zv.cells (cp - (len + l.length)) = cs':=⟨_,rfl⟩
      rw [hcs'] at hra
      have hr0:(execOp a.eval o).run P w = .ok (.value (.slice (some ⟨w.heap.size,0,none⟩) (len + l.length) cp)) (w.drew.alloc (.cells cs' e)):=by
       rw [hrun]
       simp only [List.map_toArray,List.map_cons,List.map_nil,hbase,hyv,builtin,Sem.run_bind,hra]
       rfl
      have hcsz:cs'.size = cp * i.size:=by
       rw [← hcs']
       simp only [Array.size_append,List.size_toArray,hlol,n1,size_zeroCells,hzs]
       rw [← Nat.add_mul,← Nat.add_mul]; congr 1; omega
      have hget1:∀ q,q < len * i.size->cs'[q]? = cs[off * i.size + q]?:=by
       intro q hq
       rw [← hcs',Array.getElem?_append_left (by simp [hlol]; omega),Array.getElem?_append_left (by simp [hlol]; omega),List.getElem?_toArray,← holds,List.getElem?_take,if_pos hq,List.getElem?_drop,Array.getElem?_toList]
      have hget2:∀ q,q < news.length->cs'[len * i.size + q]? = news[q]?:=by
       intro q hq
       rw [← hcs',Array.getElem?_append_left (by simp only [Array.size_append,List.size_toArray,hlol]; omega),Array.getElem?_append_right (by simp only [List.size_toArray,hlol]; omega)]
       simp only [List.size_toArray,hlol,List.getElem?_toArray]
       congr 1; omega
      have hlen3:((arr.cells.drop off).take len ++ l).length = 0 + len + l.length:=by rw [List.length_append,List.length_take,List.length_drop]; omega
      have hel3:∀ (k:Nat) (y:AV) (j:Nat) (c:AV),((arr.cells.drop off).take len ++ l)[k]? = some y->y.cells[j]? = some c->∃ u,cs'[k * arr.z + j]? = some u∧VR (PrOf w0 Pr0 μ (σ.fzs fz).H) w c u:=by
       intro k y' j c hk hj
       have hlt:((arr.cells.drop off).take len).length = len:=by rw [List.length_take,List.length_drop]; omega
       rcases Nat.lt_or_ge k len with h1 | h1
       ·rw [List.getElem?_append_left (by omega),List.getElem?_take,if_pos h1,List.getElem?_drop] at hk
        obtain ⟨u,q1,q2⟩:=f3 (off + k) y' j c hk hj
        have hjl:j < arr.z:=by rw [← (o3 y' (List.mem_of_getElem? hk)).1]; exact (List.getElem?_eq_some_iff.1 hj).1
        refine ⟨u,?_,q2⟩
        rw [hget1 _ (by rw [← e2]; exact z4t h1 hjl),← e2,← q1]
        congr 1; rw [Nat.add_mul]; omega
       ·rw [List.getElem?_append_right (by omega),hlt] at hk
        obtain ⟨u,q1,q2⟩:=n4 (k - len) y' j c hk hj
        refine ⟨u,?_,q2⟩
        have e:k * arr.z + j = len * i.size + ((k - len) * i.size + j):=by
         rw [e2,← Nat.add_assoc,← Nat.add_mul,show len + (k - len) = k by omega]
        rw [e,hget2 _ (List.getElem?_eq_some_iff.1 q1).1]
        exact q1
      rcases Nat.eq_zero_or_pos off with h0 | h0
      ·subst h0
       refine hfinish 0 w.heap.size cp cs' _ _ _ hK rfl rfl e4 (lenA hll) onesA hr0 (.inl (by rw [Nat.zero_mul])) (h.below.drew.alloc (by have:=h.below.size; exact this) _) (by simp) (fun k hk _=>Below.heap_alloc w.drew _ k hk) (.inr (Nat.le_refl _)) (by rw [e3]; exact heap_alloc_new w.drew _) (by rw [hcsz,e2,Nat.zero_add]) hge hmx (fun hg=>by have:=(h.range r _ hg).2; omega) ?_
       intro k y' j c hk hj
       refine hel3 k y' j c ?_ hj
       rw [List.drop_zero]
       have hk:(arr.cells.take (0 + len) ++ l)[k]? = some y':=hk
       rw [Nat.zero_add] at hk; exact hk
      ·refine hfinish 0 w.heap.size cp cs' _ ⟨arr.z,arr.ty,(arr.cells.drop off).take len ++ l,0⟩ _ (hK2 (by omega)) rfl rfl (Nat.zero_le _) hlen3 ?_ hr0 (.inl (by rw [Nat.zero_mul])) (h.below.drew.alloc (by have:=h.below.size; exact this) _) (by simp) (fun k hk _=>Below.heap_alloc w.drew _ k hk) (.inr (Nat.le_refl _)) (by rw [e3]; exact heap_alloc_new w.drew _) (by rw [hcsz,e2,Nat.zero_add]) hge hmx (fun hg=>by have:=(h.range r _ hg).2; omega) hel3
       intro y hy
       rcases List.mem_append.1 hy with hy | hy
       ·exact o3 y (List.mem_of_mem_drop (List.mem_of_mem_take hy))
       ·exact ⟨by rw [(e6 y hy).1]; exact e2.symm,fun c hc=>List.all_eq_true.1 (e6 y hy).2 c hc⟩
  ·exact hE.elim
 ·exact hE.elim
end
end Go.Proofs.YtlhblpbfhfhlpaaGreatDoor
end
section
namespace Go.Proofs.YtlhblpbfhfhlpaaGreatDoor
open Go.RowKit
def IOp.opds:IOp->List IOpd
 | .mv x | .mvs x | .un _ x | .ext _ x | .load _ _ x | .faddr _ x | .fld _ _ _ x | .len _ x | .conv _ x | .box _ _ x | .tobytes x | .tostr x | .loadp _ _ x=>[x]
 | .pick a b c=>[a,b,c]
 | .bin _ x y | .beq _ x y | .feq _ _ x y | .iaddr _ x y | .iaddrA _ _ x y | .idx x y | .idxA _ _ _ x y | .mx _ x y | .store _ x y | .append _ _ _ x y | .copy _ x y | .storep _ x y=>[x,y]
 | .slc _ _ x lo hi=>x :: (lo.toList ++ hi.toList)
 | .mkfn _ l m=>l ++ m
 | .bld _ ps=>ps.map (·.x)
 | .alloc .. | .mknil ..=>[]
 | .bsl _ _ l | .call _ l=>l
 | .mksl _ _ _ _ x | .nileq _ x=>[x]
 | .callv f l=>f :: l
def IOp.free:IOp->Bool
 | .mv _ | .pick .. | .bin .. | .un .. | .conv .. | .iaddr ..=>true
 | _=>false
def IOp.ghost:IOp->Bool
 | .loadp ..=>true
 | _=>false
structure Alike (io:IOp) (hid:List Nat) (σ σ':St):Prop where
 get:∀ x,x ∈ io.opds->σ'.get x = σ.get x
 obj:io.free = false->∀ r arr,hid.contains r = false->σ.H r = some arr->σ'.H r = some arr
 gh:io.ghost = true->∀ t,1000≤t->σ'.T t = σ.T t
 objz:∀ r arr,hid.contains r = false->σ.H r = some arr->∃ arr',σ'.H r = some arr'∧arr'.z = arr.z
theorem Alike.refl (io:IOp) (hid:List Nat) (σ:St):Alike io hid σ σ:=⟨fun _ _=>rfl,fun _ _ _ _ h=>h,fun _ _ _=>rfl,fun _ arr _ h=>⟨arr,h,rfl⟩⟩
theorem privV_det {σ:St} {t:Nat} {c:AV} {K:AV->Prop} (h:zb5 σ t c K):∃ v,K v∧∀ (σ':St) (K':AV->Prop),σ'.T t = σ.T t->K' v->zb5 σ' t c K':=by
 unfold zb5 at h
 split at h
 ·rename_i u
  split at h
  ·rename_i q off len u' e
   exact ⟨_,h.2,fun σ' K' ht hk=>by unfold zb5; simp only; rw [ht,e]; exact ⟨h.1,hk⟩⟩
  ·rename_i hne
   refine ⟨_,h,fun σ' K' ht hk=>?_⟩
   unfold zb5
   simp only
   rw [ht]
   split
   ·rename_i q off len u' e; exact absurd e (hne q off len u')
   ·exact hk
 ·rename_i hne
  refine ⟨_,h,fun σ' K' ht hk=>?_⟩
  unfold zb5
  split
  ·rename_i u; exact absurd rfl (hne u)
  ·exact hk
theorem z6l {hid:List Nat} {σ:St}:∀ {l:List AV} {t:Nat} {K:List AV->List Nat->Prop},1000≤t->z5l σ hid t l K ->
  ∃ cs fz,K cs fz∧∀ (σ':St) (K':List AV->List Nat->Prop),(∀ t,1000≤t->σ'.T t = σ.T t)->(∀ r arr,hid.contains r = false->σ.H r = some arr->σ'.H r = some arr)->K' cs fz->z5l σ' hid t l K'
 | [],t,K,ht,h=>⟨[],[],h,fun σ' K' _ _ hk=>hk⟩
 | c :: l,t,K,ht,h=>by
  unfold z5l at h
  split at h
  ·rename_i u
   split at h
   ·rename_i q off len u' e
    obtain ⟨e1,e2,h⟩:=h
    split at h
    ·rename_i arr ha
     obtain ⟨cs,fz,h1,h2⟩:=z6l (by omega) h
     refine ⟨_,_,h1,fun σ' K' g1 g2 hk=>?_⟩
     unfold z5l
     simp only
     rw [g1 t ht,e]
     simp only
     refine ⟨e1,e2,?_⟩
     rw [g2 q arr e2 ha]
     exact h2 σ' _ g1 g2 hk
    ·exact h.elim
   ·rename_i hne
    obtain ⟨cs,fz,h1,h2⟩:=z6l (by omega) h
    refine ⟨_,_,h1,fun σ' K' g1 g2 hk=>?_⟩
    unfold z5l
    simp only
    rw [g1 t ht]
    split
    ·rename_i q off len u' e; exact absurd e (hne q off len u')
    ·exact h2 σ' _ g1 g2 hk
  ·rename_i hne
   obtain ⟨cs,fz,h1,h2⟩:=z6l (by omega) h
   refine ⟨_,_,h1,fun σ' K' g1 g2 hk=>?_⟩
   unfold z5l
   split
   ·rename_i u; exact absurd rfl (hne u)
   ·exact h2 σ' _ g1 g2 hk
theorem binI_det {op:BinOp} {k:IntKind} {a b:Int} {K:AV->Prop} (h:binI op k a b K):∃ v,K v∧∀ K',K' v->binI op k a b K':=by
 cases op <;> simp only [binI] at h ⊢ <;>
  first
   | exact ⟨_,h,fun K' hk=>hk⟩
   | exact ⟨_,h.2,fun K' hk=>⟨h.1,hk⟩⟩
   | exact h.elim
theorem binS_det {op:BinOp} {a b:ByteArray} {K:AV->Prop} (h:binS op a b K):∃ v,K v∧∀ K',K' v->binS op a b K':=by
 cases op <;> simp only [binS] at h ⊢ <;>
  first
   | exact ⟨_,h,fun K' hk=>hk⟩
   | exact ⟨_,h.2,fun K' hk=>⟨h.1,hk⟩⟩
   | exact h.elim
theorem z3y {agg:Bool} {z:Nat} {cs:List AV} {K:AV->Prop} (h:z2u agg z cs K):∃ v,K v∧∀ K',K' v->z2u agg z cs K':=by
 unfold z2u at h
 split at h
 ·rename_i hg
  exact ⟨_,h.2,fun K' hk=>by unfold z2u; rw [if_pos hg]; exact ⟨h.1,hk⟩⟩
 ·rename_i hg
  cases cs with
  | nil=>exact h.elim
  | cons c cs=>exact ⟨_,h,fun K' hk=>by unfold z2u; rw [if_neg hg]; exact hk⟩
theorem z24 {σ:St} {x:Option IOpd} {d:Nat} {K:Nat->Prop} (h:z33 σ x d K):∃ m,K m∧∀ (σ':St) K',(∀ y,x = some y->σ'.get y = σ.get y)->K' m->z33 σ' x d K':=by
 unfold z33 at h
 cases x with
 | none=>exact ⟨_,h,fun σ' K' _ hk=>hk⟩
 | some x =>
  simp only at h
  split at h
  ·rename_i k m e
   exact ⟨_,h.2,fun σ' K' hx hk=>by unfold z33; simp only; rw [hx x rfl,e]; exact ⟨h.1,hk⟩⟩
  ·exact h.elim
theorem zav {hid:List Nat} {σ σ':St} (hH:∀ r arr,hid.contains r = false->σ.H r = some arr->σ'.H r = some arr) {v:AV} {q:AV × List Nat} (h:σ.byval hid v = some q):σ'.byval hid v = some q:=by
 unfold St.byval at h ⊢
 cases v with
 | rs r off len =>
  simp only at h ⊢
  split at h
  ·cases h
  ·rename_i hc
   rw [if_neg hc]
   split at h
   ·rename_i arr ha
    rw [hH r arr (by simpa using hc) ha]; exact h
   ·cases h
 | ptr r i f =>
  simp only at h ⊢
  split at h
  ·cases h
  ·rename_i hc
   rw [if_neg hc]
   split at h
   ·rename_i arr ha
    rw [hH r arr (by simpa using hc) ha]; exact h
   ·cases h
 | _=>exact h
theorem z2l {hid:List Nat} {σ σ':St} (hH:∀ r arr,hid.contains r = false->σ.H r = some arr->σ'.H r = some arr):∀ {l:List AV} {q:List AV × List Nat},σ.byvals hid l = some q->σ'.byvals hid l = some q
 | [],q,h=>h
 | v :: l,q,h=>by
  simp only [St.byvals] at h ⊢
  split at h
  ·rename_i d f h1
   rw [zav hH h1]
   split at h
   ·rename_i ds fs h2
    rw [z2l hH h2]
    exact h
   ·cases h
  ·cases h
theorem za1 {io:IOp} {hid:List Nat} {σ σ':St} (hA:Alike io hid σ σ') {l:List IOpd} (hl:∀ x,x ∈ l->x ∈ io.opds):l.map σ'.get = l.map σ.get :=
 List.map_congr_left fun x hx=>hA.get x (hl x hx)
theorem evalV_det {hid:List Nat} {σ:St} {K:AV->List Nat->Prop}:∀ {io:IOp},z05 hid σ K io->∃ v fz,K v fz∧∀ σ' K',Alike io hid σ σ'->K' v fz->z05 hid σ' K' io:=by
 intro io h
 cases io with
 | mv x=>exact ⟨_,_,h,fun σ' K' hA hk=>by simp only [z05]; rw [hA.get x (by simp [IOp.opds])]; exact hk⟩
 | mvs x =>
  simp only [z05] at h
  split at h
  ·rename_i s e
   exact ⟨_,_,h,fun σ' K' hA hk=>by simp only [z05]; rw [hA.get x (by simp [IOp.opds]),e]; exact hk⟩
  ·exact h.elim
 | pick c x y =>
  simp only [z05] at h
  split at h
  ·rename_i e
   exact ⟨_,_,h,fun σ' K' hA hk=>by simp only [z05]; rw [hA.get c (by simp [IOp.opds]),e,hA.get x (by simp [IOp.opds])]; exact hk⟩
  ·rename_i e
   exact ⟨_,_,h,fun σ' K' hA hk=>by simp only [z05]; rw [hA.get c (by simp [IOp.opds]),e,hA.get y (by simp [IOp.opds])]; exact hk⟩
  ·exact h.elim
 | bin op x y =>
  simp only [z05] at h
  split at h
  ·rename_i k m k' m' e1 e2
   obtain ⟨hk,h⟩:=h
   obtain ⟨v,h1,h2⟩:=binI_det h
   exact ⟨v,[],h1,fun σ' K' hA hk'=>by simp only [z05]; rw [hA.get x (by simp [IOp.opds]),e1,hA.get y (by simp [IOp.opds]),e2]; exact ⟨hk,h2 (fun v=>K' v []) hk'⟩⟩
  ·rename_i s s' e1 e2
   obtain ⟨v,h1,h2⟩:=binS_det h
   exact ⟨v,[],h1,fun σ' K' hA hk'=>by simp only [z05]; rw [hA.get x (by simp [IOp.opds]),e1,hA.get y (by simp [IOp.opds]),e2]; exact h2 (fun v=>K' v []) hk'⟩
  ·exact h.elim
 | beq neq x y =>
  simp only [z05] at h
  split at h
  ·rename_i e1 e2
   exact ⟨_,_,h,fun σ' K' hA hk=>by simp only [z05]; rw [hA.get x (by simp [IOp.opds]),e1,hA.get y (by simp [IOp.opds]),e2]; exact hk⟩
  ·exact h.elim
 | feq neq sh x y =>
  simp only [z05] at h
  split at h
  ·rename_i e1 e2
   exact ⟨_,_,h.2,fun σ' K' hA hk=>by simp only [z05]; rw [hA.get x (by simp [IOp.opds]),e1,hA.get y (by simp [IOp.opds]),e2]; exact ⟨h.1,hk⟩⟩
  ·exact h.elim
 | un op x =>
  simp only [z05] at h
  split at h
  ·rename_i e
   exact ⟨_,_,h,fun σ' K' hA hk=>by simp only [z05]; rw [hA.get x (by simp [IOp.opds]),e]; exact hk⟩
  ·rename_i e
   exact ⟨_,_,h,fun σ' K' hA hk=>by simp only [z05]; rw [hA.get x (by simp [IOp.opds]),e]; exact hk⟩
  ·exact h.elim
 | ext i x =>
  simp only [z05] at h
  split at h
  ·rename_i vs e
   split at h
   ·rename_i c e2
    exact ⟨_,_,h,fun σ' K' hA hk=>by simp only [z05]; rw [hA.get x (by simp [IOp.opds]),e]; simp only [e2]; exact hk⟩
   ·exact h.elim
  ·exact h.elim
 | load z agg p =>
  simp only [z05] at h
  split at h
  ·rename_i cs e
   obtain ⟨v,h1,h2⟩:=z3y h
   exact ⟨v,[],h1,fun σ' K' hA hk=>by simp only [z05]; rw [hA.get p (by simp [IOp.opds]),e]; exact h2 (fun v=>K' v []) hk⟩
  ·rename_i r i f e
   obtain ⟨hh,h⟩:=h
   split at h
   ·rename_i arr ha
    split at h
    ·rename_i d hd
     obtain ⟨v,h1,h2⟩:=z3y h
     exact ⟨v,[],h1,fun σ' K' hA hk=>by simp only [z05]; rw [hA.get p (by simp [IOp.opds]),e]; simp only [hA.obj rfl r arr hh ha,hd]; exact ⟨hh,h2 (fun v=>K' v []) hk⟩⟩
    ·exact h.elim
   ·exact h.elim
  ·exact h.elim
 | faddr off p =>
  simp only [z05] at h
  split at h
  ·rename_i cs e
   exact ⟨_,_,h,fun σ' K' hA hk=>by simp only [z05]; rw [hA.get p (by simp [IOp.opds]),e]; exact hk⟩
  ·rename_i r i f e
   obtain ⟨hh,h⟩:=h
   split at h
   ·rename_i arr ha
    exact ⟨_,_,h,fun σ' K' hA hk=>by simp only [z05]; rw [hA.get p (by simp [IOp.opds]),e]; simp only [hA.obj rfl r arr hh ha]; exact ⟨hh,hk⟩⟩
   ·exact h.elim
  ·exact h.elim
 | fld off z agg x =>
  simp only [z05] at h
  split at h
  ·rename_i cs e
   obtain ⟨v,h1,h2⟩:=z3y h
   exact ⟨v,[],h1,fun σ' K' hA hk=>by simp only [z05]; rw [hA.get x (by simp [IOp.opds]),e]; exact h2 (fun v=>K' v []) hk⟩
  ·exact h.elim
 | iaddr z x i =>
  simp only [z05] at h
  split at h
  ·rename_i k m l e1 e2
   obtain ⟨q1,q2,h⟩:=h
   exact ⟨_,_,h,fun σ' K' hA hk=>by simp only [z05]; rw [hA.get i (by simp [IOp.opds]),e1,hA.get x (by simp [IOp.opds]),e2]; exact ⟨q1,q2,hk⟩⟩
  ·rename_i k m r off len e1 e2
   obtain ⟨hh,q1,h⟩:=h
   split at h
   ·rename_i arr ha
    refine ⟨_,_,h.2,fun σ' K' hA hk=>?_⟩
    obtain ⟨arr',ha',hz'⟩:=hA.objz r arr hh ha
    simp only [z05]; rw [hA.get i (by simp [IOp.opds]),e1,hA.get x (by simp [IOp.opds]),e2]; simp only [ha']; exact ⟨hh,q1,by rw [hz']; exact h.1,hk⟩
   ·exact h.elim
  ·exact h.elim
 | idx x i =>
  simp only [z05] at h
  split at h
  ·rename_i k m s e1 e2
   exact ⟨_,_,h.2,fun σ' K' hA hk=>by simp only [z05]; rw [hA.get i (by simp [IOp.opds]),e1,hA.get x (by simp [IOp.opds]),e2]; exact ⟨h.1,hk⟩⟩
  ·exact h.elim
 | idxA len z agg x i =>
  simp only [z05] at h
  split at h
  ·rename_i k m cs e1 e2
   obtain ⟨q,h⟩:=h
   obtain ⟨v,h1,h2⟩:=z3y h
   exact ⟨v,[],h1,fun σ' K' hA hk=>by simp only [z05]; rw [hA.get i (by simp [IOp.opds]),e1,hA.get x (by simp [IOp.opds]),e2]; exact ⟨q,h2 (fun v=>K' v []) hk⟩⟩
  ·exact h.elim
 | slc str z x lo hi =>
  have hlo:∀ {σ':St},Alike (.slc str z x lo hi) hid σ σ'->∀ y,lo = some y->σ'.get y = σ.get y:=fun hA y hy=>hA.get y (by simp [IOp.opds,hy])
  have hhi:∀ {σ':St},Alike (.slc str z x lo hi) hid σ σ'->∀ y,hi = some y->σ'.get y = σ.get y:=fun hA y hy=>hA.get y (by simp [IOp.opds,hy])
  simp only [z05] at h
  split at h
  ·rename_i s _ e
   obtain ⟨g0,h⟩:=h
   obtain ⟨m,⟨g1,h1⟩,b1⟩:=z24 h
   obtain ⟨m2,⟨g2,h2⟩,b2⟩:=z24 h1
   refine ⟨_,_,h2,fun σ' K' hA hk=>?_⟩
   simp only [z05]
   rw [hA.get x (by simp [IOp.opds]),e]
   exact ⟨g0,b1 σ' _ (hhi hA) ⟨g1,b2 σ' _ (hlo hA) ⟨g2,hk⟩⟩⟩
  ·rename_i l _ e
   obtain ⟨m,⟨g1,h1⟩,b1⟩:=z24 h
   obtain ⟨m2,⟨g2,g3,h2⟩,b2⟩:=z24 h1
   refine ⟨_,_,h2,fun σ' K' hA hk=>?_⟩
   simp only [z05]
   rw [hA.get x (by simp [IOp.opds]),e]
   exact b1 σ' _ (hhi hA) ⟨g1,b2 σ' _ (hlo hA) ⟨g2,g3,hk⟩⟩
  ·rename_i r off len e
   obtain ⟨hh,h⟩:=h
   split at h
   ·rename_i arr ha
    obtain ⟨hz,h⟩:=h
    obtain ⟨m,⟨g1,h1⟩,b1⟩:=z24 h
    cases lo with
    | none =>
     refine ⟨_,_,h1,fun σ' K' hA hk=>?_⟩
     simp only [z05]
     rw [hA.get x (by simp [IOp.opds]),e]
     simp only [hA.obj rfl r arr hh ha]
     exact ⟨hh,hz,b1 σ' _ (hhi hA) ⟨g1,hk⟩⟩
    | some lo =>
     have hlk:loK (some lo) = 1∨loK (some lo) = 2:=by
      unfold loK
      split
      ·rename_i e; cases e
      ·split
       ·exact .inl rfl
       ·exact .inr rfl
      ·exact .inr rfl
     rcases hlk with hlk | hlk
     ·unfold z5c at h1
      rw [hlk] at h1
      simp only at h1
      refine ⟨_,_,h1.2,fun σ' K' hA hk=>?_⟩
      simp only [z05]
      rw [hA.get x (by simp [IOp.opds]),e]
      simp only [hA.obj rfl r arr hh ha]
      refine ⟨hh,hz,b1 σ' _ (hhi hA) ⟨g1,?_⟩⟩
      unfold z5c
      rw [hlk]
      exact ⟨h1.1,hk⟩
     unfold z5c at h1
     rw [hlk] at h1
     simp only at h1
     obtain ⟨m2,⟨g2,h2⟩,b2⟩:=z24 h1
     refine ⟨_,_,h2,fun σ' K' hA hk=>?_⟩
     simp only [z05]
     rw [hA.get x (by simp [IOp.opds]),e]
     simp only [hA.obj rfl r arr hh ha]
     unfold z5c
     rw [hlk]
     exact ⟨hh,hz,b1 σ' _ (hhi hA) ⟨g1,b2 σ' (fun m2=>m2≤m∧K' (.sl ((arr.cells.drop (off + m2)).take (m - m2))) [r]) (hlo hA) ⟨g2,hk⟩⟩⟩
   ·exact h.elim
  ·rename_i l _ e
   obtain ⟨g0,h⟩:=h
   obtain ⟨m,⟨g1,h1⟩,b1⟩:=z24 h
   obtain ⟨m2,⟨g2,g3,h2⟩,b2⟩:=z24 h1
   refine ⟨_,_,h2,fun σ' K' hA hk=>?_⟩
   simp only [z05]
   rw [hA.get x (by simp [IOp.opds]),e]
   exact ⟨g0,b1 σ' _ (hhi hA) ⟨g1,b2 σ' _ (hlo hA) ⟨g2,g3,hk⟩⟩⟩
  ·rename_i r off len e
   obtain ⟨g0,hh,h⟩:=h
   split at h
   ·rename_i arr ha
    obtain ⟨hz,h⟩:=h
    obtain ⟨m,⟨g1,h1⟩,b1⟩:=z24 h
    obtain ⟨m2,⟨g2,h2⟩,b2⟩:=z24 h1
    refine ⟨_,_,h2,fun σ' K' hA hk=>?_⟩
    simp only [z05]
    rw [hA.get x (by simp [IOp.opds]),e]
    simp only [hA.obj rfl r arr hh ha]
    exact ⟨g0,hh,hz,b1 σ' _ (hhi hA) ⟨g1,b2 σ' (fun m2=>m2≤m∧K' (.rs r (off + m2) (m - m2)) []) (hlo hA) ⟨g2,hk⟩⟩⟩
   ·exact h.elim
  ·exact h.elim
 | len str x =>
  simp only [z05] at h
  split at h
  ·rename_i l e
   exact ⟨_,_,h,fun σ' K' hA hk=>by simp only [z05]; rw [hA.get x (by simp [IOp.opds]),e]; exact hk⟩
  ·rename_i r off len e
   obtain ⟨hh,h⟩:=h
   split at h
   ·rename_i arr ha
    exact ⟨_,_,h,fun σ' K' hA hk=>by simp only [z05]; rw [hA.get x (by simp [IOp.opds]),e]; simp only [hA.obj rfl r arr hh ha]; exact ⟨hh,hk⟩⟩
   ·exact h.elim
  ·rename_i s e
   exact ⟨_,_,h,fun σ' K' hA hk=>by simp only [z05]; rw [hA.get x (by simp [IOp.opds]),e]; exact hk⟩
  ·exact h.elim
 | mx b x y =>
  simp only [z05] at h
  split at h
  ·rename_i e1 e2
   exact ⟨_,_,h,fun σ' K' hA hk=>by simp only [z05]; rw [hA.get x (by simp [IOp.opds]),e1,hA.get y (by simp [IOp.opds]),e2]; exact hk⟩
  ·rename_i e1 e2
   exact ⟨_,_,h,fun σ' K' hA hk=>by simp only [z05]; rw [hA.get x (by simp [IOp.opds]),e1,hA.get y (by simp [IOp.opds]),e2]; exact hk⟩
  ·exact h.elim
 | conv k x =>
  simp only [z05] at h
  split at h
  ·rename_i e
   exact ⟨_,_,h,fun σ' K' hA hk=>by simp only [z05]; rw [hA.get x (by simp [IOp.opds]),e]; exact hk⟩
  ·exact h.elim
 | mkfn f first caps =>
  simp only [z05] at h
  split at h
  ·rename_i vf f1 vc f2 e1 e2
   refine ⟨_,_,h,fun σ' K' hA hk=>?_⟩
   simp only [z05]
   rw [za1 hA (l:=first) (fun x hx=>by simp [IOp.opds,hx]),za1 hA (l:=caps) (fun x hx=>by simp [IOp.opds,hx]),z2l (hA.obj rfl) e1,z2l (hA.obj rfl) e2]
   exact hk
  ·exact h.elim
 | bld zero ps =>
  simp only [z05] at h
  split at h
  ·rename_i vs fz e1
   split at h
   ·rename_i cs e2
    refine ⟨_,_,h,fun σ' K' hA hk=>?_⟩
    simp only [z05]
    have hm:ps.map (fun p=>σ'.get p.x) = ps.map fun p=>σ.get p.x:=List.map_congr_left fun p hp=>hA.get p.x (by simp only [IOp.opds]; exact List.mem_map.2 ⟨p,hp,rfl⟩)
    rw [hm,z2l (hA.obj rfl) e1]
    simp only [e2]
    exact hk
   ·exact h.elim
  ·exact h.elim
 | loadp z agg p =>
  simp only [z05] at h
  split at h
  ·rename_i cs e
   obtain ⟨v,h1,h2⟩:=z3y h
   exact ⟨v,[],h1,fun σ' K' hA hk=>by simp only [z05]; rw [hA.get p (by simp [IOp.opds]),e]; exact h2 (fun v=>K' v []) hk⟩
  ·rename_i r i f e
   obtain ⟨hh,h⟩:=h
   split at h
   ·rename_i arr ha
    split at h
    ·rename_i d hd
     have h1000:1000≤vt r (i * arr.z + f):=by unfold vt; omega
     split at h
     ·rename_i hg
      obtain ⟨g1,h⟩:=h
      obtain ⟨cs,fz,h1,h2⟩:=z6l h1000 h
      exact ⟨_,fz,h1,fun σ' K' hA hk=>by simp only [z05]; rw [hA.get p (by simp [IOp.opds]),e]; simp only [hA.obj rfl r arr hh ha,hd]; rw [if_pos hg]; exact ⟨hh,g1,h2 σ' (fun cs fz=>K' (.agg cs) fz) (hA.gh rfl) (hA.obj rfl) hk⟩⟩
     ·rename_i hg
      split at h
      ·rename_i c cs ec
       obtain ⟨v,h1,h2⟩:=privV_det h
       exact ⟨v,[],h1,fun σ' K' hA hk=>by simp only [z05]; rw [hA.get p (by simp [IOp.opds]),e]; simp only [hA.obj rfl r arr hh ha,hd]; rw [if_neg hg,ec]; exact ⟨hh,h2 σ' (fun v=>K' v []) (hA.gh rfl _ h1000) hk⟩⟩
      ·exact h.elim
    ·exact h.elim
   ·exact h.elim
  ·exact h.elim
 | _=>exact h.elim
theorem z8o {dst:Nat} {fz:List Nat} {r:AV} {K:AV->Option Arr->List Nat->Prop} (h:z1e dst fz K r):∃ v s f,K v s f∧∀ K',K' v s f->z1e dst fz K' r:=by
 have two:∀ r:AV,(∀ K:AV->Option Arr->List Nat->Prop,z1e dst fz K r = if r.flatB then K r none [] else K r none fz)->z1e dst fz K r ->
   ∃ v s f,K v s f∧∀ K',K' v s f->z1e dst fz K' r:=by
  intro r e h
  rw [e] at h
  by_cases hb:r.flatB = true
  ·rw [if_pos hb] at h
   exact ⟨_,_,_,h,fun K' hk=>by rw [e,if_pos hb]; exact hk⟩
  ·rw [if_neg hb] at h
   exact ⟨_,_,_,h,fun K' hk=>by rw [e,if_neg hb]; exact hk⟩
 cases r with
 | own z ty l=>exact ⟨_,_,_,h,fun K' hk=>hk⟩
 | _=>exact two _ (fun _=>rfl) h
theorem zam {C:FuncId->List AV->AV->Prop} {dst:Nat} {hid:List Nat} {σ:St} {K:AV->Option Arr->List Nat->Prop}:∀ {io:IOp},z0x C dst hid σ K io ->
  ∃ v s fz,K v s fz∧(io.pure = true->s = none)∧∀ σ' K',Alike io hid σ σ'->K' v s fz->z0x C dst hid σ' K' io:=by
 intro io h
 have pureCase:io.pure = true->∃ v s fz,K v s fz∧(io.pure = true->s = none)∧∀ σ' K',Alike io hid σ σ'->K' v s fz->z0x C dst hid σ' K' io:=by
  intro hp
  obtain ⟨v,fz,h1,h2⟩:=evalV_det (zco hp h)
  refine ⟨v,none,fz,h1,fun _=>rfl,fun σ' K' hA hk=>?_⟩
  have:=h2 σ' (fun v fz=>K' v none fz) hA hk
  cases io <;> first | exact this | cases hp
 cases io with
 | alloc z ty zero=>
  obtain ⟨a1,a2,a3,h⟩:=h
  exact ⟨_,_,_,h,(fun e=>by cases e),fun σ' K' hA hk=>⟨a1,a2,a3,hk⟩⟩
 | box z ty x =>
  simp only [z0x] at h
  split at h
  ·rename_i d fz e1
   obtain ⟨a1,a2,a3,h⟩:=h
   refine ⟨_,_,_,h,(fun e=>by cases e),fun σ' K' hA hk=>?_⟩
   simp only [z0x]
   rw [hA.get x (by simp [IOp.opds]),zav (hA.obj rfl) e1]
   exact ⟨a1,a2,a3,hk⟩
  ·exact h.elim
 | mknil z ty=>exact ⟨_,_,_,h.2,(fun e=>by cases e),fun σ' K' hA hk=>⟨h.1,hk⟩⟩
 | bsl z ty xs =>
  simp only [z0x] at h
  split at h
  ·rename_i ds fz e1
   obtain ⟨a1,a2,h⟩:=h
   refine ⟨_,_,_,h,(fun e=>by cases e),fun σ' K' hA hk=>?_⟩
   simp only [z0x]
   rw [za1 hA (fun x hx=>by simpa [IOp.opds] using hx),z2l (hA.obj rfl) e1]
   exact ⟨a1,a2,hk⟩
  ·exact h.elim
 | callv f xs =>
  simp only [z0x] at h
  split at h
  ·rename_i g first caps e1
   split at h
   ·rename_i ds fz e2
    obtain ⟨r,hC,h⟩:=h
    obtain ⟨v,s,f',h1,h2⟩:=z8o h
    refine ⟨v,s,f',h1,(fun e=>by cases e),fun σ' K' hA hk=>?_⟩
    simp only [z0x]
    rw [hA.get f (by simp [IOp.opds]),e1,za1 hA (l:=xs) (fun x hx=>by simp [IOp.opds,hx]),z2l (hA.obj rfl) e2]
    exact ⟨r,hC,h2 K' hk⟩
   ·exact h.elim
  ·exact h.elim
 | call p xs =>
  simp only [z0x] at h
  split at h
  ·rename_i ds fz e2
   obtain ⟨hC,h⟩:=h
   obtain ⟨v,s,f',h1,h2⟩:=z8o h
   refine ⟨v,s,f',h1,(fun e=>by cases e),fun σ' K' hA hk=>?_⟩
   simp only [z0x]
   rw [za1 hA (l:=xs) (fun x hx=>by simp [IOp.opds,hx]),z2l (hA.obj rfl) e2]
   exact ⟨hC,h2 K' hk⟩
  ·exact h.elim
 | _=>exact pureCase rfl
end Go.Proofs.YtlhblpbfhfhlpaaGreatDoor
end
section
namespace Go.Proofs.YtlhblpbfhfhlpaaGreatDoor
open Go.RowKit
structure ROp where
 io:IOp
 dst:Option Nat
 guard:Option (Nat × Bool)
 hid:List Nat
 wr:List Nat
def IOp.isMut:IOp->Bool
 | .store .. | .append .. | .nileq .. | .storep .. | .copy ..=>true
 | _=>false
def z12 (hid:List Nat) (v:AV):Bool:=match v.name with
 | some r=>!hid.contains r
 | none=>true
def z1g (σ:St) (g:Option (Nat × Bool)) (yes no:St->Prop):Prop :=
 match g with
 | none=>yes σ
 | some (t,want)=>match σ.T t with
  | .bool b=>(b = want->yes (σ.set t (.bool want)))∧(b = (!want)->no (σ.set t (.bool (!want))))
  | .tup []=>no σ
  | _=>False
def z6f (C:FuncId->List AV->AV->Prop) (o:ROp) (σ:St) (K:St->Prop):Prop :=
 if o.io.isMut then z14 σ o.dst K o.io else match o.dst with
  | some dst=>z0x C dst o.hid σ (fun v s fz=>z12 o.hid v = true∧K ((σ.fzs fz).made dst v s)) o.io
  | none=>False
def skipV (o:ROp) (σ:St):St:=match o.dst with
 | some dst=>σ.set dst (.tup [])
 | none=>σ
def z0f (C:FuncId->List AV->AV->Prop):List ROp->St->(St->Prop)->Prop
 | [],σ,K=>K σ
 | o :: l,σ,K=>z1g σ o.guard (fun σ=>z6f C o σ fun σ'=>z0f C l σ' K) (fun σ=>z0f C l (skipV o σ) K)
def St.kills (σ:St):List Nat->St
 | []=>σ
 | r :: l=>(σ.kill r).kills l
def pvTyS (P:Program) (t:TypeId):Bool:=match P.underlying t with
 | some (.slice _)=>true
 | _=>false
def compT (pv:Bool) (P:Program) (o:Oper):Option IOp :=
 match o.op with
 | .store t p x=>match tyOf P t,z02 p,z02 x with
  | some (z,_),some p,some x=>if o.dst.isNone then some (if pv && pvTyS P t then .storep z p x else .store z p x) else none
  | _,_,_=>none
 | .call c=>match c.callee,c.args.toList,c.argTypes.toList with
  | .builtin .append,[x,y],[t,t']=>match P.underlying t,z02 x,z02 y with
   | some (.slice e),some x,some y=>match P.info? e with
    | some i=>match i.zero with
     | some zv=>if t == t' && zv.cells.size == i.size then some (.append i.size e i.bytes x y) else none
     | none=>none
    | none=>none
   | _,_,_=>none
  | .builtin .clear,[x],[t]=>match P.underlying t,z02 x with
   | some (.slice e),some x=>match P.info? e with
    | some i=>match i.zero with
     | some zv=>match z1h zv with
      | some d=>if o.dst.isNone then some (.copy i.size x (.c d)) else none
      | none=>none
     | none=>none
    | none=>none
   | _,_=>none
  | _,_,_=>none
 | .binOp op t x (.const (.slice none _ _)) _=>match op,P.underlying t with
  | .eql,some (.slice _)=>if o.dst.isSome then (z02 x).map (.nileq false) else none
  | .neq,some (.slice _)=>if o.dst.isSome then (z02 x).map (.nileq true) else none
  | _,_=>none
 | _=>none
def zar (pv:Bool) (P:Program) (o:Oper):Option IOp:=match compT pv P o with
 | some io=>some io
 | none=>zit pv P o
structure IsOp (pv:Bool) (P:Program) (ops:Array Oper) (n:Nat) (o:Oper) (r:ROp):Prop where
 io:zar pv P o = some r.io
 dst:r.dst = o.dst
 lt:∀ d,o.dst = some d->d < n
 guard:match o.guard with
  | none=>r.guard = none
  | some (j,want)=>∃ t,(ops[j]?).bind (·.dst) = some t∧t < n∧r.guard = some (t,want)
section
variable {pv:Bool} {P:Program} {w0:Start} {Pr0:Nat->Nat->Prop} {n:Nat} {μ:Nat->Option Nat} {σ:St} {a:Act} {w:World} {Pr:Nat->Nat->Prop} {H:Nat->Option Arr}
theorem z6w {o:Oper} {io:IOp} (h:compT pv P o = some io):io.isMut = true:=by
 unfold compT at h
 repeat' split at h
 all_goals first
  | (cases h; done)
  | (cases h; rfl)
  | (cases h; split <;> rfl)
  | (rw [Option.map_eq_some_iff] at h; obtain ⟨_,_,rfl⟩:=h; rfl)
theorem z7y {o:Oper} {io:IOp} (h:zit pv P o = some io):io.isMut = false:=by
 unfold zit at h
 have hv:∀ io,zba pv P o.op = some io->io.isMut = false:=by
  intro io h
  unfold zba at h
  repeat' split at h
  all_goals first
   | (cases h; done)
   | (cases h; rfl)
   | (cases h; split <;> rfl)
   | (rw [Option.map_eq_some_iff] at h; obtain ⟨_,_,rfl⟩:=h; rfl)
 repeat' split at h
 all_goals first
  | exact hv _ h
  | (cases h; done)
  | (cases h; rfl)
  | (cases h; split <;> rfl)
  | (rw [Option.map_eq_some_iff] at h; obtain ⟨_,_,rfl⟩:=h; rfl)
theorem zaq {o : Oper} {io : IOp} (hc : compT pv P o = some io) (hlt : ∀ d, o.dst = some d → d < n) (h : SR w0 Pr0 n μ σ a w) {K : St → Prop} (hE : z14 σ o.dst K io) {Q : Exit → Act → World → Prop} :
    o.wp P a w (fun a' w' => ∃ μ' σ', K σ' ∧ SR w0 Pr0 n μ' σ' a' w') Q := by
  unfold compT at hc
  split at hc
  · rename_i t p x ho
    split at hc
    · rename_i z agg ip ix h1 h2 h3
      split at hc
      · rename_i hd
        cases hc
        have hd' : o.dst = none := Option.isNone_iff_eq_none.1 hd
        rw [hd'] at hE
        split at hE
        · exact zg9 ho h1 h2 h3 hd' h hE
        · exact zkd ho h1 h2 h3 hd' h hE
      · cases hc
    · cases hc
  · rename_i c ho
    split at hc
    · rename_i x y t t' h1 h2 h3
      split at hc
      · rename_i e ix iy h4 h5 h6
        split at hc
        · rename_i i hi
          split at hc
          · rename_i zv hz
            split at hc
            · rename_i hq
              cases hc
              simp only [Bool.and_eq_true, beq_iff_eq] at hq
              obtain ⟨rfl, hq⟩ := hq
              have hts : c.argTypes = #[t, t] := by apply Array.ext'; exact h3
              cases hd : o.dst with
              | none => rw [hd] at hE; simp only [z14] at hE
                        split at hE
                        · rename_i hdd; cases hdd
                        · exact hE.elim
              | some dst => rw [hd] at hE; exact ziz ho h1 h2 hts h4 hi hz hq h5 h6 hd (hlt _ hd) h hE
            · cases hc
          · cases hc
        · cases hc
      · cases hc
    · rename_i x t h1 h2 h3
      split at hc
      · rename_i e ix h4 h5
        split at hc
        · rename_i i hi
          split at hc
          · rename_i zv hz
            split at hc
            · rename_i d hd0
              split at hc
              · rename_i hd
                cases hc
                have hd' : o.dst = none := Option.isNone_iff_eq_none.1 hd
                rw [hd'] at hE
                exact zmf ho h1 h2 (by apply Array.ext'; exact h3) h4 hi hz hd0 h5 hd' h hE
              · cases hc
            · cases hc
          · cases hc
        · cases hc
      · cases hc
    · cases hc
  · rename_i op t x n' c' yt ho
    split at hc
    · rename_i e ht
      split at hc
      · rename_i hd
        rw [Option.map_eq_some_iff] at hc
        obtain ⟨ix, hx, rfl⟩ := hc
        obtain ⟨d, hd⟩ := Option.isSome_iff_exists.1 hd
        rw [hd] at hE
        exact z9s (neq := false) (y := x) ho rfl ht hx hd (hlt _ hd) h hE
      · cases hc
    · rename_i e ht
      split at hc
      · rename_i hd
        rw [Option.map_eq_some_iff] at hc
        obtain ⟨ix, hx, rfl⟩ := hc
        obtain ⟨d, hd⟩ := Option.isSome_iff_exists.1 hd
        rw [hd] at hE
        exact z9s (neq := true) (y := x) ho rfl ht hx hd (hlt _ hd) h hE
      · cases hc
    · cases hc
  · cases hc
def z0w (l:List ROp) (σ:St):Prop:=∀ r,r ∈ l->r.io.pure = false->∀ d,r.dst = some d->σ.H d = none∧∀ t,(σ.T t).name ≠ some d
def z2n:List ROp->Prop
 | []=>True
 | o :: l=>(∀ r,r ∈ l->r.io.pure = false->∀ d,r.dst = some d->o.hid.contains d = true∧o.dst ≠ some d)∧z2n l
theorem z0w.set {l:List ROp} (h:z0w l σ) {t:Nat} {v:AV} (hv:v.name = none):z0w l (σ.set t v):=by
 intro r hr hp d hd
 obtain ⟨h1,h2⟩:=h r hr hp d hd
 refine ⟨h1,fun s=>?_⟩
 show (upd σ.T t v s).name ≠ some d
 by_cases e:s = t
 ·subst e; rw [z03,hv]; exact fun e=>by cases e
 ·rw [z04 _ _ e]; exact h2 s
theorem SR.same (h:SR w0 Pr0 n μ σ a w) {t:Nat} {v:AV} (hv:σ.T t = v):SR w0 Pr0 n μ (σ.set t v) a w:=by
 have e:σ.set t v = σ:=by
  show (⟨upd σ.T t v,σ.H⟩:St) = σ
  rw [z3l _ _ _ hv]
 rw [e]; exact h
theorem z2p {ops:Array Oper} {o:Oper} {gd:Option (Nat × Bool)} (hig:match o.guard with
  | none=>gd = none
  | some (j,want)=>∃ t,(ops[j]?).bind (·.dst) = some t∧t < n∧gd = some (t,want)) (h:SR w0 Pr0 n μ σ a w) {yes no:St->Prop} (hg:z1g σ gd yes no) :
  (Region.wanted o (yielded ops a.tmps) = true∧∃ σ',yes σ'∧SR w0 Pr0 n μ σ' a w∧(σ' = σ∨∃ t b,σ' = σ.set t (.bool b)))∨(Region.wanted o (yielded ops a.tmps) = false∧∃ σ',no σ'∧SR w0 Pr0 n μ σ' a w∧(σ' = σ∨∃ t b,σ' = σ.set t (.bool b))):=by
 unfold z1g at hg
 cases hgo:o.guard with
 | none =>
  rw [hgo] at hig
  rw [hig] at hg
  exact .inl ⟨by simp [Region.wanted,hgo],σ,hg,h,.inl rfl⟩
 | some g =>
  obtain ⟨j,want⟩:=g
  rw [hgo] at hig
  obtain ⟨t,h1,h2,h3⟩:=hig
  rw [h3] at hg
  simp only at hg
  have ht:=h.tmp t
  have hlt:t < a.tmps.size:=by rw [h.size]; exact h2
  have hget:a.tmps[t]? = some (a.tmps.getD t undef):=by rw [Array.getD_eq_getD_getElem?,Array.getElem?_eq_getElem hlt]; rfl
  have hw:Region.wanted o (yielded ops a.tmps) = (yielded ops a.tmps j == some want):=by simp [Region.wanted,hgo]
  split at hg
  ·rename_i b e
   rw [e] at ht
   have hv:=ht.bool
   have hy:yielded ops a.tmps j = some b:=by unfold yielded; rw [h1]; simp only [Option.bind_some]; rw [hget,hv]
   by_cases hb:b = want
   ·subst hb
    exact .inl ⟨by rw [hw,hy]; simp,_,hg.1 rfl,h.same e,.inr ⟨t,_,rfl⟩⟩
   ·have hb':b = (!want):=by cases b <;> cases want <;> simp_all
    refine .inr ⟨by rw [hw,hy]; simpa using hb,_,hg.2 hb',h.same (by rw [e,hb']),.inr ⟨t,_,rfl⟩⟩
  ·rename_i e
   rw [e] at ht
   have ht':VR (PrOf w0 Pr0 μ σ.H) w (.tup []) (a.tmps.getD t undef):=ht
   have hv:a.tmps.getD t undef = .tuple #[]:=by
    generalize a.tmps.getD t undef = v at ht'
    cases ht' with
    | tup _ vs hl _ =>
     have:vs = []:=List.length_eq_zero_iff.1 hl.symm
     subst this; rfl
   have hy:yielded ops a.tmps j = none:=by unfold yielded; rw [h1]; simp only [Option.bind_some]; rw [hget,hv]
   exact .inr ⟨by rw [hw,hy]; rfl,σ,hg,h,.inl rfl⟩
  ·exact hg.elim
theorem z43 {ops:Array Oper} {o:Oper} {r:ROp} (hi:IsOp pv P ops n o r) (h:SR w0 Pr0 n μ σ a w) {yes no:St->Prop} (hg:z1g σ r.guard yes no) :
  (Region.wanted o (yielded ops a.tmps) = true∧∃ σ',yes σ'∧SR w0 Pr0 n μ σ' a w∧(σ' = σ∨∃ t b,σ' = σ.set t (.bool b)))∨(Region.wanted o (yielded ops a.tmps) = false∧∃ σ',no σ'∧SR w0 Pr0 n μ σ' a w∧(σ' = σ∨∃ t b,σ' = σ.set t (.bool b))) :=
 z2p hi.guard h hg
theorem z0w.fzs {l:List ROp} (h:z0w l σ) (f:List Nat):z0w l (σ.fzs f):=fun r hr hp d hd=>by
 obtain ⟨h1,h2⟩:=h r hr hp d hd
 exact ⟨z0l h1,by rw [z4i]; exact h2⟩
theorem z3t {ops:Array Oper} {o:Oper} {r:ROp} (hi:IsOp pv P ops n o r) (h:SR w0 Pr0 n μ σ a w):SR w0 Pr0 n μ (skipV r σ) (a.put o.dst undef) w:=by
 unfold skipV
 rw [hi.dst]
 cases hd:o.dst with
 | none=>exact h
 | some d=>exact h.put (hi.lt d hd) (TR.of_VR (.tup [] [] rfl (fun j c v h=>by simp at h)))
theorem z55 {ops:Array Oper} {o:Oper} {r:ROp} (hi:IsOp pv P ops n o r) (h:SR w0 Pr0 n μ σ a w) (hF:z0w [r] σ) {K:St->Prop} (hE:z6f (AFn P) r σ K) {Q:Exit->Act->World->Prop} :
  o.wp P a w (fun a' w'=>∃ μ' σ',K σ'∧SR w0 Pr0 n μ' σ' a' w') Q:=by
 have hio:=hi.io
 unfold zar at hio
 unfold z6f at hE
 split at hio
 ·rename_i io hT
  cases hio
  rw [if_pos (z6w hT),hi.dst] at hE
  exact zaq hT hi.lt h hE
 ·rw [if_neg (by rw [z7y hio]; simp),hi.dst] at hE
  cases hd:o.dst with
  | none=>rw [hd] at hE; exact hE.elim
  | some dst =>
   rw [hd] at hE
   refine Oper.wp_mono ?_ (z48 hio hd (hi.lt dst hd) h (fun hp=>hF r (by simp) hp dst (by rw [hi.dst,hd])) hE)
   rintro a' w' ⟨μ',v,s,fz,⟨_,hK⟩,hS⟩
   exact ⟨μ',_,hK,hS⟩
theorem zlx {l:List ROp} (hF:z0w l σ) {dst:Option Nat} {K:St->Prop} {io:IOp} (hE:z14 σ dst K io):z14 σ dst (fun σ'=>K σ'∧z0w l σ') io:=by
 have hne:∀ {fz:List Nat} {r:Nat} {arr:Arr},(σ.fzs fz).H r = some arr->∀ q,q ∈ l->q.io.pure = false->∀ d,q.dst = some d->d ≠ r:=by
  intro fz r arr ha q hq hp d hd e
  subst e
  rw [z0l (hF q hq hp d hd).1] at ha; cases ha
 cases io with
 | store z p x =>
  simp only [z14] at hE ⊢
  split at hE
  ·rename_i r i f e1
   split at hE
   ·rename_i d fz e2
    split at hE
    ·rename_i arr e3
     split at hE
     ·rename_i old e4
      obtain ⟨a1,a2,a3,a4,hK⟩:=hE
      refine ⟨a1,a2,a3,a4,hK,fun q hq hp d' hd'=>⟨?_,(hF q hq hp d' hd').2⟩⟩
      show upd (σ.fzs fz).H r _ d' = none
      rw [z04 _ _ (hne e3 q hq hp d' hd')]
      exact z0l (hF q hq hp d' hd').1
     ·exact hE.elim
    ·exact hE.elim
   ·exact hE.elim
  ·exact hE.elim
 | append z ty bytes x y =>
  simp only [z14] at hE ⊢
  split at hE
  ·rename_i r off len ll fz dst' e1 e2
   split at hE
   ·rename_i arr e3
    obtain ⟨a0,a1,a2,a3,a4,a5,hK,hK2⟩:=hE
    have info:∀ (off' n':Nat) (arr':Arr) (q:ROp),q ∈ l->q.io.pure = false->∀ d',q.dst = some d'->upd (σ.fzs fz).H r (some arr') d' = none∧∀ t,(upd (z6e σ.T r) dst' (.rs r off' n') t).name ≠ some d':=by
     intro off' n' arr' q hq hp d' hd'
     refine ⟨?_,fun t=>?_⟩
     ·rw [z04 _ _ (hne e3 q hq hp d' hd')]
      exact z0l (hF q hq hp d' hd').1
     ·by_cases e:t = dst'
      ·subst e; rw [z03]
       intro e; injection e with e; exact hne e3 q hq hp d' hd' e.symm
      ·rw [z04 _ _ e]
       unfold z6e
       split
       ·intro e; cases e
       ·exact (hF q hq hp d' hd').2 t
    exact ⟨a0,a1,a2,a3,a4,a5,⟨hK,fun q hq hp d' hd'=>info _ _ _ q hq hp d' hd'⟩,fun h0=>⟨hK2 h0,fun q hq hp d' hd'=>info _ _ _ q hq hp d' hd'⟩⟩
   ·exact hE.elim
  ·exact hE.elim
 | nileq neq x =>
  simp only [z14] at hE ⊢
  split at hE
  ·exact ⟨fun e=>⟨hE.1 e,hF.set rfl⟩,hE.2,hF.set rfl⟩
  ·exact ⟨hE.1,fun e=>⟨hE.2.1 e,hF.set rfl⟩,hE.2.2,hF.set rfl⟩
  ·exact hE.elim
 | copy z x y =>
  have hne0:∀ {r:Nat} {arr:Arr},σ.H r = some arr->∀ q,q ∈ l->q.io.pure = false->∀ d,q.dst = some d->d ≠ r:=by
   intro r arr ha q hq hp d hd e
   subst e
   rw [(hF q hq hp d hd).1] at ha; cases ha
  simp only [z14] at hE ⊢
  split at hE
  ·split at hE
   ·rename_i arr e3
    obtain ⟨a1,a2,a3,a4,a5,hK⟩:=hE
    refine ⟨a1,a2,a3,a4,a5,hK,fun q hq hp d' hd'=>⟨?_,(hF q hq hp d' hd').2⟩⟩
    show upd σ.H _ _ d' = none
    rw [z04 _ _ (hne0 e3 q hq hp d' hd')]
    exact (hF q hq hp d' hd').1
   ·exact hE.elim
  ·exact hE.elim
 | storep z p x =>
  have hne0:∀ {r:Nat} {arr:Arr},σ.H r = some arr->∀ q,q ∈ l->q.io.pure = false->∀ d,q.dst = some d->d ≠ r:=by
   intro r arr ha q hq hp d hd e
   subst e
   rw [(hF q hq hp d hd).1] at ha; cases ha
  simp only [z14] at hE ⊢
  split at hE
  ·rename_i r i f q0 off len e1 e2
   split at hE
   ·rename_i arr e3
    split at hE
    ·rename_i old e4
     obtain ⟨a1,a2,a3,a4,hK⟩:=hE
     obtain ⟨aq,haq⟩:=Option.isSome_iff_exists.1 a4
     refine ⟨a1,a2,a3,a4,fun u hu=>⟨hK u hu,fun q hq hp d' hd'=>⟨?_,fun t=>?_⟩⟩⟩
     ·show upd σ.H r _ d' = none
      rw [z04 _ _ (hne0 e3 q hq hp d' hd')]
      exact (hF q hq hp d' hd').1
     ·show (upd σ.T _ (.vrs q0 off len u) t).name ≠ some d'
      by_cases e:t = vt r (i * arr.z + f)
      ·rw [e,z03]
       intro e; injection e with e; exact hne0 haq q hq hp d' hd' e.symm
      ·rw [z04 _ _ e]; exact (hF q hq hp d' hd').2 t
    ·exact hE.elim
   ·exact hE.elim
  ·rename_i r i f l0 e1 e2
   split at hE
   ·rename_i arr e3
    split at hE
    ·rename_i old e4
     obtain ⟨a1,a2,a3,hK⟩:=hE
     refine ⟨a1,a2,a3,hK,fun q hq hp d' hd'=>⟨?_,(hF q hq hp d' hd').2⟩⟩
     show upd σ.H r _ d' = none
     rw [z04 _ _ (hne0 e3 q hq hp d' hd')]
     exact (hF q hq hp d' hd').1
    ·exact hE.elim
   ·exact hE.elim
  ·exact hE.elim
 | _=>exact hE.elim
theorem zbf {r:ROp} {l:List ROp} (hh:∀ x,x ∈ l->x.io.pure = false->∀ d,x.dst = some d->r.hid.contains d = true∧r.dst ≠ some d) (hF:z0w l σ) {C:FuncId->List AV->AV->Prop} {K:St->Prop} (hE:z6f C r σ K) :
  z6f C r σ fun σ'=>K σ'∧z0w l σ':=by
 unfold z6f at hE ⊢
 split at hE
 ·rename_i hm
  rw [if_pos hm]
  exact zlx hF hE
 ·rename_i hm
  rw [if_neg hm]
  cases hd:r.dst with
  | none=>rw [hd] at hE; exact hE.elim
  | some dst =>
   rw [hd] at hE
   simp only at hE ⊢
   obtain ⟨v,s,fz,⟨h1,h2⟩,h3,h4⟩:=zam hE
   refine h4 σ _ (Alike.refl _ _ _) ⟨h1,h2,fun q hq hp d hqd=>?_⟩
   obtain ⟨g1,g2⟩:=hF q hq hp d hqd
   obtain ⟨k1,k2⟩:=hh q hq hp d hqd
   have hne:d ≠ dst:=fun e=>k2 (by rw [hd,e])
   refine ⟨?_,fun t=>?_⟩
   ·unfold St.made
    cases s with
    | none=>exact z0l g1
    | some arr=>show upd (σ.fzs fz).H dst _ d = none; rw [z04 _ _ hne]; exact z0l g1
   ·show (upd (σ.fzs fz).T dst v t).name ≠ some d
    by_cases e:t = dst
    ·subst e
     rw [z03]
     intro e
     unfold z12 at h1
     rw [e] at h1
     simp only [Bool.not_eq_true'] at h1
     rw [k1] at h1; cases h1
    ·rw [z04 _ _ e,z4i]; exact g2 t
theorem zbi {r:ROp} {l:List ROp} (hF:z0w l σ):z0w l (skipV r σ):=by
 unfold skipV
 cases r.dst with
 | none=>exact hF
 | some d=>exact hF.set rfl
theorem z0w.guard {l:List ROp} (hF:z0w l σ) {σ':St} (h:σ' = σ∨∃ t b,σ' = σ.set t (.bool b)):z0w l σ':=by
 rcases h with rfl | ⟨t,b,rfl⟩
 ·exact hF
 ·exact hF.set rfl
theorem z9p {ops:Array Oper} {Q:Exit->Act->World->Prop} {K:St->Prop} (hQ:∀ μ σ' a w,K σ'->SR w0 Pr0 n μ σ' a w->Q .normal a w):∀ (rs:List ROp) (k:Nat) {μ:Nat->Option Nat} {σ:St} {a:Act} {w:World},
  (∀ (j:Nat) (r:ROp),rs[j]? = some r->∃ o,ops[k + j]? = some o∧IsOp pv P ops n o r)->z2n rs->SR w0 Pr0 n μ σ a w->z0w rs σ->z0f (AFn P) rs σ K->wpOps P ops Q (List.range' k rs.length) a w
 | [],k,μ,σ,a,w,_,_,hS,_,hE=>by
  simp only [List.length_nil,List.range'_zero,wpOps]
  exact hQ μ σ a w hE hS
 | r :: rs,k,μ,σ,a,w,hi,hh,hS,hF,hE=>by
  obtain ⟨o,ho,hio⟩:=hi 0 r rfl
  simp only [Nat.add_zero] at ho
  have hi':∀ (j:Nat) (r:ROp),rs[j]? = some r->∃ o,ops[k + 1 + j]? = some o∧IsOp pv P ops n o r:=fun j q hq=>by
   obtain ⟨o',h1,h2⟩:=hi (j + 1) q hq
   exact ⟨o',by rw [show k + 1 + j = k + (j + 1) by omega]; exact h1,h2⟩
  rw [List.length_cons,List.range'_succ,wpOps_cons]
  unfold wpOp
  rw [ho]
  simp only
  simp only [z0f] at hE
  have hF1:z0w rs σ:=fun q hq=>hF q (by simp [hq])
  rcases z43 hio hS hE with ⟨hw,σ',hy,hS',hσ⟩ | ⟨hw,σ',hy,hS',hσ⟩
  ·rw [if_pos hw]
   left
   have hFr:z0w [r] σ':=z0w.guard (fun q hq=>hF q (by simp at hq; simp [hq])) hσ
   have hFl:z0w rs σ':=z0w.guard hF1 hσ
   refine Oper.wp_mono ?_ (z55 hio hS' hFr (zbf hh.1 hFl hy))
   rintro a' w' ⟨μ',σ2,⟨hK,hF2⟩,hS2⟩
   exact z9p hQ rs (k + 1) hi' hh.2 hS2 hF2 hK
  ·rw [if_neg (by rw [hw]; simp)]
   exact z9p hQ rs (k + 1) hi' hh.2 (z3t hio hS') (zbi (z0w.guard hF1 hσ)) hy
end
end Go.Proofs.YtlhblpbfhfhlpaaGreatDoor
end
