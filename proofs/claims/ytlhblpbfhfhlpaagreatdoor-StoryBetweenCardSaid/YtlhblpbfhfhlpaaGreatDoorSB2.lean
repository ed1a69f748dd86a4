/-
  Part 2 of a proof: HpF, HpG, HpH, HpI.
-/
import Derived.Lib.AppendZeros
import Derived.Lib.AppendStr
import Derived.Lib.MinMax
import Derived.Lib.UnsafeStr
import Derived.Laws.IdiomStrings
import Derived.Laws.BytesString
import Derived.LoopN
import Derived.LoopNIn
import Derived.OrdersIn
import Derived.RangeFuncIn
import Derived.RangeFuncLeaves
import Derived.RangeFuncRecord
import Derived.Defers
import Derived.Test.YtlhblpbfhfhlpaaGreatDoorSB1
set_option linter.unusedVariables false
set_option linter.unusedSimpArgs false
section
namespace Go.Proofs.YtlhblpbfhfhlpaaGreatDoor
open Go.RowKit
namespace Hm
section
variable {P:Program} {E:Mx} {w:World} {T:Nat->V} {a:Act} {o:Oper} {nx:Nat} {G:Nat->Option Ob}
theorem ze9 {kd:TypeDesc} {kv:Value} (h:za8 kd kv = true):Go.MapKept.IsKey kd kv:=by
 cases kd <;> cases kv <;> simp [za8] at h <;> simp [Go.MapKept.IsKey,h]
theorem z4q {t:TypeId} {kd:TypeDesc} (h:z4r P t = some kd):P.underlying t = some kd:=by
 unfold z4r at h
 split at h <;> cases h <;> assumption
theorem sameNow_eq {kd:TypeDesc} {k k':Value} (h:Instr.sameNow kd k k' = some true):k = k':=by
 unfold Instr.sameNow at h
 split at h
 ·split at h
  ·rename_i e; subst e; simp at h; rw [h]
  ·cases h
 ·simp at h
  rename_i x y
  rw [(Go.MapKept.bytes_beq x y).1 h]
 ·simp at h; rw [h]
 ·cases h
theorem sameNow_ne {kd : TypeDesc} {k k' : Value} (h : Instr.sameNow kd k k' = some false) : k ≠ k' := by
  intro e
  subst e
  cases kd <;> cases k <;> first
    | (simp [Instr.sameNow] at h; done)
    | (rename_i s
       have h' : some (s == s) = some false := h
       rw [(Go.MapKept.bytes_beq s s).2 rfl] at h'
       cases h')
theorem z8e {kd:TypeDesc} {k:Value}:∀ (es:List (Value × V)) (ms:List MapEntry) (i:Nat),es.length = ms.length->(∀ (j:Nat) (e:Value × V) (m:MapEntry),es[j]? = some e->ms[j]? = some m->m.key = e.1∧Vr E w e.2 m.val) ->
  (z84 kd k es i = some none->Instr.findNow kd k ms i = some none∧∀ m,m ∈ ms->m.key ≠ k) ∧
  (∀ j v,z84 kd k es i = some (some (j,v))->∃ m,i≤j∧ms[j - i]? = some m∧m.key = k∧Vr E w v m.val∧Instr.findNow kd k ms i = some (some (j,m.val)))
 | [],[],i,_,_=>⟨fun _=>⟨rfl,fun m hm=>by cases hm⟩,fun j v h=>by simp [z84] at h⟩
 | [],_ :: _,i,h,_=>by simp at h
 | _ :: _,[],i,h,_=>by simp at h
 | e :: es,m :: ms,i,hl,h=>by
  obtain ⟨hk,hv⟩:=h 0 e m rfl rfl
  have ih:=z8e (kd:=kd) (k:=k) es ms (i + 1) (by simpa using hl) fun j e' m' he hm=>h (j + 1) e' m' (by simpa using he) (by simpa using hm)
  refine ⟨fun hf=>?_,fun j v hf=>?_⟩
  ·simp only [z84] at hf
   split at hf
   ·cases hf
   ·rename_i hs
    obtain ⟨i1,i2⟩:=ih.1 hf
    refine ⟨by simp only [Instr.findNow,hk,hs]; exact i1,fun m' hm'=>?_⟩
    rcases List.mem_cons.1 hm' with q | q
    ·rw [q,hk]; exact fun q2=>sameNow_ne hs q2.symm
    ·exact i2 m' q
   ·cases hf
  ·simp only [z84] at hf
   split at hf
   ·rename_i hs
    cases hf
    refine ⟨m,Nat.le_refl _,by simp,by rw [hk]; exact (sameNow_eq hs).symm,hv,?_⟩
    simp only [Instr.findNow,hk,hs]
   ·rename_i hs
    obtain ⟨m',g1,g2,g3,g4,g5⟩:=ih.2 j v hf
    refine ⟨m',by omega,?_,g3,g4,by simp only [Instr.findNow,hk,hs]; exact g5⟩
    rw [show j - i = (j - (i + 1)) + 1 by omega,List.getElem?_cons_succ]; exact g2
   ·cases hf
theorem Rel.map (h:Rel E w) {r:Nat} {es:List (Value × V)} (hr:E.H r = some (.map es)):∃ ms clk,w.heap[(E.μ r).1]? = some (.map ms clk)∧ObR E w (E.μ r).2 (.map es) (.map ms clk):=by
 obtain ⟨ob,h1,h2⟩:=h.obj r _ hr
 cases ob <;> try exact h2.elim
 exact ⟨_,_,h1,h2⟩
theorem zl7 {t:TypeId} (hR:Rel E w) (hnx:¬ E.U nx) (ho:o.op = .makeMap t none):Out P E w (execOp a.eval o) (.mp nx) [(nx,some (.map []))] nx (nx + 1):=by
 refine Out.made hR hnx (o:=.map #[] 0) (u:=.map (some w.heap.size)) ?_ ⟨Go.MapKept.stamped_empty 0,rfl,fun i e m h=>by simp at h⟩ (.mp _ _ (.inr rfl) fun _=>by simp [Mx.new,z03])
 simp only [execOp,ho,Option.map_none]
 rfl
theorem zcd {t kt et:TypeId} {x k:Operand} {ok:Bool} {r:Nat} {es:List (Value × V)} {kd:TypeDesc} {kv zv:Value} {f:Option (Nat × V)} (hR:Rel E w) (ho:o.op = .lookup t x k ok) (hx:Vr E w (.mp r) (a.eval x)) (hk:Vr E w (.lit kv) (a.eval k)) (ht:P.underlying t = some (.map kt et)) (hr:E.H r = some (.map es))
  (hkd:z4r P kt = some kd) (hz:(P.info? et).bind (·.zero) = some zv) (hok:za8 kd kv = true) (hf:z84 kd kv es 0 = some f) :
  Out P E w (execOp a.eval o) (match f with
   | some (_,v)=>if ok then .tup [v,.lit (.bool true)] else v
   | none=>if ok then .tup [.lit zv,.lit (.bool false)] else .lit zv) [] nx nx:=by
 have hu:=hx.mp_live hr
 have hkv:=hk.lit_inv
 obtain ⟨ms,clk,hb,hs,hl,hm⟩:=hR.map hr
 have hkt:=z4q hkd
 have hik:=ze9 hok
 rw [Option.bind_eq_some_iff] at hz
 obtain ⟨i,hi,hzv⟩:=hz
 have hfo:=z8e (E:=E) (w:=w) (kd:=kd) (k:=kv) es ms.toList 0 (by simpa using hl) fun j e m he hm'=>hm j e m he (by simpa using hm')
 cases f with
 | none =>
  obtain ⟨f1,_⟩:=hfo.1 hf
  refine Out.pure hR (u:=if ok then .tuple #[zv,.bool false] else zv) ?_ ?_
  ·cases ok <;> simp [execOp,ho,Instr.lookup,run_underlying ht,hu,Go.MapKept.run_getObj_map hb,hkv,Go.MapKept.run_checkKey hkt hik,Go.MapKept.run_findKey hkt f1,zeroValue,typeInfo,hi,hzv]
  ·cases ok
   ·exact .lit _
   ·exact (Vrs.lits [zv,.bool false]).tup
 | some p =>
  obtain ⟨j,v⟩:=p
  obtain ⟨m,_,_,_,hv,f1⟩:=hfo.2 j v hf
  refine Out.pure hR (u:=if ok then .tuple #[m.val,.bool true] else m.val) ?_ ?_
  ·cases ok <;> simp [execOp,ho,Instr.lookup,run_underlying ht,hu,Go.MapKept.run_getObj_map hb,hkv,Go.MapKept.run_checkKey hkt hik,Go.MapKept.run_findKey hkt f1]
  ·cases ok
   ·exact hv
   ·exact (Vrs.cons hv (.cons (.lit (.bool true)) .nil)).tup
theorem z6n {t kt et:TypeId} {x k y:Operand} {r:Nat} {es:List (Value × V)} {kd:TypeDesc} {kv:Value} {f:Option (Nat × V)} (hR:Rel E w) (ho:o.op = .mapUpdate t x k y∨o.op = .insert t x k y) (hx:Vr E w (.mp r) (a.eval x)) (hk:Vr E w (.lit kv) (a.eval k)) (hy:Vr E w (opV T y) (a.eval y)) (ht:P.underlying t = some (.map kt et)) (hr:E.H r = some (.map es))
  (hkd:z4r P kt = some kd) (hok:za8 kd kv = true) (hf:z84 kd kv es 0 = some f) :
  Out P E w (execOp a.eval o) (.lit undef) [(r,some (.map (match f with
   | some (i,_)=>es.set i (kv,opV T y)
   | none=>es ++ [(kv,opV T y)])))] nx nx:=by
 have hu:=hx.mp_live hr
 have hkv:=hk.lit_inv
 obtain ⟨ms,clk,hb,hs,hl,hm⟩:=hR.map hr
 have hkt:=z4q hkd
 have hik:=ze9 hok
 have hfo:=z8e (E:=E) (w:=w) (kd:=kd) (k:=kv) es ms.toList 0 (by simpa using hl) fun j e m he hm'=>hm j e m he (by simpa using hm')
 have fin:∀ (es':List (Value × V)) (ms':Array MapEntry) (clk':Nat),(execOp a.eval o).run P w = .ok .skip { w with heap:=w.heap.setIfInBounds (E.μ r).1 (.map ms' clk') }->ObR E w (E.μ r).2 (.map es') (.map ms' clk')->Out P E w (execOp a.eval o) (.lit undef) [(r,some (.map es'))] nx nx:=by
  intro es' ms' clk' hrun hob
  obtain ⟨h1,h2⟩:=hR.write hr hb (w':={ w with heap:=w.heap.setIfInBounds (E.μ r).1 (.map ms' clk') }) ⟨rfl,rfl,rfl,by simp,fun q hq=>(Go.MapKept.heap_set hb).2 q hq⟩ (Go.MapKept.heap_set hb).1 (fun _ _ _ e=>by cases e) hob
  exact ⟨undef,_,_,.inr ⟨hrun,rfl⟩,.lit _,h1,h2,rfl,fun q=>⟨.inl,fun q'=>q'.elim id fun q'=>by omega⟩⟩
 cases f with
 | none =>
  obtain ⟨f1,f2⟩:=hfo.1 hf
  refine fin _ (ms.push ⟨kv,a.eval y,clk⟩) (clk + 1) ?_ ?_
  ·rcases ho with ho | ho <;> simp [execOp,ho,Instr.mapUpdate,run_underlying ht,hu,Go.MapKept.run_getObj_map hb,hkv,Go.MapKept.run_checkKey hkt hik,Go.MapKept.run_findKey hkt f1,Go.MapKept.run_setObj_map _ hb]
  ·refine ⟨Go.MapKept.stamped_push hs f2,by simp [hl],fun i e m he hm'=>?_⟩
   rw [Array.getElem?_push] at hm'
   by_cases hi:i = ms.size
   ·rw [if_pos hi] at hm'
    rw [List.getElem?_append_right (by omega),hi,hl,Nat.sub_self] at he
    cases he; cases hm'
    exact ⟨rfl,hy⟩
   ·rw [if_neg hi] at hm'
    have:=(Array.getElem?_eq_some_iff.1 hm').1
    rw [List.getElem?_append_left (by omega)] at he
    exact hm i e m he hm'
 | some p =>
  obtain ⟨j,v⟩:=p
  obtain ⟨m0,_,g2,g3,_,f1⟩:=hfo.2 j v hf
  rw [Nat.sub_zero,Array.getElem?_toList] at g2
  have hjl:j < es.length:=by
   have:=(Array.getElem?_eq_some_iff.1 g2).1
   omega
  refine fin _ (ms.modify j fun x=>{ x with key:=kv,val:=a.eval y }) clk ?_ ?_
  ·rcases ho with ho | ho <;> simp [execOp,ho,Instr.mapUpdate,run_underlying ht,hu,Go.MapKept.run_getObj_map hb,hkv,Go.MapKept.run_checkKey hkt hik,Go.MapKept.run_findKey hkt f1,g2,g3,Go.MapKept.run_keyThatStays hik,Go.MapKept.run_setObj_map _ hb]
  ·refine ⟨Go.MapKept.stamped_modify hs j _ (fun _ _=>rfl) (fun x _ hx=>by rw [g2] at hx; cases hx; exact g3.symm),by simp [hl],fun i e m he hm'=>?_⟩
   rw [Array.getElem?_modify] at hm'
   by_cases hi:j = i
   ·subst hi
    rw [if_pos rfl,g2] at hm'
    rw [List.getElem?_set_self hjl] at he
    cases hm'; cases he
    exact ⟨rfl,hy⟩
   ·rw [if_neg hi] at hm'
    rw [List.getElem?_set_ne hi] at he
    exact hm i e m he hm'
theorem z54 {l:List Operand} (h:∀ x:Operand,Vr E w (opV T x) (a.eval x)):Vrs E w (l.map (opV T)) (l.map a.eval):=by
 refine ⟨by simp,fun j c u hc hu=>?_⟩
 rw [List.getElem?_map,Option.map_eq_some_iff] at hc hu
 obtain ⟨x,hx,rfl⟩:=hc
 obtain ⟨y,hy,rfl⟩:=hu
 rw [hx] at hy
 cases hy
 exact h x
theorem z2k {f:FuncId} {args:Array Value} (h:z1p P f = true):(callFunc f args).run P w = .ok (.enter f args) w:=by
 unfold z1p at h
 split at h
 ·rename_i fn hf
  rw [Bool.and_eq_true,Bool.and_eq_true,bne_iff_ne] at h
  obtain ⟨_,h1,h2⟩:=h
  unfold callFunc
  simp [program,Sem.run,hf,h1,Option.isNone_iff_eq_none,Option.isSome_iff_ne_none.1 h2]
 ·cases h
theorem zii {f:FuncId} (h:z1p P f = true):f < 1000000000:=by
 unfold z1p at h
 split at h
 ·rw [Bool.and_eq_true] at h
  exact Nat.le_of_ble_eq_true h.1
 ·cases h
theorem callE_run {v:V} {u:Value} {g:FuncId} {asg args:List V} {vs:List Value} (hf:Vr E w v u) (hA:Vrs E w asg vs) (he:zfn P v asg = some (g,args)) :
  z1p P g = true∧∃ d us,(Deferred.ofValue u vs.toArray).run P w = .ok d w∧(invoke d.target d.args).run P w = .ok (.enter g us.toArray) w∧Vrs E w args us:=by
 unfold zfn at he
 split at he
 ·split at he
  ·rename_i g' fi ca hok
   cases he
   have hv:=hf.lit_inv
   refine ⟨hok,{ target:=.fn (.func g) ca,args:=fi ++ vs.toArray },fi.toList ++ vs ++ ca.toList,?_,?_,((Vrs.lits fi.toList).append hA).append (Vrs.lits ca.toList)⟩
   ·simp [hv,Deferred.ofValue]
   ·simp [invoke,z2k hok]
  ·cases he
 ·split at he
  ·rename_i g' fi ca hok
   cases he
   cases hf with
   | fn _ _ _ va vb ha hb h1 h2 =>
    refine ⟨hok,{ target:=.fn (.func g) vb.toArray,args:=va.toArray ++ vs.toArray },va ++ vs ++ vb,?_,?_,((⟨ha,h1⟩:Vrs E w fi va).append hA).append ⟨hb,h2⟩⟩
    ·simp [Deferred.ofValue]
    ·simp [invoke,z2k hok]
  ·cases he
 ·cases he
def zfx (P:Program) (E:Mx) (w:World) (s:Sem Next) (f:FuncId) (args:List V):Prop:=z1p P f = true∧∃ us:List Value,s.run P w = .ok (.enter f us.toArray) w∧Vrs E w args us
theorem callV_out {c:Call} {f:Operand} {g:FuncId} {args:List V} (ho:o.op = .call c) (hc:c.callee = .value f) (h:∀ x:Operand,Vr E w (opV T x) (a.eval x)) (he:zfn P (opV T f) (c.args.toList.map (opV T)) = some (g,args)):zfx P E w (execOp a.eval o) g args:=by
 have hA:=z54 (l:=c.args.toList) h
 have hargs:(c.args.map a.eval) = (c.args.toList.map a.eval).toArray:=by apply Array.ext'; simp
 have hf:=h f
 unfold zfn at he
 split at he
 ·rename_i g' fi ca e1
  split at he
  ·rename_i hok
   cases he
   rw [e1] at hf
   have hv:=hf.lit_inv
   refine ⟨hok,fi.toList ++ c.args.toList.map a.eval ++ ca.toList,?_,((Vrs.lits fi.toList).append hA).append (Vrs.lits ca.toList)⟩
   simp only [execOp,ho,resolve,hc,Sem.run_bind]
   simp [hv,Deferred.ofValue,invoke,z2k hok,hargs]
  ·cases he
 ·rename_i g' fi ca e1
  split at he
  ·rename_i hok
   cases he
   rw [e1] at hf
   generalize hv:a.eval f = u at hf
   cases hf with
   | fn _ _ _ va vb ha hb h1 h2 =>
    refine ⟨hok,va ++ c.args.toList.map a.eval ++ vb,?_,((⟨ha,h1⟩:Vrs E w fi va).append hA).append ⟨hb,h2⟩⟩
    simp only [execOp,ho,resolve,hc,Sem.run_bind]
    simp [hv,Deferred.ofValue,invoke,z2k hok,hargs]
  ·cases he
 ·cases he
def RecvR (P:Program) (w:World) (u x:Value):Option TypeId->Prop
 | none=>x = u
 | some e=>∃ ad,u = .pointer (some ad)∧(loadVar e ad).run P w = .ok x w
theorem methOf_run {t:TypeId} {name:String} {f:FuncId} {d:Option TypeId} (h:methOf P t name = some (f,d)) {u x:Value} (hx:RecvR P w u x d) (n:Nat):(method (n + 1) t u name).run P w = .ok (f,x) w:=by
 unfold methOf at h
 split at h
 ·rename_i i hi
  split at h
  ·rename_i m hm
   split at h
   ·rename_i hp
    have hpl:m.path.toList = []:=by simpa using hp
    split at h
    ·rename_i f' e' hf hu
     cases h
     have hx:x = u:=hx
     subst hx
     simp [method,typeInfo,hi,hm,hpl,follow,hf,receiverAt,run_underlying hu,Place.get]
    ·rename_i f' e' hf hu
     cases h
     obtain ⟨ad,rfl,hl⟩:=hx
     have hn:∀ (ts:Array TypeId) (t':TypeId) (s1 s2:String),Builtin.ssaWrapNilChk_ ts t' #[.pointer (some ad),strVal s1,strVal s2] = Pure.pure (.pointer (some ad)):=fun _ _ _ _=>rfl
     have hr:∀ s,(receiverAt t (.val (.pointer (some ad))) false s).run P w = .ok x w:=fun s=>by
      simp only [receiverAt,Sem.run_bind,run_underlying hu]
      cases s <;> simp [Place.get,asAddr,hn,hl]
     simp [method,typeInfo,hi,hm,hpl,follow,hf,hr]
    ·rename_i f' d hng hf hu
     cases h
     have hx:x = u:=hx
     subst hx
     have hr:∀ s,(receiverAt t (.val x) false s).run P w = .ok x w:=fun s=>by
      simp only [receiverAt,Sem.run_bind,run_underlying hu]
      cases d <;> first | rfl | exact absurd rfl (hng _)
     simp [method,typeInfo,hi,hm,hpl,follow,hf,hr]
    ·cases h
   ·cases h
  ·cases h
 ·cases h
theorem invoke_out {c:Call} {f:Operand} {name:String} {g:FuncId} {args:List V} (hR:Rel E w) (hG:∀ r ob,G r = some ob->E.H r = some ob) (ho:o.op = .call c) (hc:c.callee = .invoke f name) (h:∀ x:Operand,Vr E w (opV T x) (a.eval x)) (he:invE P G (opV T f) name (c.args.toList.map (opV T)) = some (g,args)):zfx P E w (execOp a.eval o) g args:=by
 have hA:=z54 (l:=c.args.toList) h
 have hargs:(c.args.map a.eval) = (c.args.toList.map a.eval).toArray:=by apply Array.ext'; simp
 have hf:=h f
 have key:∀ (t:TypeId) (v:V) (u:Value),a.eval f = .iface t u->Vr E w v u->invT P G t v name (c.args.toList.map (opV T)) = some (g,args)->zfx P E w (execOp a.eval o) g args:=by
  intro t v u hu hv hi
  unfold invT at hi
  split at hi
  ·rename_i g' d hm
   split at hi
   ·rename_i hok
    rw [Option.map_eq_some_iff] at hi
    obtain ⟨y,hy,hi⟩:=hi
    cases hi
    have hx:∃ x,RecvR P w u x d∧Vr E w y x:=by
     cases d with
     | none =>
      cases hy
      exact ⟨u,rfl,hv⟩
     | some e =>
      unfold recvE at hy
      split at hy
      ·rename_i hd; cases hd
      ·rename_i e' hd
       cases hd
       split at hy
       ·rename_i r off agg z ha hz
        split at hy
        ·rename_i _ cs hr
         have hp:=hv.ptr_live (hG r _ hr)
         obtain ⟨x,h1,h2⟩:=ze7 hR hv ha hz (hG r _ hr) hy
         rw [hp] at h1
         exact ⟨x,⟨_,hp,by simpa [Instr.loadAt,Instr.sureAddr] using h1⟩,h2⟩
        ·cases hy
       ·cases hy
    obtain ⟨x,hx,hyx⟩:=hx
    refine ⟨hok,x :: c.args.toList.map a.eval,?_,.cons hyx hA⟩
    have hmr:=fun n=>methOf_run (w:=w) hm hx n
    simp only [execOp,ho,resolve,hc,Sem.run_bind]
    simp [hu,invoke,callMethod,program,Sem.run,Made.depth,hmr,z2k hok,hargs]
    exact List.take_of_length_le (by simp)
   ·cases hi
  ·cases hi
 unfold invE at he
 split at he
 ·rename_i t v e1
  rw [e1] at hf
  generalize hfu:a.eval f = uu at hf
  cases hf with
  | ifc _ _ u hv=>exact key t v u hfu hv he
 ·rename_i t v e1
  rw [e1] at hf
  exact key t _ v hf.lit_inv (.lit v) he
 ·cases he
end
end Hm
end Go.Proofs.YtlhblpbfhfhlpaaGreatDoor
end
section
namespace Go.Proofs.YtlhblpbfhfhlpaaGreatDoor
open Go.RowKit
namespace Hm
section
variable {P:Program} {E:Mx} {w:World} {T:Nat->V} {a:Act} {o:Oper} {nx:Nat} {G:Nat->Option Ob}
theorem zj3 (l m:List (Nat × Option Ob)) (H:Nat->Option Ob):upsH (l ++ m) H = upsH m (upsH l H):=by
 induction l generalizing H with
 | nil=>rfl
 | cons p l ih=>exact ih _
theorem Out.made2 {E1:Mx} {w1:World} {s:Sem Next} {v:V} {u:Value} (ups0:List (Nat × Option Ob)) (hR1:Rel E1 w1) (hS:Step E w E1 w1) (hU:E1.U = E.U) (hH:E1.H = upsH ups0 E.H) (hnx:¬ E.U nx) {ob:Ob} {o:Obj} (h:s.run P w = .ok (.value u) (w1.alloc o)) (ho:ObR E1 w1 0 ob o)
  (hv:Vr (E1.new nx w1.heap.size 0 ob) (w1.alloc o) v u):Out P E w s v (ups0 ++ [(nx,some ob)]) nx (nx + 1):=by
 obtain ⟨h1,h2⟩:=hR1.new (by rw [hU]; exact hnx) ho
 refine ⟨u,_,_,.inl h,hv,h1,hS.trans h2,?_,fun r=>?_⟩
 ·show upd E1.H nx (some ob) = _
  rw [zj3,← hH]; rfl
 ·show E1.U r∨r = nx ↔ _
  rw [hU]
  exact ⟨fun q=>q.imp id fun q=>by omega,fun q=>q.imp id fun q=>by omega⟩
theorem Rel.ones (h:Rel E w) {r:Nat} {tb:TypeId × Nat} {cs:List V} (hr:E.H r = some (.cells tb cs)) (o z:Nat):oks ((cs.drop o).take z) = true:=by
 obtain ⟨ob,h1,h2⟩:=h.obj r _ hr
 cases ob <;> try exact h2.elim
 obtain ⟨h3,h4,h5⟩:=h2
 refine List.all_eq_true.2 fun c hc=>?_
 obtain ⟨j,hj⟩:=List.mem_iff_getElem?.1 (List.mem_of_mem_drop (List.mem_of_mem_take hc))
 exact (h5 j c hj).1
theorem z3r (z:Array Value) (n:Nat):(Builtin.zeroCells z n).size = n * z.size:=by simp [Builtin.zeroCells]
theorem zeh {b:Nat} (hb:1≤b) {cs:List V} {us:List Value} {zs:Array Value} {t:TypeId} (h:Vrs E w cs us) (h1:oks cs = true):ObR E w 0 (.cells (t,b) cs) (.cells (us.toArray ++ zs) t (0,0)):=by
 refine ⟨.inl rfl,⟨by simp [h.len],fun _=>rfl,rfl,fun _=>rfl,fun q=>absurd q (show b ≠ 0 by omega)⟩,fun j c hc=>⟨List.all_eq_true.1 h1 c (List.mem_of_getElem? hc),?_⟩⟩
 obtain ⟨u,hu,hv⟩:=h.get hc
 have hj:=(List.getElem?_eq_some_iff.1 hu).1
 exact ⟨u,by rw [Nat.zero_add,Array.getElem?_append_left (by simpa using hj),List.getElem?_toArray]; exact hu,hv⟩
theorem z0j {c:Call} {b:Builtin} (ho:o.op = .call c) (hc:c.callee = .builtin b) :
  (execOp a.eval o).run P w = (builtin b c.argTypes o.type (c.args.map fun | .const _=>true | _=>false) (c.args.map a.eval)).run P w:=by
 simp only [execOp,ho,resolve,hc]
 simp [invoke]
 rfl
structure Arg2 (P:Program) (w:World) (e t':TypeId) (z:Nat) (x:Value) (m:Nat) (us:List Value):Prop where
 ty:P.underlying t' = some (.slice e)∨P.underlying t' = some .string
 len:∀ w,(Builtin.lenOf x).run P w = .ok m w
 cells:(Builtin.firstCells z m x).run P w = .ok us.toArray w
 drew:(Builtin.firstCells z m x).run P w.drew = .ok us.toArray w.drew
theorem z4d {t t' ty e:TypeId} {i:TypeInfo} (ht:P.underlying t = some (.slice e)) (hi:P.info? e = some i) {base:Option Addr} {len cap:Nat} {x:Value} (hl:len≤cap) (hx:Arg2 P w e t' i.size x 0 []) :
  (Builtin.append_ #[t,t'] ty #[.slice base len cap,x]).run P w = .ok (.slice base len cap) w:=by
 have h1:=hx.len w
 have h2:=hx.cells
 rcases hx.ty with hu | hu <;> cases base <;> simp [Builtin.append_,run_underlying ht,run_underlying hu,sizeOf,typeInfo,hi,h1,hl,h2,storeCells]
theorem z9b {t t' ty e:TypeId} {i:TypeInfo} {z:Value} (ht:P.underlying t = some (.slice e)) (hi:P.info? e = some i) (hz:i.zero = some z) {n:Nat} {x:Value} {news:List Value} (hx:Arg2 P w e t' i.size x n news)
  (h0:0 < n) (h63:(n:Int)≤9223372036854775807) (h48:n * i.bytes≤281474976710656) :
  (Builtin.append_ #[t,t'] ty #[.slice none 0 0,x]).run P w =
   .ok (.slice (some ⟨w.heap.size,0,none⟩) n (grownCap w n 0 e)) (w.drew.alloc (.cells (news.toArray ++ Builtin.zeroCells z.cells (grownCap w n 0 e - n)) e)):=by
 have hn:n ≠ 0:=by omega
 have h63':¬ (9223372036854775807 < (n:Int)):=by omega
 have h48':¬ (281474976710656 < Builtin.nextslicecap n 0 * i.bytes):=by rw [nextslicecap_zero h0]; omega
 have h1:=hx.len w
 have h2:=hx.drew
 rcases hx.ty with hu | hu <;>
  simp [Builtin.append_,run_underlying ht,run_underlying hu,sizeOf,typeInfo,zeroValue,hi,hz,h1,hn,h63',h48',Question.forced,run_firstCells_none,h2,newRow,grownCap]
theorem z81 {t t' ty e:TypeId} {i:TypeInfo} {z:Value} (ht:P.underlying t = some (.slice e)) (hi:P.info? e = some i) (hz:i.zero = some z)
  {b:Addr} {sLen sCap:Nat} {olds:List Value} (hlo:olds.length = sLen * i.size) (holds:∀ j v,olds[j]? = some v->w.cell? (b.add j) = some v)
  {n:Nat} {x:Value} {news:List Value} (hx:Arg2 P w e t' i.size x n news)
  (hg:sCap < sLen + n) (h63:((sLen + n:Nat):Int)≤9223372036854775807) (hfit:Builtin.nextslicecap (sLen + n) sCap * i.bytes≤281474976710656) :
  (Builtin.append_ #[t,t'] ty #[.slice (some b) sLen sCap,x]).run P w =
   .ok (.slice (some ⟨w.heap.size,0,none⟩) (sLen + n) (grownCap w (sLen + n) sCap e))
    (w.drew.alloc (.cells (olds.toArray ++ news.toArray ++ Builtin.zeroCells z.cells (grownCap w (sLen + n) sCap e - (sLen + n))) e)):=by
 have hn:¬ (sLen + n≤sCap):=by omega
 have h63':¬ (9223372036854775807 < ((sLen:Int) + (n:Int))):=by omega
 have h48':¬ (281474976710656 < Builtin.nextslicecap (sLen + n) sCap * i.bytes):=by omega
 have h1:=hx.len w
 have h2:=hx.drew
 have hfo:=run_firstCells_some (P:=P) w.drew i.size sLen b sLen sCap olds hlo (by simpa using holds)
 rcases hx.ty with hu | hu
 all_goals
  simp [Builtin.append_,run_underlying ht,run_underlying hu,sizeOf,typeInfo,zeroValue,hi,hz,h1,hn,h63',h48',Question.forced,h2,hfo,newRow,grownCap]
  congr 2
  apply Array.ext'
  simp [List.append_assoc]
theorem z4e {t t' ty e:TypeId} {i:TypeInfo} (ht:P.underlying t = some (.slice e)) (hi:P.info? e = some i) {g b sLen sCap:Nat} {cur:Array Value} {et:TypeId} {fr:Nat × Nat} (hg:w.heap[g]? = some (.cells cur et fr)) (hfr:Unf fr cur.size) {m:Nat} {x:Value} {news:List Value}
  (hx:Arg2 P w e t' i.size x m news) (h1:∀ u ∈ news,u.oneCell' = true) (hroom:sLen + m≤sCap) (hfit:b + sLen * i.size + news.length≤cur.size) :
  (Builtin.append_ #[t,t'] ty #[.slice (some ⟨g,b,none⟩) sLen sCap,x]).run P w =
   .ok (.slice (some ⟨g,b,none⟩) (sLen + m) sCap) (w.setRow g (cur.toList.take (b + sLen * i.size) ++ news ++ cur.toList.drop (b + sLen * i.size + news.length)).toArray):=by
 have hst:=z10 P g (b + sLen * i.size) et fr cur.size hfr news 0 cur w rfl hg (by simpa using hfit) h1
 simp only [Nat.add_zero] at hst
 have k1:=hx.len w
 have k2:=hx.cells
 rcases hx.ty with hu | hu <;> simp [Builtin.append_,run_underlying ht,run_underlying hu,sizeOf,typeInfo,hi,k1,hroom,k2,Addr.add_lit,hst]
theorem zq3 {z:Nat} {y:V} {u:Value} {news:List V} (hz:0 < z) (hR:Rel E w) (hG:∀ r ob,G r = some ob->E.H r = some ob) (hy:Vr E w y u) (hs:∀ s,y ≠ .lit (.string s)) (h:zc8 G z y = some news) :
  ∃ us A cap,u = .slice A (news.length / z) cap∧news.length = news.length / z * z∧Vrs E w news us∧us.length = news.length / z * z∧(∀ x,x ∈ us->x.oneCell' = true)∧oks news = true∧(0 < news.length / z->∃ b,A = some b∧∀ j x,us[j]? = some x->w.cell? (b.add j) = some x):=by
 unfold zc8 at h
 split at h
 ·cases h
  have:=hy.lit_inv
  subst this
  exact ⟨[],none,0,by simp,by simp,.nil,by simp,(fun x hx=>by cases hx),rfl,fun q=>by simp at q⟩
 ·exact absurd rfl (hs _)
 ·rename_i r off z' len
  split at h
  ·rename_i hzz
   subst hzz
   split at h
   ·rename_i tb cs hg
    split at h
    ·rename_i hle
     cases h
     have hr:=hG r _ hg
     obtain ⟨A,cap,hu,hU,h0,hlc,hm,hlv⟩:=hy.sl_inv
     obtain ⟨⟨ad,hA,hbk⟩,hA2,_⟩:=hlv (by rw [hr]; rfl)
     obtain ⟨us,k1,k2,k3,k4⟩:=hR.reads hr off (len * z') hle
     have hnl:((cs.drop off).take (len * z')).length = len * z':=by simp; omega
     have hd:len * z' / z' = len:=Nat.mul_div_cancel _ hz
     rw [hnl,hd]
     refine ⟨us,A,cap,hu,rfl,k1,k2,k3,hR.ones hr off (len * z'),fun q=>⟨_,hA2 (by omega),k4⟩⟩
    ·cases h
   ·cases h
  ·cases h
 ·cases h
theorem news_out2 {e t':TypeId} {z:Nat} {y:V} {u:Value} {news:List V} (hz:0 < z) (hR:Rel E w) (hG:∀ r ob,G r = some ob->E.H r = some ob) (hy:Vr E w y u) (ht:(P.underlying t' = some (.slice e)∧z4o y = true)∨(P.underlying t' = some .string∧z4o y = false)) (h:zc8 G z y = some news) :
  ∃ us,Arg2 P w e t' z u (news.length / z) us∧news.length = news.length / z * z∧Vrs E w news us∧us.length = news.length / z * z∧(∀ x,x ∈ us->x.oneCell' = true)∧oks news = true:=by
 rcases ht with ⟨ht,hs⟩ | ⟨ht,hs⟩
 ·obtain ⟨us,A,cap,rfl,h2,h3,h4,h5,h6,h7⟩:=zq3 hz hR hG hy (fun s q=>by rw [q] at hs; cases hs) h
  have hd:∀ w',(∀ a,w'.cell? a = w.cell? a)->(Builtin.firstCells z (news.length / z) (.slice A (news.length / z) cap)).run P w' = .ok us.toArray w':=by
   intro w' hw
   by_cases hN:0 < news.length / z
   ·obtain ⟨b,rfl,hcell⟩:=h7 hN
    exact run_firstCells_some (P:=P) w' z _ b _ cap us h4 fun j v hj=>by rw [hw]; exact hcell j v hj
   ·have hN0:news.length / z = 0:=Nat.eq_zero_of_not_pos hN
    rw [hN0] at h4 ⊢
    have:us = []:=List.length_eq_zero_iff.1 (by omega)
    subst this
    cases A <;> simp [Builtin.firstCells,loadCells,loadCellsFrom]
  exact ⟨us,⟨.inl ht,fun w=>by simp [Builtin.lenOf],hd w fun _=>rfl,hd w.drew fun _=>rfl⟩,h2,h3,h4,h5,h6⟩
 ·unfold z4o at hs
  split at hs
  case h_2=>cases hs
  rename_i s
  have hu:=hy.lit_inv
  subst hu
  simp only [zc8] at h
  split at h
  case isFalse=>cases h
  rename_i hz1
  subst hz1
  cases h
  have hl:(s.data.toList.map fun b=>V.lit (.int .u8 b.toNat)).length / 1 = s.size:=by simp
  rw [hl]
  refine ⟨Lib.strCells s,⟨.inr ht,fun w=>by simp [Builtin.lenOf],Lib.run_firstCells_string w 1 s,Lib.run_firstCells_string w.drew 1 s⟩,by simp,?_,by rw [Lib.strCells_length,Nat.mul_one],Lib.strCells_oneCell s,?_⟩
  ·have:=Vrs.lits (E:=E) (w:=w) (Lib.strCells s)
   unfold Lib.strCells at this ⊢
   rw [List.map_map] at this
   exact this
  ·refine List.all_eq_true.2 fun c hc=>?_
   obtain ⟨b,_,rfl⟩:=List.mem_map.1 hc
   rfl
theorem z45 {w:World} {need old:Nat} {e:TypeId} (h:need≤1000000000):need≤grownCap w need old e∧grownCap w need old e≤maxLen:=by
 have h1:grownCap w need old e = need + (w.tape w.drawn (.appendCap need old e)) % (2 ^ 63 - need):=rfl
 have h2:(w.tape w.drawn (.appendCap need old e)) % (2 ^ 63 - need) < 2 ^ 63 - need:=Nat.mod_lt _ (by omega)
 have h3:maxLen = 9223372036854775807:=rfl
 constructor <;> omega
theorem app_out {c:Call} {t t' e:TypeId} {i:TypeInfo} {x y:Operand} {v:V} {ups:List (Nat × Option Ob)} {nx':Nat} (hR:Rel E w) (hnx:¬ E.U nx) (hG:∀ r ob,G r = some ob->E.H r = some ob) (ho:o.op = .call c) (hc:c.callee = .builtin .append) (hargs:c.args.toList = [x,y]) (hts:c.argTypes.toList = [t,t'])
  (ht:P.underlying t = some (.slice e)) (hi:P.info? e = some i) (hx:Vr E w (opV T x) (a.eval x)) (hy:Vr E w (opV T y) (a.eval y)) (hs:(P.underlying t' = some (.slice e)∧z4o (opV T y) = true)∨(P.underlying t' = some .string∧z4o (opV T y) = false)) (hzz:∃ zv,i.zero = some zv∧zv.cells.size = i.size) (he:appE G nx e i.size i.bytes (opV T x) (opV T y) = some (.val v ups nx')):Out P E w (execOp a.eval o) v ups nx nx':=by
 have hrun:=z0j (P:=P) (a:=a) (w:=w) ho hc
 have ha2:c.args = #[x,y]:=by apply Array.ext'; exact hargs
 have ht2:c.argTypes = #[t,t']:=by apply Array.ext'; exact hts
 rw [ha2,ht2] at hrun
 obtain ⟨zv,hzv,hzs⟩:=hzz
 unfold appE at he
 split at he
 ·cases he
 rename_i hz0
 have hz:0 < i.size:=by omega
 split at he
 ·cases he
 rename_i news hn
 obtain ⟨us,hA2,hnl,hus,husl,hus1,hnone⟩:=news_out2 (P:=P) (e:=e) hz hR hG hy hs hn
 have hul:us.length = news.length:=hus.len.symm
 have done:∀ {u:Value} {w':World},(Builtin.append_ #[t,t'] o.type #[a.eval x,a.eval y]).run P w = .ok u w'->(execOp a.eval o).run P w = .ok (.value u) w':=by
  intro u w' hr
  rw [hrun]
  simp only [List.map_toArray,List.map_cons,List.map_nil,builtin,Sem.run_bind,hr]
  rfl
 dsimp only at he
 generalize news.length / i.size = N at *
 split at he
 ·rename_i hxv
  have hxe:a.eval x = .slice none 0 0:=by rw [hxv] at hx; exact hx.lit_inv
  split at he
  ·rename_i hn0
   cases he
   rw [hn0] at hA2 husl
   have hu0:us = []:=List.length_eq_zero_iff.1 (by omega)
   subst hu0
   exact Out.pure hR (done (by rw [hxe]; exact z4d ht hi (Nat.le_refl 0) hA2)) (by rw [hxv]; exact .lit _)
  ·rename_i hn0
   split at he
   ·rename_i hb
    cases he
    rw [Bool.and_eq_true,decide_eq_true_eq,decide_eq_true_eq] at hb
    obtain ⟨hb,hok⟩:=hb
    have hra:=z9b (ty:=o.type) ht hi hzv hA2 (by omega) (by omega) (by rw [Nat.mul_comm]; omega)
    have hcap:=z45 (w:=w) (old:=0) (e:=e) (need:=N) (by omega)
    obtain ⟨hR2,hS2⟩:=hR.drew
    refine Out.made2 (ups0:=[]) hR2 hS2 rfl rfl hnx (done (by rw [hxe]; exact hra)) ((zeh (b:=1) (by omega) hus hnone).step hS2) (z99 hz hcap.1 hcap.2 ?_)
    simp [z3r,husl,hzs]
    rw [← Nat.add_mul]
    congr 1
    omega
   ·cases he
 ·rename_i r off z' len hxv
  rw [hxv] at hx
  split at he
  ·rename_i hzz
   subst hzz
   split at he
   ·rename_i tb cs hg
    have hr:=hG r _ hg
    obtain ⟨B,cap,hxe,hU,h0,hlc,hm,hlv⟩:=hx.sl_inv
    obtain ⟨⟨ad,hB,hbk⟩,hB2,vs,ty,fr,hb1,hb2⟩:=hlv (by rw [hr]; rfl)
    split at he
    ·rename_i hn0
     cases he
     rw [hn0] at hA2 husl
     have hu0:us = []:=List.length_eq_zero_iff.1 (by omega)
     subst hu0
     rw [hxv]
     exact Out.pure hR (u:=a.eval x) (done (by rw [hxe]; exact z4d ht hi hlc hA2)) hx
    ·rename_i hn0
     have hnp:0 < news.length:=by
      rw [hnl]; exact Nat.mul_pos (by omega) hz
     split at he
     ·rename_i hle
      obtain ⟨vs',ty',fr',k1,k2,k3,k4,k42⟩:∃ vs' ty' fr',w.heap[(E.μ r).1]? = some (.cells vs' ty' fr')∧(E.μ r).2 + cs.length≤vs'.size∧Unf fr' vs'.size∧ty' = tb.1∧(tb.2 < 2->fr' = (0,0)):=by
       obtain ⟨ob,g1,g2⟩:=hR.obj r _ hr
       cases ob <;> try exact g2.elim
       obtain ⟨hfr,h4,h5⟩:=g2
       exact ⟨_,_,_,g1,h4.1,hfr,h4.2.2.1,h4.2.2.2.1⟩
      rw [hb1] at k1
      cases k1
      subst k4
      split at he
      ·rename_i hle2
       cases he
       have hcapn:len + N≤cap:=by
        have h9:(len + N) * i.size≤cap * i.size:=by omega
        exact Nat.le_of_mul_le_mul_right h9 hz
       have hB3:=hB2 (by omega)
       subst hB3
       have hfit:off + len * i.size + news.length≤cs.length:=by
        rw [Nat.add_mul,← hnl] at hle2; omega
       obtain ⟨vs2,fr2,q1,_,q2,q3,q4,q5⟩:=hR.store hr (off:=off + len * i.size) hfit hus hnone
       rw [hb1] at q1
       cases q1
       have hra:=z4e (ty:=o.type) ht hi hb1 k3 (b:=(E.μ r).2 + off) (sLen:=len) (sCap:=cap) hA2 hus1 hcapn (by omega)
       rw [show (E.μ r).2 + off + len * i.size = (E.μ r).2 + (off + len * i.size) by omega] at hra
       refine ⟨_,_,_,.inl (done (by rw [hxe]; exact hra)),?_,q4,q5,rfl,fun q=>⟨.inl,fun q'=>q'.elim id fun q'=>by omega⟩⟩
       obtain ⟨B',cap',e1,e2,e3,e4,e5,e6⟩:=(hx.step q5).sl_inv
       rw [hxe] at e1
       cases e1
       exact .sl _ _ _ _ _ _ e2 e3 hcapn e5 e6
      ·rename_i hle2
       split at he
       ·rename_i hbd
        cases he
        rw [Bool.and_eq_true,decide_eq_true_eq,decide_eq_true_eq] at hbd
        obtain ⟨hbd1,hbd2,hbd3,rfl⟩:=hbd
        have hbd2:_∧_:=⟨hbd2,hbd3⟩
        have hUr:=hR.used r _ hr
        by_cases hcapn:len + N≤cap
        ·-- in its place
         have hB3:=hB2 (by omega)
         subst hB3
         have hsz:(E.μ r).2 + off + len * i.size + news.length≤vs.size:=by
          have h9:(len + N) * i.size≤cap * i.size:=Nat.mul_le_mul_right _ hcapn
          rw [Nat.add_mul,← hnl] at h9
          omega
         have hra:=z4e (ty:=o.type) ht hi hb1 k3 (b:=(E.μ r).2 + off) (sLen:=len) (sCap:=cap) hA2 hus1 hcapn (by omega)
         obtain ⟨ob,g1,g2⟩:=hR.obj r _ hr
         rw [hb1] at g1
         cases g1
         obtain ⟨_,h4,h5⟩:=g2
         have hrd:∀ (j:Nat) (c:V),((cs.drop off).take (len * i.size))[j]? = some c->c.one = true∧∃ u,vs[(E.μ r).2 + off + j]? = some u∧Vr E w c u:=by
          intro j c hc
          rw [List.getElem?_take] at hc
          split at hc
          ·rw [List.getElem?_drop] at hc
           obtain ⟨a1,u,a2,a3⟩:=h5 _ c hc
           exact ⟨a1,u,by rw [← a2]; congr 1; omega,a3⟩
          ·cases hc
         have hob1:ObR E w ((E.μ r).2 + off) (.cells (tb.1,max 1 tb.2) []) (.cells vs tb.1 fr):=⟨k3,⟨by simp; omega,by simp,rfl,fun q=>k42 (show tb.2 < 2 by have q:max 1 tb.2 < 2:=q; omega),fun q=>absurd q (show max 1 tb.2 ≠ 0 by omega)⟩,fun j c hc=>by simp at hc⟩
         obtain ⟨t1,t2⟩:=hR.take hr hnx hb1 hob1
         have hHn:((E.kill r).new nx (E.μ r).1 ((E.μ r).2 + off) (.cells (tb.1,max 1 tb.2) [])).H nx = some (.cells (tb.1,max 1 tb.2) []):=z03 _ _ _
         have hμn:((E.kill r).new nx (E.μ r).1 ((E.μ r).2 + off) (.cells (tb.1,max 1 tb.2) [])).μ nx = ((E.μ r).1,(E.μ r).2 + off):=z03 _ _ _
         generalize hE1:(E.kill r).new nx (E.μ r).1 ((E.μ r).2 + off) (.cells (tb.1,max 1 tb.2) []) = E1 at t1 t2 hHn hμn
         have hU1:∀ q,E1.U q ↔ E.U q∨q = nx:=fun q=>by rw [← hE1]; exact Iff.rfl
         have hH1:E1.H = upd (upd E.H r none) nx (some (.cells (tb.1,max 1 tb.2) [])):=by rw [← hE1]; rfl
         obtain ⟨vs',hvs⟩:∃ vs',(vs.toList.take ((E.μ r).2 + off + len * i.size) ++ us ++ vs.toList.drop ((E.μ r).2 + off + len * i.size + us.length)).toArray = vs':=⟨_,rfl⟩
         rw [hvs] at hra
         have hlt:(vs.toList.take ((E.μ r).2 + off + len * i.size)).length = (E.μ r).2 + off + len * i.size:=by rw [List.length_take,Array.length_toList]; omega
         have hvsz:vs'.size = vs.size:=by rw [← hvs]; simp; omega
         have hgs:(w.setRow (E.μ r).1 vs').heap[(E1.μ nx).1]? = some (.cells vs' tb.1 fr):=by rw [hμn]; simp only [World.setRow,Array.getElem?_modify,if_true,hb1,Option.map_some]
         have hob2:ObR E1 w ((E1.μ nx).2) (.cells (tb.1,max 1 tb.2) ((cs.drop off).take (len * i.size) ++ news)) (.cells vs' tb.1 fr):=by
          refine ⟨by rw [hvsz]; exact k3,⟨by rw [hμn]; simp; omega,fun e=>?_,rfl,fun q=>k42 (show tb.2 < 2 by have q:max 1 tb.2 < 2:=q; omega),fun q=>absurd q (show max 1 tb.2 ≠ 0 by omega)⟩,fun j c hc=>?_⟩
          ·exfalso
           refine hbd2.2 ?_
           rw [Nat.add_mul,← hnl,← e]
           simp; omega
          have hl1:((cs.drop off).take (len * i.size)).length = len * i.size:=by simp; omega
          show c.one = true∧∃ u,vs'[(E1.μ nx).2 + j]? = some u∧_
          rw [hμn]
          by_cases hj:j < len * i.size
          ·rw [List.getElem?_append_left (by omega)] at hc
           obtain ⟨a1,u,a2,a3⟩:=hrd j c hc
           refine ⟨a1,u,?_,a3.step t2⟩
           rw [← hvs,List.getElem?_toArray,List.append_assoc,List.getElem?_append_left (by omega),List.getElem?_take,if_pos (by omega),Array.getElem?_toList]
           exact a2
          ·rw [List.getElem?_append_right (by omega),hl1] at hc
           obtain ⟨u,a2,a3⟩:=hus.get hc
           refine ⟨List.all_eq_true.1 hnone _ (List.mem_of_getElem? hc),u,?_,a3.step t2⟩
           have:=(List.getElem?_eq_some_iff.1 a2).1
           rw [← hvs,List.getElem?_toArray,List.append_assoc,List.getElem?_append_right (by omega),hlt,List.getElem?_append_left (by omega),show (E.μ r).2 + off + j - ((E.μ r).2 + off + len * i.size) = j - len * i.size by omega]
           exact a2
         obtain ⟨r1,r2⟩:=t1.write hHn (o:=.cells vs tb.1 fr) (o':=.cells vs' tb.1 fr) (w':=w.setRow (E.μ r).1 vs') (ob':=.cells (tb.1,max 1 tb.2) ((cs.drop off).take (len * i.size) ++ news)) (by rw [hμn]; exact hb1) (by rw [hμn]; exact ⟨rfl,rfl,rfl,by simp [World.setRow],fun k hk=>by simp [World.setRow,Array.getElem?_modify,Ne.symm hk]⟩) hgs (fun _ _ _ e=>by cases e; exact ⟨_,_,_,rfl,hvsz⟩) hob2
         refine ⟨_,_,_,.inl (done (by rw [hxe]; exact hra)),?_,r1,t2.trans r2,?_,fun q=>?_⟩
         ·refine .sl _ _ _ _ _ _ ((hU1 nx).2 (.inr rfl)) hz hcapn hm fun _=>?_
          show (∃ ad:Addr,some (⟨(E.μ r).1,(E.μ r).2 + off,none⟩:Addr) = some ad∧ad.block = (E1.μ nx).1)∧(0 < cap->some (⟨(E.μ r).1,(E.μ r).2 + off,none⟩:Addr) = some ⟨(E1.μ nx).1,(E1.μ nx).2 + 0,none⟩)∧∃ vs ty fr,(w.setRow (E.μ r).1 vs').heap[(E1.μ nx).1]? = some (.cells vs ty fr)∧(E1.μ nx).2 + 0 + cap * i.size = vs.size
          refine ⟨?_,?_,vs',tb.1,fr,hgs,?_⟩
          ·rw [hμn]; exact ⟨_,rfl,rfl⟩
          ·rw [hμn]; intro _; rfl
          ·rw [hμn]; show (E.μ r).2 + off + 0 + cap * i.size = _; omega
         ·show upd E1.H nx (some _) = upd (upd E.H r none) nx (some _)
          rw [hH1]
          funext q
          by_cases e:q = nx
          ·subst e; rw [z03,z03]
          ·rw [z04 _ _ e,z04 _ _ e,z04 _ _ e]
         ·show E1.U q ↔ _
          rw [hU1 q]
          exact ⟨fun z=>z.imp id fun z=>by omega,fun z=>z.imp id fun z=>by omega⟩
        ·-- in a new block
         obtain ⟨os,o1,o2,o3,o4⟩:=hR.reads hr off (len * i.size) hle
         have hBc:∃ bb,B = some bb∧∀ j x,os[j]? = some x->w.cell? (bb.add j) = some x:=by
          refine ⟨ad,hB,fun j x hj=>?_⟩
          have hjl:=(List.getElem?_eq_some_iff.1 hj).1
          have hlp:0 < len:=by
           rcases Nat.eq_zero_or_pos len with q | q
           ·rw [q,Nat.zero_mul] at o2; omega
           ·exact q
          have:=hB2 (by omega)
          rw [hB] at this
          cases this
          exact o4 j x hj
         obtain ⟨bb,rfl,hbc⟩:=hBc
         have hra:=z81 (ty:=o.type) (n:=N) (sLen:=len) (sCap:=cap) ht hi hzv o2 hbc hA2 (by omega) (by omega) (growslice_fits (by omega) (by rw [Nat.mul_comm]; omega))
         have hcap:=z45 (w:=w) (old:=cap) (e:=tb.1) (need:=len + N) hbd2.1
         obtain ⟨t1,t2⟩:=hR.kill r
         obtain ⟨hR2,hS2⟩:=t1.drew
         have hgo:=zeh (b:=max 1 tb.2) (by omega) (E:=E) (w:=w) (o1.append hus) (by
          have:=hR.ones hr off (len * i.size)
          unfold oks at this hnone ⊢
          rw [List.all_append,this,hnone]; rfl) (zs:=Builtin.zeroCells zv.cells (grownCap w (len + N) cap tb.1 - (len + N))) (t:=tb.1)
         refine Out.made2 (ups0:=[(r,none)]) hR2 (t2.trans hS2) rfl rfl hnx (done (by rw [hxe]; exact hra)) ?_ (z99 hz hcap.1 hcap.2 ?_)
         ·have:=hgo.step (t2.trans hS2)
          simpa using this
         ·simp [z3r,husl,o2,hzs]
          rw [← Nat.add_mul,← Nat.add_mul]
          congr 1
          omega
       ·cases he
     ·cases he
   ·cases he
  ·cases he
 ·cases he
theorem appZ_out {c:Call} {x y:Operand} {t t' e:TypeId} {i:TypeInfo} {f:Eff} (hR:Rel E w) (hnx:¬ E.U nx) (ho:o.op = .call c) (hc:c.callee = .builtin .append) (hargs:c.args.toList = [x,y]) (hts:c.argTypes.toList = [t,t'])
  (ht:P.underlying t = some (.slice e)) (hi:P.info? e = some i) (hx:Vr E w (opV T x) (a.eval x)) (hy:Vr E w (opV T y) (a.eval y)) (he:appZ P nx e i t' (opV T x) (opV T y) = some f):∃ v ups nx',f = .val v ups nx'∧Out P E w (execOp a.eval o) v ups nx nx':=by
 have hrun:=z0j (P:=P) (a:=a) (w:=w) ho hc
 have ha2:c.args = #[x,y]:=by apply Array.ext'; exact hargs
 have ht2:c.argTypes = #[t,t']:=by apply Array.ext'; exact hts
 rw [ha2,ht2] at hrun
 unfold appZ at he
 split at he
 case h_2=>cases he
 rename_i kn kk n zs htn hxv hyv hzs
 split at he
 case isFalse=>cases he
 rename_i hcc
 cases he
 obtain ⟨⟨h1,h2⟩,⟨h3,h4⟩,h5,h6⟩:=hcc
 rw [hxv] at hx
 rw [hyv] at hy
 have hxe:=hx.lit_inv
 have hye:=hy.lit_inv
 obtain ⟨i',z,hi',hz,rfl⟩:=z52 hzs
 rw [hi] at hi'
 cases hi'
 obtain ⟨m,hm⟩:∃ m:Nat,n = m:=⟨n.toNat,by omega⟩
 subst hm
 simp only [Int.toNat_natCast] at h6 ⊢
 have hbig:m * i.bytes≤1000000 * 1000000:=Nat.mul_le_mul (by omega) h4
 have hra:=Lib.run_append_nil_zeros (P:=P) w t t' o.type e i z kk kn ht htn hi hz m (by omega) h3 (by omega) (by omega)
 have hcap:=z45 (w:=w) (old:=0) (e:=e) (need:=m) (by omega)
 obtain ⟨hR2,hS2⟩:=hR.drew
 refine ⟨_,_,_,rfl,Out.made2 (ups0:=[]) hR2 hS2 rfl rfl hnx (o:=.cells (Builtin.zeroCells z.cells m ++ Builtin.zeroCells z.cells (grownCap w m 0 e - m)) e) (u:=.slice (some ⟨w.heap.size,0,none⟩) m (grownCap w m 0 e)) ?_ ?_ (z99 h3 hcap.1 hcap.2 ?_)⟩
 ·rw [hrun]
  simp only [List.map_toArray,List.map_cons,List.map_nil,builtin,Sem.run_bind,hxe,hye,hra]
  rfl
 ·have:=zeh (b:=1) (by omega) (E:=E) (w:=w.drew) (zs:=Builtin.zeroCells z.cells (grownCap w m 0 e - m)) (t:=e) (Vrs.lits (Builtin.zeroCells z.cells m).toList) h6
  simpa using this
 ·simp [z3r,h5]
  rw [← Nat.add_mul]
  congr 1
  omega
end
end Hm
end Go.Proofs.YtlhblpbfhfhlpaaGreatDoor
end
section
namespace Go.Proofs.YtlhblpbfhfhlpaaGreatDoor
open Go.RowKit
namespace Hm
section
variable {P:Program} {E:Mx} {w:World} {T:Nat->V} {a:Act} {o:Oper} {nx:Nat} {G:Nat->Option Ob}
def DfrR (E:Mx) (w:World) (x:FuncId × List V) (d:Deferred):Prop:=if x.1 = mkId then ∃ r g,x.2 = [.yl r]∧Vr E w (.yl r) (.func (.yield g) #[] #[])∧d = { target:=.collected g,args:=#[] }
 else ∃ cap args,d = { target:=.fn (.func x.1) cap,args:=args }∧Vrs E w x.2 (args.toList ++ cap.toList)
theorem DfrR.step {E E':Mx} {w w':World} (k:Step E w E' w') {x:FuncId × List V} {d:Deferred} (h:DfrR E w x d):DfrR E' w' x d:=by
 unfold DfrR at h ⊢
 split at h
 ·rename_i hx
  rw [if_pos hx]
  obtain ⟨r,g,e,hv,hd⟩:=h
  exact ⟨r,g,e,hv.step k,hd⟩
 ·rename_i hx
  rw [if_neg hx]
  obtain ⟨cap,args,e,hv⟩:=h
  exact ⟨cap,args,e,hv.step k⟩
def zfu (P:Program) (E:Mx) (w:World) (s:Sem Next) (nx:Nat):Eff->Prop
 | .val v ups nx'=>Out P E w s v ups nx nx'
 | .call f args=>zfx P E w s f args
 | .dfr f args=>z1p P f = true∧∃ d,s.run P w = .ok (.defer d) w∧DfrR E w (f,args) d
 | .yld r args=>∃ g us,Vr E w (.yl r) (.func (.yield g) #[] #[])∧Vrs E w args us∧s.run P w = (Instr.yield g us.toArray).run P w
theorem zih {f:FuncId} (h:z1p P f = true):f ≠ mkId:=by
 have:=zii h
 intro e
 rw [e] at this
 exact absurd this (by decide)
theorem zcj {f:FuncId} (h:z1p P f = true):f ≠ yldId:=by
 have:=zii h
 intro e
 rw [e] at this
 exact absurd this (by decide)
theorem defer_out {c:Call} {f:Operand} {g:FuncId} {args:List V} (ho:o.op = .defer c) (hc:c.callee = .value f) (h:∀ x:Operand,Vr E w (opV T x) (a.eval x)) (he:zfn P (opV T f) (c.args.toList.map (opV T)) = some (g,args)):zfu P E w (execOp a.eval o) nx (.dfr g args):=by
 have hA:=z54 (l:=c.args.toList) h
 have hf:=h f
 unfold zfn at he
 split at he
 ·rename_i g' fi ca e1
  split at he
  ·rename_i hok
   cases he
   rw [e1] at hf
   have hv:=hf.lit_inv
   refine ⟨hok,{ target:=.fn (.func g) ca,args:=fi ++ c.args.map a.eval },?_,?_⟩
   ·simp only [execOp,ho,resolve,hc,Sem.run_bind]
    simp [hv,Deferred.ofValue]
   ·unfold DfrR
    rw [if_neg (zih hok)]
    refine ⟨ca,_,rfl,?_⟩
    have:=((Vrs.lits (E:=E) (w:=w) fi.toList).append hA).append (Vrs.lits ca.toList)
    simpa using this
  ·cases he
 ·rename_i g' fi ca e1
  split at he
  ·rename_i hok
   cases he
   rw [e1] at hf
   generalize hfv:a.eval f = u at hf
   cases hf with
   | fn _ _ _ va vb ha hb h1 h2 =>
    refine ⟨hok,{ target:=.fn (.func g) vb.toArray,args:=va.toArray ++ c.args.map a.eval },?_,?_⟩
    ·simp only [execOp,ho,resolve,hc,Sem.run_bind]
     simp [hfv,Deferred.ofValue]
    ·unfold DfrR
     rw [if_neg (zih hok)]
     refine ⟨vb.toArray,_,rfl,?_⟩
     have:=((⟨ha,h1⟩:Vrs E w fi va).append hA).append ⟨hb,h2⟩
     simpa using this
  ·cases he
 ·cases he
theorem yld_out {c:Call} {f:Operand} {r:Nat} (ho:o.op = .call c) (hc:c.callee = .value f) (h:∀ x:Operand,Vr E w (opV T x) (a.eval x)) (hr:opV T f = .yl r):zfu P E w (execOp a.eval o) nx (.yld r (c.args.toList.map (opV T))):=by
 have hA:=z54 (l:=c.args.toList) h
 have hargs:(c.args.map a.eval) = (c.args.toList.map a.eval).toArray:=by apply Array.ext'; simp
 have hf:=h f
 rw [hr] at hf
 generalize hu:a.eval f = u at hf
 cases hf with
 | yl _ g hU hl =>
  refine ⟨g,_,.yl r g hU hl,hA,?_⟩
  simp only [execOp,ho,resolve,hc,Sem.run_bind]
  simp [hu,Deferred.ofValue,invoke,hargs]
theorem zi1 {f:FuncId} {xs ys:Array Operand} (hR:Rel E w) (ho:o.op = .makeFunc (.func f) xs ys) (h:∀ x:Operand,Vr E w (opV T x) (a.eval x)):Out P E w (execOp a.eval o) (.fn f (xs.toList.map (opV T)) (ys.toList.map (opV T))) [] nx nx:=by
 have h1:=z54 (l:=xs.toList) h
 have h2:=z54 (l:=ys.toList) h
 refine Out.pure hR (u:=.func (.func f) (xs.map a.eval) (ys.map a.eval)) (by simp [execOp,ho,Instr.makeFunc]) ?_
 have e1:xs.map a.eval = (xs.toList.map a.eval).toArray:=by apply Array.ext'; simp
 have e2:ys.map a.eval = (ys.toList.map a.eval).toArray:=by apply Array.ext'; simp
 rw [e1,e2]
 exact .fn f _ _ _ _ h1.len h2.len h1.at_ h2.at_
theorem ze6 {t:TypeId} {x:Operand} {d:TypeDesc} (hR:Rel E w) (ho:o.op = .makeInterface t x) (hx:Vr E w (opV T x) (a.eval x)) (ht:P.underlying t = some d) (hd:∀ ms,d ≠ .interface ms) :
  Out P E w (execOp a.eval o) (match (opV T x).val? with
   | some v=>.lit (.iface t v)
   | none=>.ifc t (opV T x)) [] nx nx:=by
 refine Out.pure hR (u:=.iface t (a.eval x)) ?_ ?_
 ·simp only [execOp,ho,Instr.makeInterface,Sem.run_bind,run_underlying ht]
  cases d <;> first | rfl | exact absurd rfl (hd _)
 ·cases hv:(opV T x).val? with
  | none=>exact .ifc _ _ _ hx
  | some v=>rw [hx.val hv]; exact .lit _
theorem zlv {x:Operand} {i:Nat} {vs:List V} {v:V} (hR:Rel E w) (ho:o.op = .extract x i) (hx:Vr E w (.tup vs) (a.eval x)) (hv:vs[i]? = some v):Out P E w (execOp a.eval o) v [] nx nx:=by
 obtain ⟨us,hu,hs⟩:=hx.tup_inv
 obtain ⟨u,h1,h2⟩:=hs.get hv
 refine Out.pure hR (u:=u) ?_ h2
 simp [execOp,ho,hu,Instr.extract,h1]
theorem zcv {x:Operand} {xt t d:TypeId} {ok:Bool} {v r:V} (hR:Rel E w) (ho:o.op = .typeAssert x xt t ok) (hx:Vr E w (.ifc d v) (a.eval x)) (h:(∃ want i,P.underlying t = some (.interface want)∧P.info? d = some i∧Instr.missingMethod want i.methods = none∧r = .ifc d v)∨(∃ ds,P.underlying t = some ds∧(∀ m,ds ≠ .interface m)∧d = t∧r = v)) :
  Out P E w (execOp a.eval o) (if ok then .tup [r,.lit (.bool true)] else r) [] nx nx:=by
 generalize hxv:a.eval x = u at hx
 cases hx with
 | ifc _ _ u' hv =>
  have key:∀ y:Value,Vr E w r y->(execOp a.eval o).run P w = .ok (.value (if ok then .tuple #[y,.bool true] else y)) w->Out P E w (execOp a.eval o) (if ok then .tup [r,.lit (.bool true)] else r) [] nx nx:=by
   intro y hy hrun
   refine Out.pure hR hrun ?_
   cases ok
   ·exact hy
   ·exact (Vrs.cons hy (.cons (.lit (.bool true)) .nil)).tup
  rcases h with ⟨want,i,h1,h2,h3,rfl⟩ | ⟨ds,h1,h2,rfl,rfl⟩
  ·refine key (.iface d u') (.ifc _ _ _ hv) ?_
   simp [execOp,ho,hxv,Instr.typeAssert,run_underlying h1,typeInfo,h2,h3]
  ·refine key u' hv ?_
   simp only [execOp,ho,hxv,Instr.typeAssert,Sem.run_bind,run_underlying h1]
   cases ds <;> first | (exact absurd rfl (h2 _)) | simp
theorem z3w {v:V} {k:IntKind} {u:Value} (hv:Vr E w v u) (h:zi7 v = some k):∃ n,u = .int k n:=by
 unfold zi7 at h
 split at h
 ·cases h
  cases hv with
  | un _ u hk =>
   cases u <;> simp [UK.has] at hk
   subst hk
   exact ⟨_,rfl⟩
 ·cases h
  cases hv with
  | un _ u hk =>
   cases u <;> simp [UK.has] at hk
   obtain ⟨rfl,_⟩:=hk
   exact ⟨_,rfl⟩
 ·cases h
  exact ⟨_,hv.lit_inv⟩
 ·cases h
theorem z56 {v:V} {r:Int × Int} {k:IntKind} {n:Int} (hv:Vr E w v (.int k n)) (h:rngV v = some r):k = .i64∧r.1≤n∧n≤r.2:=by
 unfold rngV at h
 split at h
 ·cases h
  cases hv with
  | un _ u hk=>simpa [UK.has] using hk
 ·cases h
  have:=hv.lit_inv
  cases this
  exact ⟨rfl,Int.le_refl _,Int.le_refl _⟩
 ·cases h
theorem zq9 {a b:Int × Int} {m n:Int} (ha:a.1≤m∧m≤a.2) (hb:b.1≤n∧n≤b.2):Vr E w (lssR a b) (.bool (decide (m < n))):=by
 unfold lssR
 split
 ·have:m < n:=by omega
  rw [decide_eq_true this]; exact .lit _
 ·split
  ·have:¬ m < n:=by omega
   rw [decide_eq_false this]; exact .lit _
  ·exact .un _ _ rfl
theorem zqa {a b:Int × Int} {m n:Int} (ha:a.1≤m∧m≤a.2) (hb:b.1≤n∧n≤b.2):Vr E w (leqR a b) (.bool (decide (m≤n))):=by
 unfold leqR
 split
 ·have:m≤n:=by omega
  rw [decide_eq_true this]; exact .lit _
 ·split
  ·have:¬ m≤n:=by omega
   rw [decide_eq_false this]; exact .lit _
  ·exact .un _ _ rfl
theorem cmpR_out {op:BinOp} {x y:V} {k:IntKind} {m n:Int} (hx:Vr E w x (.int k m)) (hy:Vr E w y (.int k n)) {b:Bool} (hb:match op with
  | .lss=>b = decide (m < n)
  | .leq=>b = decide (m≤n)
  | .gtr=>b = decide (m > n)
  | .geq=>b = decide (m ≥ n)
  | _=>True):Vr E w (cmpR op x y) (.bool b):=by
 unfold cmpR
 split
 ·rename_i a b' h1 h2
  have g1:=(z56 hx h1).2
  have g2:=(z56 hy h2).2
  cases op <;> dsimp only at hb ⊢ <;> first
   | exact .un _ _ rfl
   | (rw [hb]; exact zq9 g1 g2)
   | (rw [hb]; exact zqa g1 g2)
   | (rw [hb]; exact zq9 g2 g1)
   | (rw [hb]; exact zqa g2 g1)
 ·exact .un _ _ rfl
theorem minR_out {x y:V} {k k':IntKind} {m n:Int} (hx:Vr E w x (.int k m)) (hy:Vr E w y (.int k' n)):Vr E w (minR k x y) (.int k (min m n)):=by
 unfold minR
 split
 ·rename_i a b h1 h2
  have g1:=z56 hx h1
  have g2:=z56 hy h2
  refine .un _ _ ?_
  simp only [UK.has,decide_eq_true_eq]
  exact ⟨g1.1,by omega,by omega⟩
 ·exact .un _ _ (by simp [UK.has])
theorem maxR_out {x y:V} {k k':IntKind} {m n:Int} (hx:Vr E w x (.int k m)) (hy:Vr E w y (.int k' n)):Vr E w (maxR k x y) (.int k (max m n)):=by
 unfold maxR
 split
 ·rename_i a b h1 h2
  have g1:=z56 hx h1
  have g2:=z56 hy h2
  refine .un _ _ ?_
  simp only [UK.has,decide_eq_true_eq]
  exact ⟨g1.1,by omega,by omega⟩
 ·exact .un _ _ (by simp [UK.has])
theorem zg4 (h:∀ x:Operand,Vr E w (opV T x) (a.eval x)) {v:V} (e:unV P T o = some v):∃ u,(execOp a.eval o).run P w = .ok (.value u) w∧Vr E w v u:=by
 unfold unV at e
 split at e
 ·rename_i op t x y yt ho
  split at e
  ·rename_i k k' h1 h2
   split at e
   ·rename_i hc
    cases e
    obtain ⟨rfl,hop⟩:=hc
    obtain ⟨m,vx⟩:=z3w (h x) h1
    obtain ⟨m',vy⟩:=z3w (h y) h2
    have hrun:(execOp a.eval o).run P w = ((binOp op t (.int k m) (.int k m')).run P w).andThen fun v w'=>.ok (.value v) w':=by
     simp only [execOp,ho,vx,vy]
     cases op <;> simp [eqGuard]
    cases op <;> first
     | exact absurd hop (by decide)
     | exact ⟨.bool _,by rw [hrun]; simp only [binOp,ne_eq,not_true_eq_false,if_false,Op.intArith,Op.intBits,Op.intCmp]; rfl,cmpR_out (vx ▸ h x) (vy ▸ h y) (by first | rfl | trivial)⟩
   ·cases e
  ·cases e
 ·rename_i c ho
  split at e
  ·rename_i x t hc ha ht
   split at e
   ·rename_i hx hu
    cases e
    have hvx:=h x
    rw [hx] at hvx
    generalize hq:a.eval x = u at hvx
    cases hvx with
    | un _ u hk =>
     cases u <;> simp [UK.has] at hk
     rename_i s
     refine ⟨.int .i64 s.size,?_,.un _ _ rfl⟩
     have ha2:c.args = #[x]:=by apply Array.ext'; exact ha
     have ht2:c.argTypes = #[t]:=by apply Array.ext'; exact ht
     rw [z0j ho hc,ha2,ht2]
     simp [builtin,Builtin.len_,run_underlying hu,hq,goInt]
   ·cases e
  ·rename_i x y hc ha
   split at e
   ·rename_i k k' h1 h2
    cases e
    obtain ⟨m,vx⟩:=z3w (h x) h1
    obtain ⟨m',vy⟩:=z3w (h y) h2
    have ha2:c.args = #[x,y]:=by apply Array.ext'; exact ha
    refine ⟨.int k (min m m'),?_,minR_out (vx ▸ h x) (vy ▸ h y)⟩
    rw [z0j ho hc,ha2]
    simp only [List.map_toArray,List.map_cons,List.map_nil,builtin,Sem.run_bind,vx,vy,Lib.run_min_ints]
    rfl
   ·cases e
  ·rename_i x y hc ha
   split at e
   ·rename_i k k' h1 h2
    cases e
    obtain ⟨m,vx⟩:=z3w (h x) h1
    obtain ⟨m',vy⟩:=z3w (h y) h2
    have ha2:c.args = #[x,y]:=by apply Array.ext'; exact ha
    refine ⟨.int k (max m m'),?_,maxR_out (vx ▸ h x) (vy ▸ h y)⟩
    rw [z0j ho hc,ha2]
    simp only [List.map_toArray,List.map_cons,List.map_nil,builtin,Sem.run_bind,vx,vy,Lib.run_max_ints]
    rfl
   ·cases e
  ·cases e
 ·cases e
theorem z2x (h:∀ x:Operand,Vr E w (opV T x) (a.eval x)) (hR:Rel E w) {f:Eff} (e:zai P T nx o = some f):zfu P E w (execOp a.eval o) nx f:=by
 unfold zai at e
 split at e
 ·rename_i v hv
  cases e
  obtain ⟨u,rfl,hrun⟩:=zah h hv
  exact Out.pure hR hrun (.lit u)
 ·rw [Option.map_eq_some_iff] at e
  obtain ⟨v,hv,rfl⟩:=e
  obtain ⟨u,hrun,hu⟩:=zg4 (w:=w) h hv
  exact Out.pure hR hrun hu
theorem store_out {t:TypeId} {tb:TypeId × Nat} {x y:Operand} {r off z:Nat} {cs:List V} (hR:Rel E w) (ho:o.op = .store t x y) (hx:Vr E w (.ptr r off) (a.eval x)) (hy:Vr E w (opV T y) (a.eval y)) (hz:z2a P t = some z) (hr:E.H r = some (.cells tb cs)) (h1:(opV T y).cells.length = z) (h2:off + z≤cs.length) (h3:oks (opV T y).cells = true) :
  Out P E w (execOp a.eval o) (.lit undef) [(r,some (.cells tb (setC off (opV T y).cells cs)))] nx nx:=by
 have hp:=hx.ptr_live hr
 have hv:=hy.cells (zhs h3)
 have hvl:(a.eval y).cells.size = z:=by have:=hv.len; simp at this; omega
 obtain ⟨vs,fr,k1,kf,k2,k3,k4,k5⟩:=hR.store hr (off:=off) (by omega) hv h3
 obtain ⟨i,hi,rfl⟩:=z0s hz
 have hst:=z10 P (E.μ r).1 ((E.μ r).2 + off) _ fr vs.size kf (a.eval y).cells.toList 0 vs w rfl k1 (by simp [hvl]; omega) k3
 simp only [Nat.add_zero] at hst
 refine ⟨undef,_,_,.inr ⟨?_,rfl⟩,.lit _,k4,k5,rfl,fun q=>⟨.inl,fun q'=>q'.elim id fun q'=>by omega⟩⟩
 simp only [execOp,ho,hp,Instr.storeAt,Instr.sureAddr]
 simp [storeVar,sizeOf,typeInfo,hi,hvl,hst]
theorem clear_out {c:Call} {t e:TypeId} {x:Operand} {r off z len:Nat} {f:Eff} (hR:Rel E w) (hG:∀ r ob,G r = some ob->E.H r = some ob) (ho:o.op = .call c) (hc:c.callee = .builtin .clear) (hx:c.args = #[x]) (ht:c.argTypes = #[t]) (hu:P.underlying t = some (.slice e)) (hv:Vr E w (.sl r off z len) (a.eval x)) (he:clearE P G nx r off z len e = some f):zfu P E w (execOp a.eval o) nx f:=by
 obtain ⟨A,cap,hp,hU,h0,hlc,hm,hlv⟩:=hv.sl_inv
 have hrun:(execOp a.eval o).run P w = (do Builtin.clear_ #[t] o.type #[.slice A len cap] >>= fun v=>Pure.pure (Next.value v):Sem Next).run P w:=by
  rw [z0j ho hc,hx,ht]
  simp [builtin,hp]
 unfold clearE at he
 split at he
 ·rename_i hl
  cases he
  subst hl
  refine Out.pure hR (u:=undef) ?_ (.lit _)
  rw [hrun]
  simp [Builtin.clear_,run_underlying hu]
  cases A <;> rfl
 ·rename_i hl
  split at he
  ·rename_i zs tb cs hz hr
   dsimp only at he
   split at he
   ·rename_i hcc
    cases he
    obtain ⟨i,zv,hi,hzv,rfl⟩:=z52 hz
    have hr':=hG r _ hr
    obtain ⟨_,hA,_⟩:=hlv (by rw [hr']; rfl)
    have hA:=hA (by omega)
    subst hA
    obtain ⟨vs,fr,k1,kf,k2,k3,k4,k5⟩:=hR.store hr' (off:=off) hcc.1 (Vrs.lits (E:=E) (w:=w) _) hcc.2
    have hst:=z10 P (E.μ r).1 ((E.μ r).2 + off) _ fr vs.size kf (Builtin.zeroCells zv.cells len).toList 0 vs w rfl k1 (by have:=hcc.1; simp at this ⊢; omega) k3
    simp only [Nat.add_zero] at hst
    refine ⟨undef,_,_,.inl ?_,.lit _,k4,k5,rfl,fun q=>⟨.inl,fun q'=>q'.elim id fun q'=>by omega⟩⟩
    rw [hrun]
    obtain ⟨l',rfl⟩:∃ l',len = l' + 1:=⟨len - 1,by omega⟩
    simp [Builtin.clear_,run_underlying hu,zeroValue,typeInfo,hi,hzv,hst]
    rfl
   ·cases he
  ·cases he
theorem copy_out {c:Call} {t t' e:TypeId} {x y:Operand} {r off z len:Nat} {f:Eff} (hR:Rel E w) (hG:∀ r ob,G r = some ob->E.H r = some ob) (ho:o.op = .call c) (hc:c.callee = .builtin .copy) (hxy:c.args = #[x,y]) (ht:c.argTypes = #[t,t']) (hu:P.underlying t = some (.slice e)) (hz:z2a P e = some z) (hs:z4o (opV T y) = true) (hv:Vr E w (.sl r off z len) (a.eval x)) (hy:Vr E w (opV T y) (a.eval y)) (he:copyE G nx r off z len (opV T y) = some f):zfu P E w (execOp a.eval o) nx f:=by
 obtain ⟨A,cap,hp,hU,h0,hlc,hm,hlv⟩:=hv.sl_inv
 obtain ⟨i,hi,rfl⟩:=z0s hz
 unfold copyE at he
 split at he
 ·cases he
 split at he
 ·rename_i news tb cs hn hr
  dsimp only at he
  split at he
  ·rename_i hle
   cases he
   have hr':=hG r _ hr
   obtain ⟨us,B,cy,hyv,hnl,hus,husl,hus1,hnone,husA⟩:=zq3 h0 hR hG hy (fun s q=>by rw [q] at hs; cases hs) hn
   generalize news.length / i.size = N at *
   have hmin:(min N len) * i.size≤news.length:=by rw [hnl]; exact Nat.mul_le_mul_right _ (Nat.min_le_left _ _)
   have hmin2:(min N len) * i.size≤len * i.size:=Nat.mul_le_mul_right _ (Nat.min_le_right _ _)
   have htk:(news.take ((min N len) * i.size)).length = (min N len) * i.size:=by rw [List.length_take]; omega
   obtain ⟨⟨ad,hAd,hbk⟩,hA,_⟩:=hlv (by rw [hr']; rfl)
   have hon:oks (news.take ((min N len) * i.size)) = true:=List.all_eq_true.2 fun c hc=>List.all_eq_true.1 hnone c (List.mem_of_mem_take hc)
   obtain ⟨vs,fr,k1,kf,k2,k3,k4,k5⟩:=hR.store hr' (off:=off) (new:=news.take ((min N len) * i.size)) (us:=us.take ((min N len) * i.size)) (by rw [htk]; omega) (hus.take _) hon
   have hul:(us.take ((min N len) * i.size)).length = (min N len) * i.size:=by rw [List.length_take,husl,← hnl]; omega
   have hst:=z10 P (E.μ r).1 ((E.μ r).2 + off) _ fr vs.size kf (us.take ((min N len) * i.size)) 0 vs w rfl k1 (by rw [hul]; omega) k3
   simp only [Nat.add_zero] at hst
   have hfirst:(Builtin.firstCells i.size (min N len) (.slice B N cy)).run P w = .ok (us.take ((min N len) * i.size)).toArray w:=by
    by_cases hN:0 < N
    ·obtain ⟨b,rfl,hcell⟩:=husA hN
     refine run_firstCells_some (P:=P) w i.size (min N len) b N cy _ hul fun j v hj=>?_
     rw [List.getElem?_take] at hj
     split at hj
     ·exact hcell j v hj
     ·cases hj
    ·have hN0:N = 0:=by omega
     subst hN0
     simp only [Nat.zero_min,Nat.zero_mul,List.take_zero]
     cases B <;> simp [Builtin.firstCells,loadCells,loadCellsFrom]
   have hrun:∀ w',(storeCells ad (us.take ((min N len) * i.size))).run P w = .ok () w'->(execOp a.eval o).run P w = .ok (.value (.int .i64 (min N len:Nat))) w':=by
    intro w' hw
    subst hAd
    rw [z0j ho hc,hxy,ht]
    simp [builtin,hp,hyv,Builtin.copy_,run_underlying hu,Builtin.lenOf,sizeOf,typeInfo,hi,goInt]
    have e:N.min len = min N len:=rfl
    rw [e,hfirst]
    simp [hw]
   by_cases hz0:(min N len) * i.size = 0
   ·have hu0:us.take ((min N len) * i.size) = []:=by rw [hz0]; rfl
    have hn0:news.take ((min N len) * i.size) = []:=by rw [hz0]; rfl
    rw [hu0] at hrun k4 k5
    rw [hn0] at k4 k5
    have hw0:=hrun w rfl
    have hset:setC off [] cs = cs:=by
     unfold setC
     simp
    have hHe:upd E.H r (some (.cells tb (setC off [] cs))) = E.H:=by
     rw [hset]
     funext q
     by_cases e:q = r
     ·subst e; rw [z03,hr']
     ·rw [z04 _ _ e]
    rw [hn0]
    refine ⟨_,w,E,.inl hw0,.lit _,hR,Step.refl _ _,hHe.symm,fun q=>⟨.inl,fun q'=>q'.elim id fun q'=>by omega⟩⟩
   ·have hcap:0 < cap:=by
     have hlp:0 < min N len:=by
      rcases Nat.eq_zero_or_pos (min N len) with q | q
      ·rw [q,Nat.zero_mul] at hz0; exact absurd rfl hz0
      ·exact q
     have:=Nat.min_le_right N len
     omega
    have:=hA hcap
    rw [hAd] at this
    cases this
    exact ⟨_,_,_,.inl (hrun _ hst),.lit _,k4,k5,rfl,fun q=>⟨.inl,fun q'=>q'.elim id fun q'=>by omega⟩⟩
  ·cases he
 ·cases he
theorem zct {c:Call} {t t' kt et:TypeId} {x k:Operand} {r:Nat} {es:List (Value × V)} {kd:TypeDesc} {kv:Value} {f:Option (Nat × V)} (hR:Rel E w) (ho:o.op = .call c) (hc:c.callee = .builtin .delete) (hxy:c.args = #[x,k]) (hts:c.argTypes = #[t,t']) (hx:Vr E w (.mp r) (a.eval x)) (hk:Vr E w (.lit kv) (a.eval k)) (ht:P.underlying t = some (.map kt et)) (hr:E.H r = some (.map es))
  (hkd:z4r P kt = some kd) (hok:za8 kd kv = true) (hf:z84 kd kv es 0 = some f) :
  Out P E w (execOp a.eval o) (.lit undef) [(r,some (.map (match f with
   | some (i,_)=>es.eraseIdx i
   | none=>es)))] nx nx:=by
 have hu:=hx.mp_live hr
 have hkv:=hk.lit_inv
 obtain ⟨ms,clk,hb,hs,hl,hm⟩:=hR.map hr
 have hkt:=z4q hkd
 have hik:=ze9 hok
 have hfo:=z8e (E:=E) (w:=w) (kd:=kd) (k:=kv) es ms.toList 0 (by simpa using hl) fun j e m he hm'=>hm j e m he (by simpa using hm')
 have hrun0:∀ w',(Builtin.delete_ #[t,t'] o.type #[.map (some (E.μ r).1),kv]).run P w = .ok (.tuple #[]) w'->(execOp a.eval o).run P w = .ok (.value undef) w':=by
  intro w' h
  rw [z0j ho hc,hxy,hts]
  simp [builtin,hu,hkv,h]
  rfl
 have fin:∀ (es':List (Value × V)) (ms':Array MapEntry),(Builtin.delete_ #[t,t'] o.type #[.map (some (E.μ r).1),kv]).run P w = .ok (.tuple #[]) { w with heap:=w.heap.setIfInBounds (E.μ r).1 (.map ms' clk) }->ObR E w (E.μ r).2 (.map es') (.map ms' clk)->Out P E w (execOp a.eval o) (.lit undef) [(r,some (.map es'))] nx nx:=by
  intro es' ms' hrun hob
  obtain ⟨h1,h2⟩:=hR.write hr hb (w':={ w with heap:=w.heap.setIfInBounds (E.μ r).1 (.map ms' clk) }) ⟨rfl,rfl,rfl,by simp,fun q hq=>(Go.MapKept.heap_set hb).2 q hq⟩ (Go.MapKept.heap_set hb).1 (fun _ _ _ e=>by cases e) hob
  exact ⟨undef,_,_,.inl (hrun0 _ hrun),.lit _,h1,h2,rfl,fun q=>⟨.inl,fun q'=>q'.elim id fun q'=>by omega⟩⟩
 cases f with
 | none =>
  obtain ⟨f1,f2⟩:=hfo.1 hf
  refine fin _ ms ?_ ⟨hs,hl,hm⟩
  simp [Builtin.delete_,run_underlying ht,Go.MapKept.run_getObj_map hb,Go.MapKept.run_checkKey hkt hik,Go.MapKept.run_findKey hkt f1,Go.MapKept.run_setObj_map _ hb]
 | some p =>
  obtain ⟨j,v⟩:=p
  obtain ⟨m0,_,g2,g3,_,f1⟩:=hfo.2 j v hf
  rw [Nat.sub_zero,Array.getElem?_toList] at g2
  have hjm:=(Array.getElem?_eq_some_iff.1 g2).1
  have hel:(ms.eraseIdxIfInBounds j).toList = ms.toList.eraseIdx j:=by
   simp [Array.eraseIdxIfInBounds,hjm]
  refine fin _ (ms.eraseIdxIfInBounds j) ?_ ⟨Go.MapKept.stamped_erase hs j,?_,fun i e m he hm'=>?_⟩
  ·simp [Builtin.delete_,run_underlying ht,Go.MapKept.run_getObj_map hb,Go.MapKept.run_checkKey hkt hik,Go.MapKept.run_findKey hkt f1,Go.MapKept.run_setObj_map _ hb]
  ·have hsz:(ms.eraseIdxIfInBounds j).size = ms.size - 1:=by
    rw [← Array.length_toList,hel,List.length_eraseIdx]
    simp [hjm]
   rw [hsz,List.length_eraseIdx,hl,if_pos hjm]
  ·rw [← Array.getElem?_toList,hel,List.getElem?_eraseIdx] at hm'
   rw [List.getElem?_eraseIdx] at he
   split at he
   ·rename_i hlt
    rw [if_pos hlt] at hm'
    exact hm i e m he (by simpa using hm')
   ·rename_i hlt
    rw [if_neg hlt] at hm'
    exact hm _ e m he (by simpa using hm')
theorem ze2 {c:Call} {v:V} (h:c.args.toList.map (opV T) = [v]):∃ x,c.args = #[x]∧opV T x = v:=by
 cases hc:c.args.toList with
 | nil=>rw [hc] at h; simp at h
 | cons x l =>
  rw [hc] at h
  cases l with
  | nil=>exact ⟨x,by apply Array.ext'; exact hc,by simpa using h⟩
  | cons y l=>simp at h
theorem zl1 {c:Call} {t:TypeId} (h:c.argTypes.toList = [t]):c.argTypes = #[t]:=by apply Array.ext'; exact h
theorem z5t {c:Call} {v u:V} (h:c.args.toList.map (opV T) = [v,u]):∃ x y,c.args.toList = [x,y]∧opV T x = v∧opV T y = u:=by
 cases hc:c.args.toList with
 | nil=>rw [hc] at h; simp at h
 | cons x l =>
  rw [hc] at h
  cases l with
  | nil=>simp at h
  | cons y l =>
   cases l with
   | nil=>exact ⟨x,y,rfl,by simpa using h⟩
   | cons=>simp at h
theorem zfs {e:TypeId} {z bytes:Nat} {x y:V} {f:Eff} (h:appE G nx e z bytes x y = some f):match f with
  | .val ..=>True
  | _=>False:=by
 unfold appE at h
 dsimp only at h
 repeat' split at h
 all_goals first | (cases h; done) | (cases h; trivial)
theorem isG {G:Nat->Option Ob} (hG:∀ r ob,G r = some ob->E.H r = some ob) {r:Nat} (h:(G r).isSome = true):(E.H r).isSome = true:=by
 obtain ⟨ob,hob⟩:=Option.isSome_iff_exists.1 h
 rw [hG r ob hob]; rfl
theorem z7p:∀ {cs:List V} {l:List UInt8},ziv cs = some l->l.length = cs.length∧∀ (j:Nat) (b:UInt8),l[j]? = some b->cs[j]? = some (.lit (.int .u8 b.toNat))
 | [],l,h=>by cases h; exact ⟨rfl,fun j b h=>by simp at h⟩
 | c :: cs,l,h=>by
  unfold ziv at h
  split at h
  ·rename_i heq; exact absurd heq (by simp)
  ·rename_i n r heq
   cases heq
   split at h
   ·rename_i r' hr hn
    cases h
    rw [decide_eq_true_eq] at hn
    obtain ⟨g1,g2⟩:=z7p hr
    refine ⟨by simp [g1],fun j x hj=>?_⟩
    cases j with
    | zero =>
     cases hj
     have e:((UInt8.ofNat n.toNat).toNat:Int) = n:=by
      rw [show (UInt8.ofNat n.toNat).toNat = n.toNat % 256 from UInt8.toNat_ofNat' ..]
      omega
     rw [e]; rfl
    | succ j=>simpa using g2 j x (by simpa using hj)
   ·cases h
  ·cases h
theorem convE_out {src dst:TypeId} {x:Operand} {f:Eff} (hR:Rel E w) (hnx:¬ E.U nx) (hG:∀ r ob,G r = some ob->E.H r = some ob) (ho:o.op = .convert src dst x) (h:∀ x:Operand,Vr E w (opV T x) (a.eval x)) (e:convE P T G nx src dst x o = some f):zfu P E w (execOp a.eval o) nx f:=by
 unfold convE at e
 have hxv:=h x
 split at e
 ·rename_i s el hx hs hd
  split at e
  ·rename_i he
   split at e
   ·rename_i hsz
    cases e
    rw [hx] at hxv
    have hv:=hxv.lit_inv
    have hrun:(execOp a.eval o).run P w = .ok (.value (.slice (some ⟨w.heap.size,0,none⟩) s.size (grownCap w s.size 0 el)))
      (w.drew.alloc (.cells (bytesRow s (grownCap w s.size 0 el)) el ((bytesRow s (grownCap w s.size 0 el)).size,(bytesRow s (grownCap w s.size 0 el)).size + 1))):=by
     have:=run_bytes_of_string (P:=P) w src dst el s hs hd he
     simp [execOp,ho,hv,this]
    obtain ⟨hR2,hS2⟩:=hR.drew
    have hcap:=z45 (w:=w) (old:=0) (e:=el) (need:=s.size) (by omega)
    have hbs:(bytesRow s (grownCap w s.size 0 el)).size = grownCap w s.size 0 el:=by
     unfold bytesRow
     simp only [Array.size_append,Array.size_map,Array.size_replicate]
     have:s.data.size = s.size:=rfl
     omega
    refine Out.made2 (ups0:=[]) hR2 hS2 rfl rfl hnx hrun ⟨.inr rfl,⟨?_,fun _=>rfl,rfl,fun q=>absurd q (show ¬ (2:Nat) < 2 by decide),fun q=>absurd q (show ¬ (2:Nat) = 0 by decide)⟩,fun j c hc=>?_⟩ (z99 (by decide) hcap.1 hcap.2 (by rw [hbs,Nat.mul_one]))
    ·rw [hbs]; simp; exact hcap.1
    ·rw [List.getElem?_map,Option.map_eq_some_iff] at hc
     obtain ⟨b,hb,rfl⟩:=hc
     refine ⟨rfl,.int .u8 b.toNat,?_,.lit _⟩
     have hj:=(List.getElem?_eq_some_iff.1 hb).1
     rw [Array.getElem?_toList] at hb
     unfold bytesRow
     rw [Nat.zero_add,Array.getElem?_append_left (by simpa using hj),Array.getElem?_map,hb]
     rfl
   ·cases e
  ·cases e
 ·rename_i r off z len el hx hs hd
  split at e
  ·rename_i tb cs he hg
   split at e
   ·rename_i hc
    obtain ⟨rfl,h0,hle⟩:=hc
    rw [Option.map_eq_some_iff] at e
    obtain ⟨l,hl,rfl⟩:=e
    rw [hx] at hxv
    obtain ⟨A,cap,hu,hU,_,hlc,hm,hlv⟩:=hxv.sl_inv
    obtain ⟨_,hA,_⟩:=hlv (by rw [hG _ _ hg]; rfl)
    have hA:=hA (by omega)
    subst hA
    obtain ⟨g1,g2⟩:=z7p hl
    have hll:l.length = len:=by rw [g1]; simp; omega
    subst hll
    refine Out.pure hR (u:=.string ⟨l.toArray⟩) ?_ (.lit _)
    have:=run_convert_bytes_back (P:=P) w src dst el ⟨(E.μ r).1,(E.μ r).2 + off,none⟩ cap l hs he hd (fun j hj=>by
     have hcs:=g2 j l[j] (List.getElem?_eq_getElem hj)
     rw [List.getElem?_take,if_pos hj,List.getElem?_drop] at hcs
     obtain ⟨u,q1,q2⟩:=hR.cell (hG _ _ hg) hcs
     rw [q2.lit_inv] at q1
     rw [z4b,Nat.add_assoc]; exact q1)
    simp [execOp,ho,hu,this]
   ·cases e
  ·cases e
 ·exact z2x h hR e
theorem ze8 {e:TypeId} (hc:P.cellsOf e = 1) (count off n:Nat) (hn:off + n≤count):liesAt P P.depth e count off e n = true:=by
 have hd:P.depth = (2 * (P.types.size + Made.depth) + 1) + 1:=rfl
 rw [hd]
 simp only [liesAt,Bool.or_eq_true]
 left
 rw [hd]
 simp [rowAt,hc,hn,sameLayout,Nat.mod_one]
theorem Rel.killw {E:Mx} {w w':World} (h:Rel E w) {r:Nat} {ob:Ob} (hr:E.H r = some ob) (hw:Only (E.μ r).1 w w'):Rel (E.kill r) w'∧Step E w (E.kill r) w':=by
 obtain ⟨hk,ks⟩:=h.kill r
 have hs:∀ s ob,(E.kill r).H s = some ob->E.H s = some ob∧(E.μ s).1 ≠ (E.μ r).1:=fun s ob' hs=>by
  have hs':upd E.H r none s = some ob':=hs
  by_cases e:s = r
  ·subst e; rw [z03] at hs'; cases hs'
  ·rw [z04 _ _ e] at hs'
   exact ⟨hs',fun q=>e (h.inj s r ob' ob hs' hr q)⟩
 have k:Step E w (E.kill r) w':=by
  refine ⟨hw.os,hw.tape,hw.output,Nat.le_of_eq hw.size.symm,fun _ h=>h,fun _ _=>rfl,fun s _ hl=>?_,fun g hg hu=>hw.block g fun e=>hu r ob hr e.symm,fun g _ hu s ob' hs'=>hu s ob' (hs s ob' hs').1,fun s _ hl vs ty fr e=>?_⟩
  ·obtain ⟨ob',hob⟩:=Option.isSome_iff_exists.1 hl
   rw [(hs s ob' hob).1]; rfl
  ·obtain ⟨ob',hob⟩:=Option.isSome_iff_exists.1 hl
   exact ⟨vs,ty,fr,by rw [hw.block _ (hs s ob' hob).2]; exact e,rfl⟩
 refine ⟨⟨fun s ob' q=>h.used s ob' (hs s ob' q).1,fun s s' x x' q q' e=>h.inj s s' x x' (hs s x q).1 (hs s' x' q').1 e,fun s ob' q=>?_⟩,k⟩
 obtain ⟨o',h1,h2⟩:=h.obj s ob' (hs s ob' q).1
 exact ⟨o',by rw [show (E.kill r).μ s = E.μ s from rfl,hw.block _ (hs s ob' q).2]; exact h1,h2.step k⟩
theorem unsStr_out {c:Call} {x y:Operand} {t t':TypeId} {r off:Nat} {n:Int} {f:Eff} (hR:Rel E w) (hG:∀ r ob,G r = some ob->E.H r = some ob) (ho:o.op = .call c) (hc:c.callee = .builtin .unsafeString) (hxy:c.args = #[x,y]) (ht:c.argTypes = #[t,t'])
  (hx:Vr E w (.ptr r off) (a.eval x)) (hy:Vr E w (.lit (.int .i64 n)) (a.eval y)) (he:zj4 P G nx r off n t = some f):zfu P E w (execOp a.eval o) nx f:=by
 unfold zj4 at he
 split at he
 case h_2=>cases he
 rename_i e tb cs hp hg
 split at he
 case isFalse=>cases he
 rename_i hcc
 obtain ⟨⟨hte,hce,rfl⟩,h0,h1,h2⟩:=hcc
 rw [Option.map_eq_some_iff] at he
 obtain ⟨l,hl,rfl⟩:=he
 have hr:=hG r _ hg
 have hpx:=hx.ptr_live hr
 have hyv:=hy.lit_inv
 obtain ⟨g1,g2⟩:=z7p hl
 have hll:l.length = n.toNat:=by rw [g1]; simp; omega
 obtain ⟨ob,w1,x1⟩:=hR.obj _ _ hr
 cases ob <;> try exact x1.elim
 rename_i vs ty fr
 obtain ⟨_,⟨x2,_,hty,_⟩,_⟩:=x1
 rw [hte] at hty
 subst hty
 have hcell:∀ j x,l[j]? = some x->w.cell? ((⟨(E.μ r).1,(E.μ r).2,none⟩:Addr).add j) = some (.int .u8 x.toNat):=by
  intro j b hj
  have hcs:=g2 j b hj
  have hjl:=(List.getElem?_eq_some_iff.1 hj).1
  rw [List.getElem?_take,if_pos (by omega)] at hcs
  obtain ⟨u,q1,q2⟩:=hR.cell hr hcs
  rw [q2.lit_inv] at q1
  rw [z4b]; exact q1
 have hsh:w.shape? (E.μ r).1 = some (ty,vs.size):=by simp [World.shape?,w1]
 have hlb:=Lib.run_loadBytes (P:=P) w l ⟨(E.μ r).1,(E.μ r).2,none⟩ .empty hcell
 have hlies:=ze8 (P:=P) hce (vs.size / P.cellsOf ty) (E.μ r).2 l.length (by rw [hce]; simp; omega)
 have hn:n = (l.length:Int):=by omega
 have hne:¬ l.length = 0:=by omega
 have hrun:(Builtin.unsafeString_ #[t,t'] o.type #[.pointer (some ⟨(E.μ r).1,(E.μ r).2,none⟩),.int .i64 l.length]).run P w = .ok (.string ⟨l.toArray⟩) (w.freeze ⟨(E.μ r).1,(E.μ r).2,none⟩ l.length):=by
  have hdef:Builtin.unsafeString_ #[t,t'] o.type #[.pointer (some ⟨(E.μ r).1,(E.μ r).2,none⟩),.int .i64 l.length] =
   (do
    let n ← asInt (.int .i64 l.length)
    if n < 0 then runtimePanic (.error "unsafe.String: len out of range")
    if n > IntKind.i64.max then unsupported (.unsafePointer "String: a length above the largest int")
    if n = 0 then pure (.string .empty)
    else if ← variablesAt ⟨(E.μ r).1,(E.μ r).2,none⟩ (← elemOf t) n.toNat then do
     let s ← loadBytes ⟨(E.μ r).1,(E.μ r).2,none⟩ .empty n.toNat
     freeze ⟨(E.μ r).1,(E.μ r).2,none⟩ n.toNat
     pure (.string s)
    else unsupported (.unsafePointer "String: not so many bytes at ptr")):=rfl
  rw [hdef]
  have hmax:IntKind.i64.max = 9223372036854775807:=rfl
  have hneg:¬ (l.length:Int) < 0:=by omega
  have h63':¬ (9223372036854775807:Int) < (l.length:Int):=by omega
  simp [asInt,asIntOf,hmax,h63',hneg,hne,variablesAt,hsh,elemOf,run_underlying hp,hlies,hlb]
 obtain ⟨k1,k2⟩:=hR.killw hr (w':=w.freeze ⟨(E.μ r).1,(E.μ r).2,none⟩ l.length) (by
  unfold World.freeze
  rw [if_neg hne]
  exact ⟨rfl,rfl,rfl,by simp,fun k hk=>by simp only [Array.getElem?_modify]; rw [if_neg (Ne.symm hk)]⟩)
 refine ⟨.string ⟨l.toArray⟩,_,_,.inl ?_,.lit _,k1,k2,rfl,fun q=>⟨.inl,fun q'=>q'.elim id fun q'=>by omega⟩⟩
 rw [z0j ho hc,hxy,ht]
 simp only [List.map_toArray,List.map_cons,List.map_nil,builtin,Sem.run_bind,hpx,hyv,hn,Nat.add_zero,hrun]
 rfl
theorem slData_out {c:Call} {x:Operand} {r off z len:Nat} (hR:Rel E w) (ho:o.op = .call c) (hc:c.callee = .builtin .unsafeSliceData) (hx:c.args = #[x]) (hv:Vr E w (.sl r off z len) (a.eval x)) (h0:0 < len) (hl:(E.H r).isSome):Out P E w (execOp a.eval o) (.ptr r off) [] nx nx:=by
 obtain ⟨A,cap,hp,hU,_,hlc,hm,hlv⟩:=hv.sl_inv
 have hA:=(hlv hl).2.1 (by omega)
 subst hA
 refine Out.pure hR (u:=.pointer (some ⟨(E.μ r).1,(E.μ r).2 + off,none⟩)) ?_ (.ptr _ _ _ hU fun _=>rfl)
 rw [z0j ho hc,hx]
 have:=Lib.run_unsafeSliceData_row (P:=P) w c.argTypes o.type ⟨(E.μ r).1,(E.μ r).2 + off,none⟩ len cap (by omega)
 simp only [List.map_toArray,List.map_cons,List.map_nil,builtin,Sem.run_bind,hp,this]
 rfl
theorem zlg {t:TypeId} (h:isStrT P t = true):P.underlying t = some .string:=by
 unfold isStrT at h
 split at h
 ·assumption
 ·cases h
theorem zhx {t:TypeId} {x k y:Operand} {f:Eff} (hR:Rel E w) (hG:∀ r ob,G r = some ob->E.H r = some ob) (ho:o.op = .mapUpdate t x k y∨o.op = .insert t x k y) (h:∀ x:Operand,Vr E w (opV T x) (a.eval x)) (e:mapUE P T G nx t x k y = some f):zfu P E w (execOp a.eval o) nx f:=by
 unfold mapUE at e
 split at e
 ·rename_i r kt et hx ht
  split at e
  ·rename_i es kd kv hr hkd hk
   split at e
   ·cases e
   ·rename_i hok
    have hok:za8 kd kv = true:=by simpa using hok
    have hxv:=h x
    rw [hx] at hxv
    have hkv:=h k
    rw [hk] at hkv
    split at e
    ·rename_i j v hf
     cases e
     exact z6n hR ho hxv hkv (h y) ht (hG r _ hr) hkd hok hf
    ·rename_i hf
     cases e
     exact z6n hR ho hxv hkv (h y) ht (hG r _ hr) hkd hok hf
    ·cases e
  ·cases e
 ·cases e
set_option maxHeartbeats 4000000 in
theorem zhq (hR:Rel E w) (hnx:¬ E.U nx) (h:∀ x:Operand,Vr E w (opV T x) (a.eval x)) (hG:∀ r ob,G r = some ob->E.H r = some ob) {f:Eff} (e:op1 P T G nx o = some f):zfu P E w (execOp a.eval o) nx f:=by
 unfold op1 at e
 dsimp only at e
 split at e
 ·rename_i x ho
  cases e
  exact Out.pure hR (by simp [execOp,ho]) (h x)
 ·rename_i x ho
  cases e
  exact Out.pure hR (by simp [execOp,ho]) (h x)
 ·rename_i c x y ho
  split at e
  ·rename_i t ht
   cases e
   have hc:=h c
   rw [ht] at hc
   refine Out.pure hR (u:=if t then a.eval x else a.eval y) (by simp [execOp,ho,hc.lit_inv,asBool]) ?_
   cases t
   ·exact h y
   ·exact h x
  ·cases e
 ·rename_i t ho
  split at e
  ·rename_i cs hz
   split at e
   ·rename_i h1; cases e; exact alloc_out hR hnx ho hz h1
   ·cases e
  ·cases e
 ·rename_i t x ho
  split at e
  ·rename_i h1; cases e; exact box_out hR hnx ho (h x) h1
  ·cases e
 ·rename_i t parts ho
  rw [Option.map_eq_some_iff] at e
  obtain ⟨v,hv,rfl⟩:=e
  exact build_out hR ho h hv
 ·rename_i t len parts ho
  split at e
  ·rename_i el ht
   split at e
   ·rename_i z zs hz hzs
    split at e
    ·rename_i hc
     cases e
     obtain ⟨c1,rfl,c3⟩:=hc
     exact zfo hR hnx ho c3 ht hz c1
    split at e
    ·rename_i hc
     split at e
     ·rename_i cs hf
      split at e
      ·rename_i h1
       cases e
       rw [Bool.and_eq_true,beq_iff_eq] at h1
       exact zbc hR hnx ho h ht hz hzs hc hf h1.1 h1.2
      ·cases e
     ·cases e
    ·cases e
   ·cases e
  ·cases e
 ·rename_i t x ho
  split at e
  ·rename_i r off agg z hx ha hz
   split at e
   ·rename_i _ cs hr
    rw [Option.map_eq_some_iff] at e
    obtain ⟨v,hv,rfl⟩:=e
    have hxv:=h x
    rw [hx] at hxv
    obtain ⟨u,h1,h2⟩:=ze7 hR hxv ha hz (hG r _ hr) hv
    exact Out.pure hR (by simp only [execOp,ho,Sem.run_bind,h1]; rfl) h2
   ·cases e
  ·cases e
 ·rename_i t x y ho
  split at e
  ·rename_i r off z hx hz
   split at e
   ·rename_i _ cs hr
    split at e
    ·rename_i hc
     cases e
     rw [Bool.and_eq_true,Bool.and_eq_true,beq_iff_eq,decide_eq_true_eq] at hc
     have hxv:=h x
     rw [hx] at hxv
     exact store_out hR ho hxv (h y) hz (hG r _ hr) hc.1.1 hc.1.2 hc.2
    ·cases e
   ·cases e
  ·cases e
 ·rename_i x ho
  have hx:=h x
  split at e
  ·rename_i r off hxv
   cases e
   rw [hxv] at hx
   generalize hu:a.eval x = u at hx
   refine Out.pure hR (u:=u) ?_ hx
   cases hx
   simp [execOp,ho,hu]
  ·rename_i t v hxv
   cases e
   rw [hxv] at hx
   generalize hu:a.eval x = u at hx
   refine Out.pure hR (u:=u) ?_ hx
   cases hx
   simp [execOp,ho,hu]
  ·rename_i g b1 b2 hxv
   cases e
   rw [hxv] at hx
   generalize hu:a.eval x = u at hx
   refine Out.pure hR (u:=u) ?_ hx
   cases hx
   simp [execOp,ho,hu]
  ·rename_i r off z len hxv
   cases e
   rw [hxv] at hx
   generalize hu:a.eval x = u at hx
   refine Out.pure hR (u:=u) ?_ hx
   cases hx
   simp [execOp,ho,hu]
  ·rename_i r hxv
   cases e
   rw [hxv] at hx
   generalize hu:a.eval x = u at hx
   refine Out.pure hR (u:=u) ?_ hx
   cases hx
   simp [execOp,ho,hu]
  ·exact z2x h hR e
 ·rename_i op t x y yt ho
  split at e
  ·rename_i v hv
   cases e
   obtain ⟨u,rfl,hrun⟩:=zah h hv
   exact Out.pure hR hrun (.lit u)
  ·split at e
   ·rename_i b hb
    cases e
    exact eq_out hR (.inl rfl) ho h hG hb
   ·rename_i b hb
    cases e
    exact eq_out hR (.inr rfl) ho h hG hb
   ·rw [Option.map_eq_some_iff] at e
    obtain ⟨v,hv,rfl⟩:=e
    obtain ⟨u,hrun,hu⟩:=zg4 (w:=w) h hv
    exact Out.pure hR hrun hu
 ·rename_i s x f' ho
  split at e
  ·rename_i r off fs hx hs
   split at e
   ·rename_i fl hf
    split at e
    ·rename_i n hz
     cases e
     have hxv:=h x
     rw [hx] at hxv
     exact zek hR ho hxv hs hf hz
    ·cases e
   ·cases e
  ·cases e
 ·rename_i s x f' ho
  split at e
  ·rename_i cs fs hx hs
   split at e
   ·rename_i fl hf
    split at e
    ·rename_i agg z ha hz
     rw [Option.map_eq_some_iff] at e
     obtain ⟨v,hv,rfl⟩:=e
     have hxv:=h x
     rw [hx] at hxv
     exact field_out hR ho hxv hs hf ha hz hv
    ·cases e
   ·cases e
  ·exact z2x h hR e
 ·rename_i t x i ho
  split at e
  ·rename_i el r off z len n ht hx hn
   split at e
   ·rename_i hc
    cases e
    have hxv:=h x
    rw [hx] at hxv
    exact zea hR ho hxv (h i) ht hn hc.1 hc.2.1 (isG hG hc.2.2)
   ·cases e
  ·rename_i len el r off n ht hx hn
   split at e
   ·rename_i z hz
    split at e
    ·rename_i hc
     cases e
     have hxv:=h x
     rw [hx] at hxv
     exact zic hR ho hxv (h i) ht hn hz hc
    ·cases e
   ·cases e
  ·cases e
 ·rename_i t x lo hi ho
  split at e
  ·rename_i el r off z len ht hx
   split at e
   ·rename_i l hh hl hhh
    split at e
    ·rename_i hc
     cases e
     have hxv:=h x
     rw [hx] at hxv
     exact slice_out hR ho hxv h ht hl hhh hc
    ·cases e
   ·cases e
  ·exact z2x h hR e
 ·rename_i t r ho
  split at e
  ·cases e
   exact zl7 hR hnx ho
  ·cases e
 ·rename_i t x k ok ho
  split at e
  ·rename_i r kt et hx ht
   split at e
   ·rename_i es kd kv zv hr hkd hk hz
    split at e
    ·cases e
    ·rename_i hok
     have hok:za8 kd kv = true:=by simpa using hok
     have hxv:=h x
     rw [hx] at hxv
     have hkv:=h k
     rw [hk] at hkv
     split at e
     ·rename_i j v hf
      cases e
      exact zcd hR ho hxv hkv ht (hG r _ hr) hkd hz hok hf
     ·rename_i hf
      cases e
      exact zcd hR ho hxv hkv ht (hG r _ hr) hkd hz hok hf
     ·cases e
   ·cases e
  ·exact z2x h hR e
 ·rename_i t x k y ho
  exact zhx hR hG (.inl ho) h e
 ·rename_i t x k y ho
  exact zhx hR hG (.inr ho) h e
 ·rename_i src dst x ho
  exact convE_out hR hnx hG ho h e
 ·rename_i f' xs ys ho
  cases e
  exact zi1 hR ho h
 ·rename_i t x ho
  split at e
  ·cases e
  ·rename_i d hne ht
   cases e
   exact ze6 hR ho (h x) ht (fun ms q=>hne ms (by rw [← q]))
  ·cases e
 ·rename_i t x y ho
  split at e
  ·rename_i el n m ht hx hy
   split at e
   ·rename_i i zs hi hzs
    split at e
    ·rename_i hc
     cases e
     exact ze5 hR hnx ho h ht hx hy hi hzs hc
    ·cases e
   ·cases e
  ·cases e
 ·rename_i x i ho
  split at e
  ·rename_i vs hx
   rw [Option.map_eq_some_iff] at e
   obtain ⟨v,hv,rfl⟩:=e
   have hxv:=h x
   rw [hx] at hxv
   exact zlv hR ho hxv hv
  ·exact z2x h hR e
 ·rename_i x xt t ok ho
  split at e
  ·rename_i d v want hx ht
   split at e
   ·rename_i i hi
    split at e
    ·rename_i hm
     cases e
     have hxv:=h x
     rw [hx] at hxv
     exact zcv hR ho hxv (.inl ⟨want,i,ht,hi,hm,rfl⟩)
    ·cases e
   ·cases e
  ·rename_i d v ds hne hx ht
   split at e
   ·rename_i hd
    cases e
    have hxv:=h x
    rw [hx] at hxv
    exact zcv hR ho hxv (.inr ⟨ds,ht,fun m q=>hne m (by rw [← q]),hd,rfl⟩)
   ·cases e
  ·exact z2x h hR e
 ·rename_i c ho
  split at e
  ·rename_i hc
   split at e
   ·rename_i r hr
    cases e
    exact yld_out ho hc h hr
   ·rw [Option.map_eq_some_iff] at e
    obtain ⟨q,hq,rfl⟩:=e
    exact callV_out ho hc h hq
  ·rename_i hc
   rw [Option.map_eq_some_iff] at e
   obtain ⟨q,hq,rfl⟩:=e
   exact invoke_out hR hG ho hc h hq
  ·rename_i r off z len t hc ha ht
   split at e
   ·rename_i el hu
    cases e
    obtain ⟨x,hx,hxv⟩:=ze2 ha
    have hv:=h x
    rw [hxv] at hv
    generalize hq:a.eval x = u at hv
    cases hv
    refine Out.pure hR (u:=.int .i64 len) ?_ (.lit _)
    rw [z0j ho hc,hx,zl1 ht]
    simp [builtin,Builtin.len_,run_underlying hu,hq,goInt]
   ·cases e
  ·rename_i r t hc ha ht
   split at e
   ·rename_i kt et es hu hr
    cases e
    obtain ⟨x,hx,hxv⟩:=ze2 ha
    have hv:=h x
    rw [hxv] at hv
    have hq:=hv.mp_live (hG r _ hr)
    obtain ⟨ms,clk,hb,hs,hl,hm⟩:=hR.map (hG r _ hr)
    refine Out.pure hR (u:=.int .i64 es.length) ?_ (.lit _)
    rw [z0j ho hc,hx,zl1 ht]
    simp [builtin,Builtin.len_,run_underlying hu,hq,Go.MapKept.run_getObj_map hb,goInt,hl]
   ·cases e
  ·rename_i vx vy t t' hc ha ht
   split at e
   ·rename_i el hu
    split at e
    ·rename_i i hi
     split at e
     ·rename_i hc2
      obtain ⟨hz,hstr⟩:=hc2
      have hs2:(P.underlying t' = some (.slice el)∧z4o vy = true)∨(P.underlying t' = some .string∧z4o vy = false):=hstr.imp (fun q=>⟨by rw [← q.1]; exact hu,q.2⟩) (fun q=>⟨zlg q.1,q.2⟩)
      unfold zeroOk at hz
      obtain ⟨x,y,hxy,hvx,hvy⟩:=z5t ha
      subst hvx
      subst hvy
      have hzz:∃ zv,i.zero = some zv∧zv.cells.size = i.size:=by
       split at hz
       ·rename_i zv hzv; exact ⟨zv,hzv,by simpa using hz⟩
       ·cases hz
      cases f with
      | val v ups nx'=>exact app_out hR hnx hG ho hc hxy ht hu hi (h x) (h y) hs2 hzz e
      | call=>exact (zfs e).elim
      | dfr=>exact (zfs e).elim
      | yld=>exact (zfs e).elim
     ·obtain ⟨x,y,hxy,hvx,hvy⟩:=z5t ha
      subst hvx
      subst hvy
      obtain ⟨v,ups,nx',rfl,hout⟩:=appZ_out hR hnx ho hc hxy ht hu hi (h x) (h y) e
      exact hout
    ·cases e
   ·cases e
  ·rename_i r off z len hc ha
   split at e
   ·rename_i h0
    cases e
    obtain ⟨x,hx,hxv⟩:=ze2 ha
    have hv:=h x
    rw [hxv] at hv
    exact slData_out hR ho hc hx hv h0.1 (isG hG h0.2)
   ·cases e
  ·rename_i r off n t t' hc ha ht
   obtain ⟨x,y,hxy,hvx,hvy⟩:=z5t ha
   have hv:=h x
   rw [hvx] at hv
   have hy:=h y
   rw [hvy] at hy
   exact unsStr_out hR hG ho hc (by apply Array.ext'; exact hxy) (by apply Array.ext'; exact ht) hv hy e
  ·rename_i r off z len t hc ha ht
   split at e
   ·rename_i el hu
    obtain ⟨x,hx,hxv⟩:=ze2 ha
    have hv:=h x
    rw [hxv] at hv
    exact clear_out hR hG ho hc hx (zl1 ht) hu hv e
   ·cases e
  ·rename_i r off z len vy t t' hc ha ht
   split at e
   ·rename_i el hu
    split at e
    ·rename_i hcc
     obtain ⟨x,y,hxy,hvx,hvy⟩:=z5t ha
     subst hvy
     have hv:=h x
     rw [hvx] at hv
     exact copy_out hR hG ho hc (by apply Array.ext'; exact hxy) (by apply Array.ext'; exact ht) hu hcc.1 hcc.2 hv (h y) e
    ·cases e
   ·cases e
  ·rename_i r vk t t' hc ha ht
   split at e
   ·rename_i kt et hu
    split at e
    ·rename_i es kd kv hr hkd
     obtain ⟨x,y,hxy,hvx,hvy⟩:=z5t ha
     have hv:=h x
     rw [hvx] at hv
     have hkv:=h y
     rw [hvy] at hkv
     split at e
     ·cases e
     ·rename_i hok
      have hok:za8 kd kv = true:=by simpa using hok
      split at e
      ·rename_i j v hf
       cases e
       exact zct hR ho hc (by apply Array.ext'; exact hxy) (by apply Array.ext'; exact ht) hv hkv hu (hG r _ hr) hkd hok hf
      ·rename_i hf
       cases e
       exact zct hR ho hc (by apply Array.ext'; exact hxy) (by apply Array.ext'; exact ht) hv hkv hu (hG r _ hr) hkd hok hf
      ·cases e
    ·cases e
   ·cases e
  ·exact z2x h hR e
 ·rename_i c ho
  split at e
  ·rename_i hc
   rw [Option.map_eq_some_iff] at e
   obtain ⟨q,hq,rfl⟩:=e
   exact defer_out ho hc h hq
  ·cases e
 ·exact z2x h hR e
end
end Hm
end Go.Proofs.YtlhblpbfhfhlpaaGreatDoor
end
section
namespace Go.Proofs.YtlhblpbfhfhlpaaGreatDoor
open Go.RowKit
namespace Hm
theorem Tr.get_set {α : Type} {x : Option α} : ∀ (f : Nat) (t : Tr α) (n m : Nat), n + 1 < 2 ^ f → (t.set f n x).get m = if m = n then x else t.get m
  | 0, t, n, m, h => by simp at h
  | f + 1, t, n, m, h => by
    have half : ∀ k, k + 1 + 1 < 2 ^ (f + 1) → k / 2 + 1 < 2 ^ f := fun k hk => by rw [Nat.pow_succ] at hk; omega
    have e2 : ∀ k, Nat.beq (k % 2) 0 = true ↔ k % 2 = 0 := fun k => by simp
    have e3 : ∀ k, Nat.beq (k % 2) 0 = false ↔ k % 2 ≠ 0 := fun k => by rw [← Bool.not_eq_true, e2]
    cases t with
    | lf =>
      cases n with
      | zero =>
        cases m with
        | zero => simp [Tr.set, Tr.get]
        | succ m => simp only [Tr.set, Tr.get]; split <;> simp
      | succ k =>
        have hk := half k h
        simp only [Tr.set]
        cases hb : Nat.beq (k % 2) 0 with
        | true =>
          have hb' := (e2 k).1 hb
          cases m with
          | zero => simp [Tr.get]
          | succ m =>
            simp only [Tr.get]
            cases hm : Nat.beq (m % 2) 0 with
            | true =>
              have hm' := (e2 m).1 hm
              dsimp only
              rw [Tr.get_set f .lf (k / 2) (m / 2) hk]
              by_cases q : m = k
              · subst q; simp
              · rw [if_neg (by omega), if_neg (by omega)]; rfl
            | false =>
              have hm' := (e3 m).1 hm
              dsimp only
              rw [if_neg (by intro q; have : m = k := by omega
                             subst this; exact hm' hb')]
        | false =>
          have hb' := (e3 k).1 hb
          cases m with
          | zero => simp [Tr.get]
          | succ m =>
            simp only [Tr.get]
            cases hm : Nat.beq (m % 2) 0 with
            | true =>
              have hm' := (e2 m).1 hm
              dsimp only
              rw [if_neg (by intro q; have : m = k := by omega
                             subst this; exact hb' hm')]
            | false =>
              have hm' := (e3 m).1 hm
              dsimp only
              rw [Tr.get_set f .lf (k / 2) (m / 2) hk]
              by_cases q : m = k
              · subst q; simp
              · rw [if_neg (by omega), if_neg (by omega)]; rfl
    | nd l v r =>
      cases n with
      | zero =>
        cases m with
        | zero => simp [Tr.set, Tr.get]
        | succ m => simp [Tr.set, Tr.get]
      | succ k =>
        have hk := half k h
        simp only [Tr.set]
        cases hb : Nat.beq (k % 2) 0 with
        | true =>
          have hb' := (e2 k).1 hb
          cases m with
          | zero => simp [Tr.get]
          | succ m =>
            simp only [Tr.get]
            cases hm : Nat.beq (m % 2) 0 with
            | true =>
              have hm' := (e2 m).1 hm
              dsimp only
              rw [Tr.get_set f l (k / 2) (m / 2) hk]
              by_cases q : m = k
              · subst q; simp
              · rw [if_neg (by omega), if_neg (by omega)]
            | false =>
              have hm' := (e3 m).1 hm
              dsimp only
              rw [if_neg (by intro q; have : m = k := by omega
                             subst this; exact hm' hb')]
        | false =>
          have hb' := (e3 k).1 hb
          cases m with
          | zero => simp [Tr.get]
          | succ m =>
            simp only [Tr.get]
            cases hm : Nat.beq (m % 2) 0 with
            | true =>
              have hm' := (e2 m).1 hm
              dsimp only
              rw [if_neg (by intro q; have : m = k := by omega
                             subst this; exact hb' hm')]
            | false =>
              have hm' := (e3 m).1 hm
              dsimp only
              rw [Tr.get_set f r (k / 2) (m / 2) hk]
              by_cases q : m = k
              · subst q; simp
              · rw [if_neg (by omega), if_neg (by omega)]
theorem Tr.get_set20 {α:Type} {x:Option α} {t:Tr α} {n m:Nat} (h:n < 1000000):(t.set 20 n x).get m = if m = n then x else t.get m :=
 Tr.get_set 20 t n m (by omega)
theorem z2e {a b:Nat} (h:Nat.blt a b = true):a < b:=Nat.le_of_ble_eq_true h
theorem upsX_H:∀ {ups:List (Nat × Option Ob)} {nx nx':Nat} {t t':Tr Ob},upsX nx nx' ups t = some t'->t'.get = upsH ups t.get
 | [],nx,nx',t,t',h=>by cases h; rfl
 | p :: l,nx,nx',t,t',h=>by
  simp only [upsX] at h
  split at h
  ·rename_i hb0
   have hb:=(Bool.and_eq_true _ _ ▸ hb0).2
   have key:upsX nx nx' l (t.set 20 p.1 p.2) = some t'->t'.get = upsH (p :: l) t.get:=fun h=>by
    rw [upsX_H h]
    show upsH l _ = upsH l (upd t.get p.1 p.2)
    congr 1
    funext m
    rw [Tr.get_set20 (z2e hb)]
    rfl
   split at h
   ·exact key h
   ·split at h
    ·exact key h
    ·cases h
  ·cases h
theorem z8n:∀ {ups:List (Nat × Option Ob)} {nx nx':Nat} {t t':Tr Ob},upsX nx nx' ups t = some t'->∀ q,q < nx->t.get q = none->t'.get q = none∧∀ G:Nat->Option Ob,upsH ups G q = G q
 | [],nx,nx',t,t',h,q,hq,e=>by cases h; exact ⟨e,fun _=>rfl⟩
 | p :: l,nx,nx',t,t',h,q,hq,e=>by
  simp only [upsX] at h
  split at h
  ·rename_i hb0
   have hb:=(Bool.and_eq_true _ _ ▸ hb0).2
   have key:q ≠ p.1->upsX nx nx' l (t.set 20 p.1 p.2) = some t'->t'.get q = none∧∀ G:Nat->Option Ob,upsH (p :: l) G q = G q:=fun hne h=>by
    obtain ⟨k1,k2⟩:=z8n h q hq (by rw [Tr.get_set20 (z2e hb),if_neg hne]; exact e)
    refine ⟨k1,fun G=>?_⟩
    show upsH l (upd G p.1 p.2) q = G q
    rw [k2,z04 _ _ hne]
   split at h
   ·rename_i hle
    exact key (fun e=>by have:=Nat.le_of_ble_eq_true hle; omega) h
   ·split at h
    ·rename_i hs
     exact key (fun e'=>by rw [← e',e] at hs; cases hs) h
    ·cases h
  ·cases h
theorem zmp:∀ {ups:List (Nat × Option Ob)} {nx nx':Nat} {t t':Tr Ob},upsX nx nx' ups t = some t'->∀ q,nx'≤q->t'.get q = t.get q
 | [],nx,nx',t,t',h,q,hq=>by cases h; rfl
 | p :: l,nx,nx',t,t',h,q,hq=>by
  simp only [upsX] at h
  split at h
  ·rename_i hb0
   obtain ⟨hb1,hb⟩:=(Bool.and_eq_true _ _ ▸ hb0)
   have key:upsX nx nx' l (t.set 20 p.1 p.2) = some t'->t'.get q = t.get q:=fun h=>by
    rw [zmp h q hq,Tr.get_set20 (z2e hb),if_neg (by have:=z2e hb1; omega)]
   split at h
   ·exact key h
   ·split at h
    ·exact key h
    ·cases h
  ·cases h
theorem zg2:∀ {ups:List (Nat × Option Ob)} {G:Nat->Option Ob} {q:Nat},q ∉ ups.map (·.1)->upsH ups G q = G q
 | [],G,q,h=>rfl
 | p :: l,G,q,h=>by
  simp only [List.map_cons,List.mem_cons,not_or] at h
  show upsH l (upd G p.1 p.2) q = G q
  rw [zg2 h.2,z04 _ _ h.1]
theorem zg3:∀ {ups:List (Nat × Option Ob)} {F G:Nat->Option Ob},(∀ q ob,F q = some ob->G q = some ob)->∀ q ob,upsH ups F q = some ob->upsH ups G q = some ob
 | [],F,G,h,q,ob,e=>h q ob e
 | p :: l,F,G,h,q,ob,e=>by
  refine zg3 (F:=upd F p.1 p.2) (G:=upd G p.1 p.2) (fun q ob e=>?_) q ob e
  by_cases hq:q = p.1
  ·subst hq; rw [z03] at e ⊢; exact e
  ·rw [z04 _ _ hq] at e ⊢; exact h q ob e
theorem Tr.f_set {t:Tr V} {d:Nat} {v:V} (hd:d + 1 < 1024):(t.set 10 d (some v)).f = upd t.f d v:=by
 funext m
 unfold Tr.f upd
 rw [Tr.get_set 10 t d m hd]
 split <;> rfl
structure DRs (E:Mx) (w:World) (D:List (FuncId × List V)) (ds:List Deferred):Prop where
 len:D.length = ds.length
 at_:∀ (j:Nat) (x:FuncId × List V) (d:Deferred),D[j]? = some x->ds[j]? = some d->DfrR E w x d
structure SRel (E:Mx) (T:Nat->V) (D:List (FuncId × List V)) (N:Nat) (a:Act) (w:World):Prop where
 rel:Rel E w
 size:a.tmps.size = N
 tmp:∀ t,Vr E w (T t) (a.tmps.getD t undef)
 dfr:DRs E w D a.defers
structure XRel (E:Mx) (s:Sx) (N:Nat) (a:Act) (w:World):Prop where
 sr:SRel E s.T.f s.D N a w
 H:∀ q ob,s.h.H.get q = some ob->E.H q = some ob
 fr:∀ q,E.U q->q < s.h.nx
structure HStep (h h':Hx):Prop where
 nx:h.nx≤h'.nx
 dead:∀ q,q < h.nx->h.H.get q = none->h'.H.get q = none
 log:∀ q,q < h.nx->q ∉ h'.lg->h'.H.get q = h.H.get q
 keep:∀ q,q ∈ h.lg->q ∈ h'.lg
 top:∀ q,h'.nx≤q->h'.H.get q = h.H.get q
theorem HStep.refl (h:Hx):HStep h h:=⟨Nat.le_refl _,fun _ _ e=>e,fun _ _ _=>rfl,fun _ e=>e,fun _ _=>rfl⟩
theorem HStep.trans {h h' h'':Hx} (k:HStep h h') (k':HStep h' h''):HStep h h'' :=
 ⟨Nat.le_trans k.nx k'.nx,fun q hq e=>k'.dead q (Nat.lt_of_lt_of_le hq k.nx) (k.dead q hq e),
  fun q hq e=>(k'.log q (Nat.lt_of_lt_of_le hq k.nx) e).trans (k.log q hq fun z=>e (k'.keep q z)),fun q e=>k'.keep q (k.keep q e),fun q hq=>(k'.top q hq).trans (k.top q (Nat.le_trans k'.nx hq))⟩
theorem DRs.step {E E':Mx} {w w':World} (k:Step E w E' w') {D:List (FuncId × List V)} {ds:List Deferred} (h:DRs E w D ds):DRs E' w' D ds :=
 ⟨h.len,fun j x d hx hd=>(h.at_ j x d hx hd).step k⟩
theorem SRel.opd {E:Mx} {T:Nat->V} {D:List (FuncId × List V)} {N:Nat} {a:Act} {w:World} (h:SRel E T D N a w) (x:Operand):Vr E w (opV T x) (a.eval x):=by
 cases x with
 | tmp t=>exact h.tmp t
 | const v=>exact .lit v
 | global g=>exact .lit _
 | func f=>exact .lit _
theorem zaf {l:Array Value} {t s:Nat} {v d:Value} (ht:t < l.size):(l.setIfInBounds t v).getD s d = if s = t then v else l.getD s d:=by
 simp only [Array.getD_eq_getD_getElem?,Array.getElem?_setIfInBounds]
 by_cases h:t = s
 ·subst h; simp [ht]
 ·rw [if_neg h,if_neg (fun e=>h e.symm)]
theorem SRel.put {E E':Mx} {T:Nat->V} {D:List (FuncId × List V)} {N:Nat} {a:Act} {w w':World} (h:SRel E T D N a w) (hR:Rel E' w') (k:Step E w E' w') {o:Oper} {v:V} {u:Value} (hv:Vr E' w' v u) (hd:∀ d,o.dst = some d->d < N) :
  SRel E' (match o.dst with
   | some d=>upd T d v
   | none=>T) D N (a.put o.dst u) w':=by
 cases ho:o.dst with
 | none=>exact ⟨hR,h.size,fun t=>(h.tmp t).step k,h.dfr.step k⟩
 | some d =>
  have hdN:=hd d ho
  refine ⟨hR,?_,fun t=>?_,h.dfr.step k⟩
  ·show (a.tmps.setIfInBounds d u).size = N
   rw [Array.size_setIfInBounds]; exact h.size
  ·show Vr E' w' (upd T d v t) ((a.tmps.setIfInBounds d u).getD t undef)
   rw [zaf (by rw [h.size]; exact hdN)]
   by_cases e:t = d
   ·rw [e,z03,if_pos rfl]; exact hv
   ·rw [z04 _ _ e,if_neg e]; exact (h.tmp t).step k
theorem z9m {N:Nat} {o:Oper} {v:V} {t t':Tr V} (hN:N≤1000) (h:putX N o v t = some t'):(∀ d,o.dst = some d->d < N)∧t'.f = (match o.dst with
  | some d=>upd t.f d v
  | none=>t.f):=by
 unfold putX at h
 cases ho:o.dst with
 | none=>rw [ho] at h; cases h; exact ⟨(fun d e=>by cases e),rfl⟩
 | some d =>
  rw [ho] at h
  dsimp only at h
  split at h
  ·rename_i hb
   have hb2:d + 1≤N:=Nat.le_of_ble_eq_true hb
   cases h
   exact ⟨fun d' e=>by cases e; exact hb2,Tr.f_set (Nat.lt_of_le_of_lt (Nat.le_trans hb2 hN) (by decide))⟩
  ·cases h
theorem zmo {E:Mx} {T:Nat->V} {a:Act} {w:World} (h:∀ t,Vr E w (T t) (a.tmps.getD t undef)) (ops:Array Oper) (o:Oper) (hk:wantK ops T o = true):Region.wanted o (yielded ops a.tmps) = wantV ops T o:=by
 cases hg:o.guard with
 | none=>simp only [Region.wanted,wantV,hg]
 | some g =>
  obtain ⟨j,want⟩:=g
  simp only [Region.wanted,wantV,hg,yielded]
  simp only [wantK,hg] at hk
  cases hd:(ops[j]?).bind (·.dst) with
  | none=>rfl
  | some t =>
   rw [hd] at hk
   have ht:=h t
   dsimp only [Option.bind_some] at hk ⊢
   rw [Array.getD_eq_getD_getElem?] at ht
   cases hq:a.tmps[t]? with
   | none =>
    rw [hq] at ht
    dsimp only
    split
    ·rename_i b hb
     rw [hb] at ht
     have:=ht.lit_inv
     cases this
    ·rfl
   | some u =>
    rw [hq] at ht
    have ht:Vr E w (T t) u:=ht
    generalize T t = d at ht hk
    cases ht with
    | lit=>cases u <;> first | rfl | (rename_i b; cases b <;> cases want <;> rfl)
    | any=>cases hk
    | un=>cases hk
    | _=>rfl
def Ret (E:Mx) (w:World) (h:Hx) (r:V) (h':Hx):Ending->World->Prop:=fun e w' =>
 ∃ v E',e = .returned v∧Vr E' w' r v∧Rel E' w'∧Step E w E' w'∧(∀ q ob,h'.H.get q = some ob->E'.H q = some ob)∧(∀ q,E'.U q->E.U q∨(h.nx≤q∧q < h'.nx))∧(∀ q,E.U q->h.H.get q = none->E'.H q = E.H q)
def XSound (P:Program) (C:z1v):Prop:=∀ f args h r h',C f args h = some (r,h')->HStep h h'∧∀ E w us,Rel E w->(∀ q ob,h.H.get q = some ob->E.H q = some ob)->(∀ q,E.U q->q < h.nx)->Vrs E w args us->Calls P f us.toArray w (Ret E w h r h')
def z80 (P:Program) (f:FuncId) (us:List Value) (w:World) (R:Ending->World->Prop):Prop :=
 if f = yldId then ∃ g rest fn tmps asg bd,us = .func (.yield g) #[] #[] :: rest∧(Instr.yield g rest.toArray).run P w = .ok (.round g fn tmps asg bd) w∧RoundIn Fence.wide 0 P g fn tmps asg bd w R
 else Calls P f us.toArray w R
def z2v (P:Program) (C:z1v):Prop:=∀ f args h r h',C f args h = some (r,h')->HStep h h'∧∀ E w us,Rel E w->(∀ q ob,h.H.get q = some ob->E.H q = some ob)->(∀ q,E.U q->q < h.nx)->Vrs E w args us->z80 P f us w (Ret E w h r h')
abbrev FF (lo:Option Nat):Fence:={ Fence.wide with round:=lo }
theorem callsFF {lo:Option Nat} {n:Nat} {P:Program} {f:FuncId} {args:Array Value} {w:World} {R:Ending->World->Prop}:CallsIn (FF lo) n P f args w R ↔ Calls P f args w R:=by
 show CallsIn Fence.wide n P f args w R ↔ _
 exact callsIn_wide
theorem zbj {lo:Option Nat} {o:Oper} (h:lo = none∨z9r o = true) (ρ:Operand->Value):o.semAt lo ρ = execOp ρ o:=by
 rcases h with rfl | h
 ·rfl
 ·exact Oper.semAt_eq _ _ _ fun c hc=>by rw [z9r,hc] at h; cases h
def DSound (P:Program) (C:FuncId->List V->Hx->Option Hx):Prop:=∀ f args h h',C f args h = some h'->HStep h h'∧∀ E w us u,Rel E w->(∀ q ob,h.H.get q = some ob->E.H q = some ob)->(∀ q,E.U q->q < h.nx)->Vrs E w args us ->
 CallsDIn Fence.wide 0 P f us.toArray u w fun e u' w'=>u' = u∧∃ r,Ret E w h r h' e w'
structure Nx (E:Mx) (w:World) (h:Hx) (E':Mx) (w':World) (h':Hx):Prop where
 rel:Rel E' w'
 step:Step E w E' w'
 H:∀ q ob,h'.H.get q = some ob->E'.H q = some ob
 U:∀ q,E'.U q->E.U q∨(h.nx≤q∧q < h'.nx)
 fr:∀ q,E.U q->h.H.get q = none->E'.H q = E.H q
theorem Nx.trans {E E' E'':Mx} {w w' w'':World} {h h' h'':Hx} (hU:∀ q,E.U q->q < h.nx) (s:HStep h h') (s':HStep h' h'') (k:Nx E w h E' w' h') (k':Nx E' w' h' E'' w'' h''):Nx E w h E'' w'' h'':=by
 refine ⟨k'.rel,k.step.trans k'.step,k'.H,fun q hq=>?_,fun q hq e=>?_⟩
 ·have h1:=s.nx; have h2:=s'.nx
  rcases k'.U q hq with z | ⟨z1,z2⟩
  ·rcases k.U q z with y | ⟨y1,y2⟩
   ·exact .inl y
   ·exact .inr ⟨y1,by omega⟩
  ·exact .inr ⟨by omega,z2⟩
 ·rw [k'.fr q (k.step.used q hq) (s.dead q (hU q hq) e),k.fr q hq e]
theorem Nx.refl {E:Mx} {w:World} {h:Hx} (hR:Rel E w) (hH:∀ q ob,h.H.get q = some ob->E.H q = some ob):Nx E w h E w h :=
 ⟨hR,Step.refl _ _,hH,fun _ h=>.inl h,fun _ _ _=>rfl⟩
theorem Nx.below {E E':Mx} {w w':World} {h h':Hx} (hU:∀ q,E.U q->q < h.nx) (s:HStep h h') (k:Nx E w h E' w' h'):∀ q,E'.U q->q < h'.nx:=fun q hq=>by
 have:=s.nx
 rcases k.U q hq with z | z
 ·have:=hU q z; omega
 ·exact z.2
def EffS (E:Mx) (w:World) (h:Hx) (o:Oper) (v:V) (D:List (FuncId × List V)) (D':List (FuncId × List V)) (h':Hx) (a a':Act) (w':World):Prop :=
 ∃ u E' ds,a' = { a with defers:=ds }.put o.dst u∧Vr E' w' v u∧Nx E w h E' w' h'∧(DRs E w D a.defers->DRs E' w' D' ds)
theorem zcp {P:Program} {C:z1v} (hC:z2v P C) {Tf:Nat->V} {ops:Array Oper} {o:Oper} {D D':List (FuncId × List V)} {h h':Hx} {v:V} {E:Mx} {a:Act} {w:World} (hR:Rel E w) (hT:∀ t,Vr E w (Tf t) (a.tmps.getD t undef))
  (hH:∀ q ob,h.H.get q = some ob->E.H q = some ob) (hfr:∀ q,E.U q->q < h.nx) (e:effX P C Tf ops o D h = some (v,D',h')) {lo:Option Nat} (hlo:lo = none∨z9r o = true) (Q:Exit->Act->World->Prop) {K:Act->World->Prop} (hK:∀ a' w',EffS E w h o v D D' h' a a' w'->K a' w') :
  (if Region.wanted o (yielded ops a.tmps) then o.wpIn (FF lo) 0 P a w K Q else K (a.put o.dst undef) w):=by
 unfold effX at e
 split at e
 ·cases e
 rename_i hk
 rw [zmo hT ops o hk]
 split at e
 ·rename_i hw
  rw [hw,if_pos rfl]
  have hop:=fun {f} (q:op1 P Tf h.H.get h.nx o = some f)=>zhq (a:=a) hR (fun z=>Nat.lt_irrefl _ (hfr _ z)) (fun x=>by
   cases x with
   | tmp t=>exact hT t
   | const v=>exact .lit v
   | global g=>exact .lit _
   | func f=>exact .lit _) (fun r ob z=>hH r ob z) q
  split at e
  ·rename_i v ups nx hq
   split at e
   ·rename_i H hU' hnx
    cases e
    obtain ⟨u,w',E',hrun,hv,hR',hS,hHH,hU⟩:=hop hq
    have hle:h.nx≤nx:=Nat.le_of_ble_eq_true hnx
    have fin:K (a.put o.dst u) w':=by
     refine hK _ _ ⟨u,E',a.defers,rfl,hv,⟨hR',hS,fun q ob hq=>?_,fun q hq=>(hU q).1 hq,fun q hq e=>?_⟩,fun h=>h.step hS⟩
     ·rw [hHH]
      have hq:H.get q = some ob:=hq
      rw [upsX_H hU'] at hq
      exact zg3 hH q ob hq
     ·rw [hHH]; exact (z8n hU' q (hfr q hq) e).2 _
    refine ⟨fun _ _=>trivial,?_⟩
    rw [show (FF lo).round = lo from rfl,zbj hlo]
    rcases hrun with hrun | ⟨hrun,rfl⟩
    ·rw [hrun,Oper.uponIn_value]; exact fin
    ·rw [hrun,Oper.uponIn_skip]; exact fin
   ·cases e
  ·rename_i f args hq
   split at e
   ·rename_i v h' hc
    cases e
    obtain ⟨hok,us,hrun,hus⟩:=hop hq
    obtain ⟨hle,hcall⟩:=hC _ _ _ _ _ hc
    refine ⟨fun _ _=>trivial,?_⟩
    rw [show (FF lo).round = lo from rfl,zbj hlo,hrun,Oper.uponIn_enter]
    refine ⟨fun q=>(by cases q),callsFF.2 ?_⟩
    have hcl:=hcall E w us hR hH hfr hus
    unfold z80 at hcl
    rw [if_neg (zcj hok)] at hcl
    refine hcl.mono ?_
    rintro en w' ⟨u,E',rfl,hv,hR',hS,hHH,hU,hF⟩
    exact hK _ _ ⟨u,E',a.defers,rfl,hv,⟨hR',hS,hHH,hU,hF⟩,fun h=>h.step hS⟩
   ·cases e
  ·rename_i f args hq
   cases e
   obtain ⟨hok,d,hrun,hdr⟩:=hop hq
   refine ⟨fun _ _=>trivial,?_⟩
   rw [show (FF lo).round = lo from rfl,zbj hlo,hrun,Oper.uponIn_defer]
   refine hK _ _ ⟨undef,E,d :: a.defers,rfl,.lit undef,Nx.refl hR hH,fun hD=>⟨by simp [hD.len],fun j x d' hx hd'=>?_⟩⟩
   match j with
   | 0=>cases hx; cases hd'; exact hdr
   | j + 1=>exact hD.at_ j x d' (by simpa using hx) (by simpa using hd')
  ·rename_i r args hq
   split at e
   ·rename_i v h' hc
    cases e
    obtain ⟨g,us,hvr,hus,hrun⟩:=hop hq
    obtain ⟨hle,hcall⟩:=hC _ _ _ _ _ hc
    have hcl:=hcall E w (.func (.yield g) #[] #[] :: us) hR hH hfr (.cons hvr hus)
    unfold z80 at hcl
    rw [if_pos rfl] at hcl
    obtain ⟨g',rest,fn,tmps,asg,bd,e1,e2,e3⟩:=hcl
    cases e1
    refine ⟨fun _ _=>trivial,?_⟩
    rw [show (FF lo).round = lo from rfl,zbj hlo,hrun,e2,Oper.uponIn_round]
    refine ⟨fun q=>(by cases q),?_⟩
    have e4:RoundIn (FF lo) 0 P g fn tmps asg bd w _:=e3
    refine e4.mono ?_
    rintro en w' ⟨u,E',rfl,hv,hR',hS,hHH,hU,hF⟩
    exact hK _ _ ⟨u,E',a.defers,rfl,hv,⟨hR',hS,hHH,hU,hF⟩,fun h=>h.step hS⟩
   ·cases e
  ·cases e
 ·rename_i hw
  rw [hw,if_neg (by decide)]
  cases e
  exact hK _ _ ⟨undef,E,a.defers,rfl,.lit undef,Nx.refl hR hH,fun h=>h⟩
theorem zcq {P:Program} {C:z1v} (hC:z2v P C) {Tf:Nat->V} {ops:Array Oper} {o:Oper} {D D':List (FuncId × List V)} {h h':Hx} {v:V} (e:effX P C Tf ops o D h = some (v,D',h')):HStep h h':=by
 unfold effX at e
 split at e
 ·cases e
 split at e
 ·split at e
  ·rename_i ups nx hq
   split at e
   ·rename_i H hU' hnx
    cases e
    refine ⟨Nat.le_of_ble_eq_true hnx,fun q hq e=>(z8n hU' q hq e).1,fun q _ hq=>?_,fun q hq=>by simp [hq],zmp hU'⟩
    show H.get q = h.H.get q
    rw [upsX_H hU']
    exact zg2 fun z=>hq (by simp only [List.mem_append]; exact .inl z)
   ·cases e
  ·split at e
   ·rename_i hc
    cases e
    exact (hC _ _ _ _ _ hc).1
   ·cases e
  ·cases e; exact HStep.refl _
  ·split at e
   ·rename_i hc
    cases e
    exact (hC _ _ _ _ _ hc).1
   ·cases e
  ·cases e
 ·cases e; exact HStep.refl _
def Nxt (E:Mx) (w:World) (h:Hx) (N:Nat) (s':Sx) (a':Act) (w':World):Prop:=∃ E',XRel E' s' N a' w'∧Nx E w h E' w' s'.h
theorem zkf {P:Program} {C:z1v} (hC:z2v P C) {N:Nat} {ops:Array Oper} {o:Oper} {s s':Sx} (e:stepX P C N ops o s = some s'):HStep s.h s'.h:=by
 unfold stepX at e
 split at e
 ·rename_i he
  split at e
  ·cases e; exact zcq hC he
  ·cases e
 ·cases e
theorem zke {P:Program} {C:z1v} (hC:z2v P C) {N:Nat} (hN:N≤1000) {ops:Array Oper} {o:Oper} {s s':Sx} {E:Mx} {a:Act} {w:World} (hX:XRel E s N a w) (e:stepX P C N ops o s = some s') {lo:Option Nat} (hlo:lo = none∨z9r o = true) (Q:Exit->Act->World->Prop) :
  (if Region.wanted o (yielded ops a.tmps) then o.wpIn (FF lo) 0 P a w (Nxt E w s.h N s') Q else Nxt E w s.h N s' (a.put o.dst undef) w):=by
 have hh:=zkf hC e
 unfold stepX at e
 split at e
 ·rename_i v D h' he
  split at e
  ·rename_i T hT
   cases e
   obtain ⟨hd,hTf⟩:=z9m hN hT
   refine zcp hC hX.sr.rel hX.sr.tmp hX.H hX.fr he hlo Q ?_
   rintro a' w' ⟨u,E',ds,rfl,hv,hn,hD⟩
   refine ⟨E',⟨?_,hn.H,hn.below hX.fr hh⟩,hn⟩
   have hS2:SRel E' s.T.f D N { a with defers:=ds } w':=⟨hn.rel,hX.sr.size,fun t=>(hX.sr.tmp t).step hn.step,hD hX.sr.dfr⟩
   rw [hTf]
   exact hS2.put hn.rel (Step.refl _ _) hv hd
  ·cases e
 ·cases e
theorem runX_h {P:Program} {C:z1v} (hC:z2v P C) {N:Nat} {ops:Array Oper}:∀ {l:List Oper} {s s':Sx},runX P C N ops l s = some s'->HStep s.h s'.h
 | [],s,s',e=>by cases e; exact HStep.refl _
 | o :: l,s,s',e=>by
  simp only [runX] at e
  split at e
  ·rename_i s1 h1
   exact (zkf hC h1).trans (runX_h hC e)
  ·cases e
theorem zbl {P:Program} {C:z1v} (hC:z2v P C) {N:Nat} (hN:N≤1000) {ops:Array Oper} {lo:Option Nat} (hlo:lo = none∨ops.toList.all z9r = true) {Q:Exit->Act->World->Prop}:∀ (l:List Oper) (k:Nat) {s s':Sx} {E:Mx} {a:Act} {w:World},ops.toList.drop k = l->XRel E s N a w->runX P C N ops l s = some s' ->
  (∀ a' w',Nxt E w s.h N s' a' w'->Q .normal a' w')->wpOpsIn (FF lo) 0 P ops Q (List.range' k l.length) a w
 | [],k,s,s',E,a,w,hl,hX,e,hQ=>by
  cases e
  exact hQ a w ⟨E,hX,Nx.refl hX.sr.rel hX.H⟩
 | o :: l,k,s,s',E,a,w,hl,hX,e,hQ=>by
  simp only [runX] at e
  split at e
  ·rename_i s1 h1
   have ho:ops[k]? = some o:=by
    have:=congrArg (fun x:List Oper=>x[0]?) hl
    simpa using this
   have hl':ops.toList.drop (k + 1) = l:=by
    have:=congrArg List.tail hl
    rwa [List.tail_drop] at this
   have hlo':lo = none∨z9r o = true:=hlo.imp id fun q=>List.all_eq_true.1 q o (List.mem_of_getElem? (by simpa using ho))
   have hst:=zke hC hN hX h1 hlo' Q
   have rest:∀ {a' w'},Nxt E w s.h N s1 a' w'->wpOpsIn (FF lo) 0 P ops Q (List.range' (k + 1) l.length) a' w':=by
    intro a' w' ⟨E',hX',hn⟩
    refine zbl hC hN hlo l (k + 1) hl' hX' e fun a2 w2 ⟨E2,hX2,hn2⟩=>hQ a2 w2 ⟨E2,hX2,hn.trans hX.fr (zkf hC h1) (runX_h hC e) hn2⟩
   rw [List.length_cons,List.range'_succ]
   simp only [wpOpsIn,ho]
   split
   ·rename_i hw
    rw [if_pos hw] at hst
    exact Oper.wpIn_mono (fun a' w' h'=>rest h') hst
   ·rename_i hw
    rw [if_neg hw] at hst
    exact ⟨fun _ _=>trivial,rest hst⟩
  ·cases e
end Hm
end Go.Proofs.YtlhblpbfhfhlpaaGreatDoor
end
