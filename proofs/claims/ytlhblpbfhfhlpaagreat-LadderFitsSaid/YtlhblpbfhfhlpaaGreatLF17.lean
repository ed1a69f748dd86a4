/-
  Part 17 of a proof: WaF, WaH.
-/
import Derived.Deep.RegionLaw
import Derived.Lib.AppendZeros
import Derived.Test.YtlhblpbfhfhlpaaGreatLF16
set_option linter.unusedVariables false
set_option linter.unusedSimpArgs false
section
namespace Go.Proofs.YtlhblpbfhfhlpaaGreat
open Go.RowKit
def grF:List Edge->List (Int × List Int)->List (Int × List Int)
 | [],es=>es
 | e :: l,es=>grF l (upl es e.1 (lkl es e.1 ++ [e.2]))
theorem lkl_upl {k:Int} {d:List Int}:∀ {es:List (Int × List Int)} {j:Int},lkl (upl es k d) j = if j = k then d else lkl es j
 | [],j=>by
  simp only [upl,lkl]
  by_cases h:j = k
  ·simp [h]
  ·simp [h]
 | e :: es,j=>by
  unfold upl
  by_cases hk:k = e.1
  ·subst hk
   simp only [beq_self_eq_true,if_true,lkl]
   by_cases h:j = e.1
   ·simp [h]
   ·simp [h]
  ·rw [if_neg (by simpa using hk)]
   simp only [lkl,lkl_upl (es:=es)]
   by_cases h:j = e.1
   ·subst h
    have hk':¬ e.1 = k:=fun e'=>hk e'.symm
    simp [hk']
   ·simp [h]
theorem zrz {k:Int} {d:List Int}:∀ {es:List (Int × List Int)},(upl es k d).map (·.1) = if k ∈ es.map (·.1) then es.map (·.1) else es.map (·.1) ++ [k]
 | []=>by simp [upl]
 | e :: es=>by
  unfold upl
  by_cases hk:k = e.1
  ·subst hk; simp
  ·rw [if_neg (by simpa using hk)]
   simp only [List.map_cons,zrz (es:=es),List.mem_cons,hk,false_or]
   split <;> simp
structure GrOk (p:List Edge) (es:List (Int × List Int)):Prop where
 look:∀ k,lkl es k = outs p k
 nodup:(es.map (·.1)).Nodup
 keys:∀ k,k ∈ es.map (·.1) ↔ k ∈ p.map (·.1)
theorem GrOk.nil:GrOk [] []:=⟨fun k=>rfl,by simp,fun k=>by simp⟩
theorem GrOk.step {p:List Edge} {es:List (Int × List Int)} (h:GrOk p es) (e:Edge):GrOk (p ++ [e]) (upl es e.1 (lkl es e.1 ++ [e.2])):=by
 refine ⟨fun k=>?_,?_,fun k=>?_⟩
 ·rw [lkl_upl,zxl,h.look,h.look]
  by_cases hk:k = e.1
  ·subst hk; simp
  ·have hk':¬ e.1 = k:=fun e'=>hk e'.symm
   rw [if_neg hk,if_neg hk']
 ·rw [zrz]
  split
  ·exact h.nodup
  ·rename_i hn
   refine List.nodup_append.2 ⟨h.nodup,by simp,fun x hx y hy e'=>?_⟩
   have hy':y = e.1:=by simpa using hy
   subst hy'; subst e'; exact hn hx
 ·rw [zrz]
  split
  ·rename_i hm
   rw [h.keys k,List.map_append,List.mem_append]
   refine ⟨.inl,fun h'=>?_⟩
   rcases h' with h' | h'
   ·exact h'
   ·have:k = e.1:=by simpa using h'
    subst this; exact (h.keys _).1 hm
  ·rw [List.mem_append,h.keys k,List.map_append,List.mem_append]
   simp
theorem grF_ok:∀ (l p:List Edge) (es:List (Int × List Int)),GrOk p es->GrOk (p ++ l) (grF l es)
 | [],p,es,h=>by rw [List.append_nil]; exact h
 | e :: l,p,es,h=>by
  have:=grF_ok l (p ++ [e]) _ (h.step e)
  rw [List.append_assoc] at this
  exact this
def grL (l:List Edge):List (Int × List Int):=grF l []
theorem zjp (l:List Edge):GrOk l (grL l):=by
 have:=grF_ok l [] [] GrOk.nil
 rw [List.nil_append] at this
 exact this
theorem grF_app:∀ (a b:List Edge) (es:List (Int × List Int)),grF (a ++ b) es = grF b (grF a es)
 | [],b,es=>rfl
 | e :: a,b,es=>by simp only [List.cons_append,grF,grF_app a b]
theorem grL_snoc (p:List Edge) (e:Edge):grL (p ++ [e]) = upl (grL p) e.1 (lkl (grL p) e.1 ++ [e.2]):=by
 unfold grL
 rw [grF_app]; rfl
theorem y6v {es:List (Int × List Int)} {k:Int}:lkV false (.sl []) (lkp (avE es) k) = z8c (lkl es k):=by
 induction es with
 | nil=>rfl
 | cons e es ih =>
  show lkV false (.sl []) (if k == e.1 then some (z8c e.2) else lkp (avE es) k) = _
  unfold lkl
  by_cases h:(k == e.1) = true
  ·rw [if_pos h,if_pos h]; rfl
  ·rw [if_neg h,if_neg h]; exact ih
theorem y6z (es:List (Int × List Int)):(avE es).map (·.1) = es.map (·.1):=by
 simp [avE]
theorem Grp.out {w:World} {base gm:Nat} {es:List (Int × List Int)} {ms:Array MapEntry} {c:Nat} (hG:Grp w base gm es ms c) {Pr:Nat->Nat->Prop} (hP:∀ b o,gm≤b->Pr b o):VR Pr w (.mv (avE es)) (.map (some gm)):=by
 refine .mv _ gm ms c (z2l hG.map) (hP gm 0 (Nat.le_refl _)) hG.map (by rw [← hG.len]; simp [avE]) hG.st (fun i e m he hm=>?_) (fun i e m he hm=>?_)
 ·simp only [avE,List.getElem?_map] at he
  obtain ⟨e',h3,rfl⟩:=Option.map_eq_some_iff.1 he
  exact hG.key i e' m h3 hm
 ·simp only [avE,List.getElem?_map] at he
  obtain ⟨e',h3,rfl⟩:=Option.map_eq_some_iff.1 he
  obtain ⟨r1,r2⟩:=hG.row i e' m h3 hm
  show VR Pr w (.sl (e'.2.map (AV.int .i64))) m.val
  have hlen:(e'.2.map (AV.int .i64)).length = e'.2.length:=List.length_map _
  rcases r2 with ⟨q1,q2⟩ | ⟨g,cap,cur,q1,q2,q3,q4,q5,q6,q7⟩
  ·have:e'.2 = []:=List.length_eq_zero_iff.1 q2
   rw [q1,this]
   have:=VR.sl (Pr:=Pr) (w:=w) [] none 0 1 (fun _ _=>undef) (Nat.le_refl _) (Nat.zero_le _) (fun h=>by simp at h) (fun i d j c h=>by simp at h)
   exact this
  ·rw [q1,← hlen]
   refine .sl _ _ cap 1 (fun i j=>((e'.2.map (Value.int .i64))[i]?).getD undef) (by rw [hlen]; exact q4) q5 (fun h0=>⟨g,0,rfl,z2l q3,fun d hd=>?_,fun i j hi hj=>⟨hP g _ (by have:=hG.lt; omega),?_⟩⟩) (fun i d j c hi hj=>?_)
   ·obtain ⟨x,_,rfl⟩:=List.mem_map.1 hd; rfl
   ·have hj0:j = 0:=by omega
    subst hj0
    rw [hlen] at hi
    rw [z0c q3]
    have h1:(cur.toList.take (e'.2.length * 1))[i]? = (e'.2.map (Value.int .i64))[i]?:=by rw [q7]
    rw [List.getElem?_take,if_pos (by omega),Array.getElem?_toList] at h1
    rw [show 0 + (i * 1 + 0) = i by omega,h1]
    rw [List.getElem?_map,List.getElem?_eq_getElem hi]
    rfl
   ·rw [List.getElem?_map] at hi
    obtain ⟨x,hx,rfl⟩:=Option.map_eq_some_iff.1 hi
    match j,hj with
    | 0,hj =>
     cases hj
     simp only [List.getElem?_map,hx,Option.map_some,Option.getD_some]
     exact .int _ _
end Go.Proofs.YtlhblpbfhfhlpaaGreat
end
section
namespace Go.Proofs.YtlhblpbfhfhlpaaGreat
open Go.RowKit Go.MapKept
def edA (e:Edge):AV:=.agg [.int .i64 e.1,.int .i64 e.2]
def EdAt (w:World) (A:Option Addr) (l:List Edge):Prop:=∀ (i:Nat) (e:Edge),l[i]? = some e->∃ b off,A = some ⟨b,off,none⟩∧b < w.heap.size∧w.cell? ⟨b,off + i * 2,none⟩ = some (.int .i64 e.1)∧w.cell? ⟨b,off + (i * 2 + 1),none⟩ = some (.int .i64 e.2)
theorem EdAt.of {Pr:Nat->Nat->Prop} {w:World} {l:List Edge} {v:Value} (h:VR Pr w (.sl (l.map edA)) v):∃ A cap,v = .slice A l.length cap∧l.length≤cap∧cap≤maxLen∧EdAt w A l:=by
 have hl:(l.map edA).length = l.length:=List.length_map _
 generalize hx:l.map edA = x at h
 cases h with
 | sl _ A cap z u hcap hmax hA hr =>
  subst hx
  rw [hl] at hcap
  refine ⟨A,cap,by rw [hl],hcap,hmax,fun i e he=>?_⟩
  have hi:=(List.getElem?_eq_some_iff.1 he).1
  obtain ⟨b,off,rfl,hL⟩:=hA (by rw [hl]; omega)
  have hd:(l.map edA)[i]? = some (edA e):=by rw [List.getElem?_map,he]; rfl
  have hz:z = 2:=(hL.len _ (List.mem_of_getElem? hd)).symm
  subst hz
  have h0:=(hL.at_ i 0 (by rw [hl]; exact hi) (by omega)).2
  have h1:=(hL.at_ i 1 (by rw [hl]; exact hi) (by omega)).2
  have v0:=VR.int_of (hr i _ 0 (.int .i64 e.1) hd rfl)
  have v1:=VR.int_of (hr i _ 1 (.int .i64 e.2) hd rfl)
  rw [v0] at h0
  rw [v1] at h1
  exact ⟨b,off,rfl,hL.lt,h0,h1⟩
section
variable {P:Program} {ops:Array Oper} {o:Oper} {a:Act} {w:World} {K:Act->World->Prop} {Q:Exit->Act->World->Prop} {E:Prop}
theorem y0j (hg:o.guard = none) (x ix:Operand) (t:TypeId) (hop:o.op = .lookup t x ix false) (u k:Value) (hx:a.eval x = u) (hk:a.eval ix = k) {v:Value} {w':World} (hr:(Instr.lookup t u k false).run P w = .ok v w') (hK:K (a.put o.dst v) w') :
  if Region.wanted o (yielded ops a.tmps) = true then Oper.wp P o a w K Q else E:=by
 have hw:Region.wanted o (yielded ops a.tmps) = true:=by simp [Region.wanted,hg]
 rw [if_pos hw]
 unfold Oper.wp
 simp [execOp,hop,hx,hk,hr,Result.andThen]
 exact hK
theorem y0i (hg:o.guard = none) (x ix y:Operand) (t:TypeId) (hop:o.op = .mapUpdate t x ix y) (hd:o.dst = none) (u k v:Value) (hx:a.eval x = u) (hk:a.eval ix = k) (hy:a.eval y = v) {w':World} (hr:(Instr.mapUpdate t u k v).run P w = .ok () w') (hK:K a w') :
  if Region.wanted o (yielded ops a.tmps) = true then Oper.wp P o a w K Q else E:=by
 have hw:Region.wanted o (yielded ops a.tmps) = true:=by simp [Region.wanted,hg]
 rw [if_pos hw]
 unfold Oper.wp
 simp [execOp,hop,hx,hk,hy,hr,Result.andThen]
 rw [Oper.upon_skip,hd]
 exact hK
theorem y0k (hg:o.guard = none) (x y:Operand) (t t':TypeId) (hop:o.op = .call { callee:=.builtin .append,args:=#[x,y],argTypes:=#[t,t'] }) (u k:Value) (hx:a.eval x = u) (hk:a.eval y = k) {v:Value} {w':World} (hr:(Builtin.append_ #[t,t'] o.type #[u,k]).run P w = .ok v w') (hK:K (a.put o.dst v) w') :
  if Region.wanted o (yielded ops a.tmps) = true then Oper.wp P o a w K Q else E:=by
 have hw:Region.wanted o (yielded ops a.tmps) = true:=by simp [Region.wanted,hg]
 rw [if_pos hw]
 unfold Oper.wp
 simp [execOp,hop,resolve,invoke,builtin,hx,hk,hr,Result.andThen]
 exact hK
end
theorem Grp.alloc {w:World} {base gm:Nat} {es:List (Int × List Int)} {ms:Array MapEntry} {c:Nat} (h:Grp w base gm es ms c) (o:Obj):Grp (w.alloc o) base gm es ms c :=
 ⟨(Below.heap_alloc w o gm (z2l h.map)).trans h.map,h.st,h.lt,h.len,h.key,fun i e m h1 h2=>(h.row i e m h1 h2).alloc o,h.apart⟩
theorem Grp.drew {w:World} {base gm:Nat} {es:List (Int × List Int)} {ms:Array MapEntry} {c:Nat} (h:Grp w base gm es ms c):Grp w.drew base gm es ms c :=
 ⟨h.map,h.st,h.lt,h.len,h.key,h.row,h.apart⟩
theorem infoInt:(Tryz.prog.info? 3).map (fun i=>(i.zero,i.size,i.bytes)) = some (some (.int .i64 0),1,8):=by kernel_rfl
theorem infoInts:(Tryz.prog.info? 28).map (fun i=>(i.zero,i.size,i.bytes)) = some (some (.slice none 0 0),1,24):=by kernel_rfl
set_option maxRecDepth 100000 in
set_option maxHeartbeats 4000000 in
theorem graph_any (l:List Edge) (hl:l.length≤1000000) (A:Option Addr) (cap:Nat) (w:World) (hE:EdAt w A l) :
  Calls Tryz.prog 25 #[.slice A l.length cap] w fun e w'=>∃ ms c,e = .returned (.map (some w.heap.size))∧Below w.heap.size w w'∧Grp w' (w.heap.size + 1) w.heap.size (grL l) ms c:=by
 obtain ⟨n,hn⟩:∃ n,l.length = n:=⟨_,rfl⟩
 obtain ⟨gm,hgm⟩:∃ gm,w.heap.size = gm:=⟨_,rfl⟩
 rw [hn,hgm]
 have hG0:Hid (Grp (w.alloc (.map #[] 0)) (gm + 1) gm (grL []) #[] 0):=by
  refine ⟨by rw [← hgm]; exact (heap_alloc w _).1,stamped_empty 0,by omega,rfl,fun i e m h=>by simp [grL,grF] at h,fun i e m h=>by simp [grL,grF] at h,fun i j m m' h=>by simp at h⟩
 have hB0:Hid (Below gm w (w.alloc (.map #[] 0))):=(Below.refl gm w).alloc (by omega) _
 have HE:=Lib.hid hE
 have HN:=Lib.hid hn
 have HM:=Lib.hid hgm
 have HL:=Lib.hid hl
 have hmk:∀ W:World,Sem.run Tryz.prog (Instr.makeMap 56 none) W = Result.ok (Value.map (some W.heap.size)) (W.alloc (.map #[] 0)):=fun _=>rfl
 clear hE hn hl
 go_enter Tryz.func25,Tryz.ntmps25
 go_wp2_with fail
 go_loopw [9] (fun j wr=>∃ (k:Nat) (ms:Array MapEntry) (c:Nat),j = .int .i64 k∧k≤n∧Hid (Grp wr (gm + 1) gm (grL (l.take k)) ms c)∧Hid (Below gm w wr)) (fun j _=>n - (intOf j).toNat)
 case atStart=>exact ⟨0,#[],0,rfl,Nat.zero_le _,hG0,hB0⟩
 case round =>
  obtain ⟨k,ms,c,rfl,hk,HG,HB⟩:=hrel
  by_cases hlt:k < n
  ·obtain ⟨e,he⟩:∃ e,l[k]? = some e:=⟨_,List.getElem?_eq_getElem (by rw [HN.out]; exact hlt)⟩
   obtain ⟨b,off,rfl,hb,c0,c1⟩:=HE.out k e he
   have d0:wr.cell? ⟨b,off + k * 2,none⟩ = some (.int .i64 e.1):=by rw [← c0]; exact World.cell?_of_block (HB.out.block b (by omega))
   have d1:wr.cell? ⟨b,off + k * 2 + 1,none⟩ = some (.int .i64 e.2):=by rw [← c1]; exact World.cell?_of_block (HB.out.block b (by omega))
   have HX:=Lib.hid he
   have hw1:IntKind.i64.wrap ((k:Int) + 1) = (k:Int) + 1:=by
    have:=HL.out
    rw [HN.out] at this
    rw [IntKind.wrap_i64]; omega
   clear he c0 c1 hb
   obtain ⟨W,hWW⟩:∃ W,wr.alloc (.cells #[.int .i64 e.1,.int .i64 e.2] 66) = W:=⟨_,rfl⟩
   obtain ⟨W5,hW5⟩:∃ W5,(W.alloc (.cells #[.int .i64 e.2] 3)).drew = W5:=⟨_,rfl⟩
   have hGW:Grp W5 (gm + 1) gm (grL (l.take k)) ms c:=by rw [← hW5,← hWW]; exact ((HG.out.alloc _).alloc _).drew
   have hgs:gm < wr.heap.size:=z2l HG.out.map
   have hBW:Below gm w W5:=by rw [← hW5,← hWW]; exact ((HB.out.alloc (by omega) _).alloc (by simp; omega) _).drew
   have hWs:W.heap.size = wr.heap.size + 1:=by rw [← hWW]; simp
   have hWs5:W5.heap.size = wr.heap.size + 2:=by rw [← hW5]; show (W.alloc _).heap.size = _; simp [hWs]
   obtain ⟨b0,hb0⟩:∃ b0,wr.heap.size = b0:=⟨_,rfl⟩
   rw [hb0] at hWs hgs hWs5
   have x0:W.cell? ⟨b0,0,none⟩ = some (.int .i64 e.1):=by rw [z0c (by rw [← hWW,← hb0]; exact (heap_alloc wr _).1:W.heap[b0]? = some (.cells #[.int .i64 e.1,.int .i64 e.2] 66 (0,0)))]; rfl
   have x1:W.cell? ⟨b0,1,none⟩ = some (.int .i64 e.2):=by rw [z0c (by rw [← hWW,← hb0]; exact (heap_alloc wr _).1:W.heap[b0]? = some (.cells #[.int .i64 e.1,.int .i64 e.2] 66 (0,0)))]; rfl
   obtain ⟨ii,hii,hiz,his,hib⟩:=info_parts infoInts
   obtain ⟨ij,hij,hjz,hjs,hjb⟩:=info_parts infoInt
   have ht25:=Tryz.underlying28
   obtain ⟨v,hv,hlk,hrow,hway⟩:=hGW.look (P:=Tryz.prog) e.1 Tryz.underlying56 Tryz.underlying3 hii hiz
   have hlk0:(Instr.lookup 56 (.map (some gm)) (.int .i64 e.1) false).run Tryz.prog W.drew = .ok v W.drew:=by
    have hG0':Grp W.drew (gm + 1) gm (grL (l.take k)) ms c:=by rw [← hWW]; exact (HG.out.alloc _).drew
    obtain ⟨v2,hv2,hlk2,_⟩:=hG0'.look (P:=Tryz.prog) e.1 Tryz.underlying56 Tryz.underlying3 hii hiz
    rw [hv,← hv2]; exact hlk2
   have hlk1:(Instr.lookup 56 (.map (some gm)) (.int .i64 e.1) false).run Tryz.prog (W.alloc (.cells #[.int .i64 e.2] 3)).drew = .ok v (W.alloc (.cells #[.int .i64 e.2] 3)).drew:=by rw [hW5]; exact hlk
   have hzl:(lkl (grL (l.take k)) e.1).length≤n:=by
    rw [(zjp (l.take k)).look]
    unfold outs
    rw [List.length_map]
    refine Nat.le_trans (List.length_filter_le _ _) ?_
    rw [List.length_take]; have:=HN.out; omega
   have hL':=HL.out
   obtain ⟨v',W3,happ,hrow',hgrow,_,hloc⟩:=run_append_own_at (P:=Tryz.prog) W5 (gm + 1) 28 28 3 ij _ 1 8 ht25 hij hjz hjs hjb rfl (by decide) v _ _ hrow ⟨W.heap.size,0,none⟩ 1 1 [.int .i64 e.2] rfl (fun j u hj=>by
    match j with
    | 0 =>
     cases hj
     rw [← hW5]
     exact z0c (o:=0) (heap_alloc W (.cells #[.int .i64 e.2] 3)).1
    | j + 1=>simp at hj) (fun u hu=>by rw [List.mem_singleton.1 hu]; rfl) (by unfold maxLen; rw [HN.out] at hL'; omega) (by rw [HN.out] at hL'; omega) (by omega)
   obtain ⟨ms',c',hupd,hG'⟩:=hway W3 v' (lkl (grL (l.take k)) e.1 ++ [e.2]) ⟨hgrow,by simpa using hrow',by
    rcases hloc with h | h
    ·exact .inl h
    ·exact .inr ⟨_,h,Nat.le_refl _⟩⟩
   obtain ⟨W4,hW4⟩:∃ W4,({ W3 with heap:=W3.heap.setIfInBounds gm (.map ms' c') }:World) = W4:=⟨_,rfl⟩
   rw [hW4] at hupd hG'
   have hB4:Hid (Below gm w W4):=by
    have h3:Below gm w W3:=hBW.trans ⟨hgrow.os,hgrow.tape,hgrow.output,hgrow.size,fun k hk=>hgrow.block k (by omega) (fun e=>by
     have:=(hrow.lt k e.symm).1
     omega)⟩
    have hm3:W3.heap[gm]? = some (.map ms c) :=
     (hgrow.block gm (by omega) (fun e=>by
      have:=(hrow.lt gm e.symm).1
      omega)).trans hGW.map
    rw [← hW4]
    exact h3.trans ⟨rfl,rfl,rfl,by simp,fun k hk=>(heap_set hm3).2 k (by omega)⟩
   have hG4:Hid (Grp W4 (gm + 1) gm (grL (l.take (k + 1))) ms' c'):=by
    show Grp _ _ _ _ _ _
    rw [List.take_add_one,HX.out,Option.toList_some,grL_snoc]
    exact hG'
   have happ1:(Builtin.append_ #[28,28] 28 #[v,.slice (some ⟨W.heap.size,0,none⟩) 1 1]).run Tryz.prog (W.alloc (.cells #[.int .i64 e.2] 3)).drew = .ok v' W3:=by rw [hW5]; exact happ
   have hb0W:W.heap[b0]? = some (.cells #[.int .i64 e.1,.int .i64 e.2] 66 (0,0)):=by rw [← hWW,← hb0]; exact (heap_alloc wr _).1
   have hb0W2:(W.alloc (.cells #[.int .i64 e.2] 3)).heap[b0]? = some (.cells #[.int .i64 e.1,.int .i64 e.2] 66 (0,0)):=(Below.heap_alloc W _ b0 (by omega)).trans hb0W
   have y2:(W.alloc (.cells #[.int .i64 e.2] 3)).cell? ⟨b0,0,none⟩ = some (.int .i64 e.1):=by rw [z0c hb0W2]; rfl
   have y3:(W.alloc (.cells #[.int .i64 e.2] 3)).cell? ⟨b0,1,none⟩ = some (.int .i64 e.2):=by rw [z0c hb0W2]; rfl
   have hb05:W5.heap[b0]? = some (.cells #[.int .i64 e.1,.int .i64 e.2] 66 (0,0)):=by rw [← hW5]; exact hb0W2
   have hvb:some b0 ≠ v.ownBlock:=fun e'=>by
    rcases hrow.2 with ⟨q1,_⟩ | ⟨g,cap',cur,q1,_,q3,_⟩
    ·rw [q1] at e'; cases e'
    ·rw [q1] at e'
     cases e'
     rw [hb05] at q3; cases q3
   have y4:W3.cell? ⟨b0,0,none⟩ = some (.int .i64 e.1):=hgrow.cell (by rw [z0c hb05]; rfl) hvb
   have y5:W3.cell? ⟨b0,1,none⟩ = some (.int .i64 e.2):=hgrow.cell (by rw [z0c hb05]; rfl) hvb
   have y0:W.drew.cell? ⟨b0,0,none⟩ = some (.int .i64 e.1):=x0
   have y1:W.drew.cell? ⟨b0,1,none⟩ = some (.int .i64 e.2):=x1
   clear hb0W hb0W2 hb05 hvb hlk happ hv hW5 hGW hBW hrow hway hrow' hgrow hloc hG' hzl hiz his hib hjz hjs hjb hii hij hW4 hgs hWs hWs5 hL' x0 x1
   go_wp2_with fail
   go_region_law (first
    | (refine y0j rfl (.tmp 16) (.tmp 18) 56 rfl _ _ (by simp [Act.eval,Act.put]) (by simp [Act.eval,Act.put]) (by first | exact hlk0 | exact hlk1) ?_)
    | (refine y0k rfl (.tmp 19) (.tmp 22) 28 28 rfl _ _ (by simp [Act.eval,Act.put]) (by simp [Act.eval,Act.put]) happ1 ?_)
    | (refine y0i rfl (.tmp 13) (.tmp 15) (.tmp 23) 56 rfl rfl _ _ _ (by simp [Act.eval,Act.put]) (by simp [Act.eval,Act.put]) (by simp [Act.eval,Act.put]) hupd ?_))
   all_goals
    go_wp2_with fail
    go_roundw
    case rel=>exact ⟨k + 1,ms',c',by go_num,by omega,hG4,hB4⟩
    case measure=>simp [intOf]; omega
  ·have hkn:k = n:=by omega
   subst hkn
   go_wp2_with fail
   go_ret
   have e1:l.take k = l:=by rw [← HN.out]; exact List.take_length
   have hG:=HG.out
   rw [e1] at hG
   exact ⟨ms,c,rfl,HB.out,hG⟩
end Go.Proofs.YtlhblpbfhfhlpaaGreat
end
