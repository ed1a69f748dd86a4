/-
  Part 21 of a proof: WaK, WaL, WaM, WaO, WbB, WbC, WbD, WbE, LfS, LfG, LfH, LfI, LfJ, LfK, LfL, LfM.
-/
import Derived.StillTailTactics
import Derived.IntWalk
import Derived.Laws.OwnMore
import Derived.Deep.AppendLies
import Derived.Test.YtlhblpbfhfhlpaaGreatLF20
set_option linter.unusedVariables false
set_option linter.unusedSimpArgs false
set_option maxRecDepth 100000
attribute [local go_sem] reduceCtorEq Nat.reduceEqDiff Nat.reduceBEq Nat.reduceAdd Nat.reduceSub Nat.reduceMul Nat.reduceLT Nat.reduceLeDiff Nat.reduceBNe Int.reduceBEq Int.reduceBNe Int.reduceLT Int.reduceLE
attribute [local go_sem ↓] reduceIte
namespace Go.Proofs.YtlhblpbfhfhlpaaGreat
section
open Go.RowKit Go.MapKept
attribute [local go_sem ↓] z18 z0h
def y4l:Reg:=⟨[],[⟨.mv (.c (.bool false)),some 3,none,[],[]⟩],[],[],false⟩
def y4k:List XOp:=[(.op [] ⟨.load 1 false (.t 1),some 4,none,[],[]⟩),(.op [] ⟨.mv (.t 0),some 5,none,[],[]⟩),(.op [6] ⟨.callv (.c (.clo 30 [] [])) [(.t 4),(.t 5)],some 6,none,[],[]⟩),(.op [] ⟨.mv (.t 0),some 7,none,[],[]⟩),(.mlook 8 false (.t 6) (.t 7) (.bool false) none),(.op [] ⟨.un .not (.t 8),some 9,none,[],[]⟩),(.op [] ⟨.mv (.t 9),some 3,none,[],[]⟩)]
def ir_stu1 (P:Program):IR:=(.seq (.reg y4l)
 (.seq (.regx P y4k)
 .ret))
def y4a:List RDesc:=[(.tmp 3)]
theorem e_stu1_0:EqR y4l [⟨.mv (.c (.bool false)),some 3,none,[],[]⟩] []:=fun _ _ _=>rfl
theorem fn_stu1 {args:List AV} {r:AV} (ha:args.length.ble Tryz.f29.ntmps = true) (h:run (AFn Tryz.prog) (ir_stu1 Tryz.prog) (endQ y4a r) (z0b args)):AFn Tryz.prog 29 args r :=
 AFn.of_code (pv:=false) (hint:=fun _=>[]) (c:=Tryz.f29.body.getD .skip) (by kernel_rfl) (by kernel_rfl) Tryz.func29 (by kernel_rfl) (by kernel_rfl) (by kernel_rfl) (of_decide_eq_true (by kernel_rfl)) (Nat.le_of_ble_eq_true ha) (Nat.le_of_ble_eq_true (by kernel_rfl)) (z09 h)
attribute [local go_sem ↓] ir_stu1
attribute [local go_sem] y4a e_stu1_0 y4k
theorem stu1_ok (l:List Edge) (hl:l.length≤400000) (n:Int):AFn Tryz.prog 29 [.int .i64 n,.rp [.mv (avE (grL l))]] (.bool (!decide (n ∈ zri l n))):=by
 refine fn_stu1 rfl ?_
 have c:=rch_ok l n hl
 have hsk:lkV false (.bool false) (lkp (zg2 (zri l n)) n) = .bool (decide (n ∈ zri l n)):=zt4
 (repeat (first | simp (maxSteps:=9^7) only [go_sem,hsk] | refine z01 (c) ?_ | refine z00 (c) ?_ | refine And.intro (by omega) ?_ | refine And.intro (fun d hd=>by (repeat (rcases hd with rfl | hd; · exact ⟨rfl,rfl⟩)); cases hd) ?_))
def wideP (w:World):Nat->Nat->Prop:=fun b _=>b < w.heap.size
theorem VR.wide {Pr:Nat->Nat->Prop} {w:World} {d:AV} {v:Value} (h:VR Pr w d v):VR (wideP w) w d v :=
 h.kept ⟨Nat.le_refl _,fun _ _ hb _=>hb,fun _ _ _ _=>rfl,fun _ _ _ _ _ e=>e⟩
theorem EdAt.kept {w w':World} {A:Option Addr} {l:List Edge} (h:EdAt w A l) (hb:Below w.heap.size w w'):EdAt w' A l:=fun i e he=>by
 obtain ⟨b,off,h1,h2,h3,h4⟩:=h i e he
 exact ⟨b,off,h1,Nat.lt_of_lt_of_le h2 hb.size,(hb.cell (p:=⟨b,_,none⟩) h2).trans h3,(hb.cell (p:=⟨b,_,none⟩) h2).trans h4⟩
theorem sortedB_at {w:World} {g:Nat} {es:List (Int × AV)} {D:DataW Unit} (ho:w.ownsMap Tryz.prog 3 R1 g es.length D) (hk:Kys es D) (hs:es.length≤1000000) :
  Calls Tryz.prog 27 #[.func (.func 54) #[] #[.pointer (some ⟨w.heap.size,0,none⟩)]] (w.alloc (.cells #[.map (some g)] 56)) fun e w'=>∃ (v:Value) (r:List Int),e = .returned v∧Rise r∧(∀ x,x ∈ r ↔ x ∈ es.map (·.1)) ∧
   w'.ownsRow (w.alloc (.cells #[.map (some g)] 56)).heap.size 3 1 v r.length (r.map (Value.int .i64))∧Below (w.alloc (.cells #[.map (some g)] 56)).heap.size (w.alloc (.cells #[.map (some g)] 56)) w' :=
 zt1 (by simp) (by rw [z0c (heap_alloc w _).1]; rfl) (ho.alloc _) hk hs
end
section
open Go.RowKit Go.MapKept
theorem del_calls (s:Tst) (hs0:s.ok) {w0 W:World} {base:Nat} (hb:base≤w0.heap.size) (hG:Glob w0) (hW:Below w0.heap.size w0 W) {v c:Value} {r:List Int} (hr:r.length≤1000000)
  (hrow:W.ownsRow w0.heap.size 3 1 v r.length (r.map (Value.int .i64))) (hc:VR (fun b _=>base≤b) w0 (clI s) c) :
  Calls Tryz.prog 26 #[v,c] W fun e w'=>∃ v',e = .returned v'∧Below w0.heap.size w0 w'∧VR (fun b _=>base≤b) w' (.sl ((z5d s r).map (AV.int .i64))) v':=by
 obtain ⟨μ,hμ⟩:∃ μ:Nat->Option Nat,μ = fun k=>if k = 0 then v.ownBlock else none:=⟨_,rfl⟩
 obtain ⟨H,hH⟩:∃ H:Nat->Option Arr,H = fun k=>if k = 0 then ObjI r else none:=⟨_,rfl⟩
 have hμs:∀ k g,μ k = some g->k = 0∧v.ownBlock = some g∧w0.heap.size≤g∧g < W.heap.size:=fun k g h=>by
  subst hμ
  dsimp only at h
  by_cases hk:k = 0
  ·rw [if_pos hk] at h
   refine ⟨hk,h,?_⟩
   rcases hrow.2 with ⟨q1,_⟩ | ⟨g',cap,cur,q1,q2,q3,_⟩
   ·rw [q1] at h; cases h
   ·rw [q1] at h
    cases h
    exact ⟨q2,z2l q3⟩
  ·rw [if_neg hk] at h; cases h
 have kept:Kept (fun b _=>base≤b) (PrOf ⟨w0,fun _ _=>False⟩ (fun b _=>base≤b) μ H) w0 W :=
  ⟨hW.size,fun b o hb2 hp=>⟨fun _=>hp,fun k hk=>by have:=(hμs k b hk).2.2.1; omega⟩,fun b o h _=>hW.cell (p:=⟨b,o,none⟩) h,fun b ms c h _ e=>by rw [hW.block b h]; exact e⟩
 have hSR:SR ⟨w0,fun _ _=>False⟩ (fun b _=>base≤b) 0 μ ⟨fun _=>.und,H⟩ ⟨#[],[]⟩ W:=by
  refine ⟨hW,fun a b g h1 h2=>by rw [(hμs a g h1).1,(hμs b g h2).1],fun a g h=>(hμs a g h).2.2,fun a g h=>?_,rfl,fun t=>trivial,fun a arr h=>?_,rfl,hG,by omega,fun d v h=>h.elim⟩
  ·have:=(hμs a g h).1
   subst hH; subst this; rfl
  ·subst hH
   dsimp only at h
   by_cases ha:a = 0
   ·rw [if_pos ha] at h
    subst ha
    unfold ObjI at h
    cases h
    refine ⟨Nat.zero_lt_one,Nat.zero_le _,fun d hd=>?_,?_⟩
    ·obtain ⟨x,_,rfl⟩:=List.mem_map.1 hd
     exact ⟨rfl,fun c hc=>by
      have:c = .int .i64 x:=by simpa [AV.cells] using hc
      subst this; rfl⟩
    ·subst hμ
     dsimp only
     rw [if_pos rfl]
     rcases hrow.2 with ⟨q1,q2⟩ | ⟨g,cap,cur,q1,q2,q3,q4,q5,q6,q7⟩
     ·have:r = []:=List.length_eq_zero_iff.1 q2
      rw [q1,this]; rfl
     ·rw [q1]
      refine .inr ⟨cur,q3,by rw [List.length_map]; omega,fun i d j c hi hj=>?_⟩
      rw [List.getElem?_map] at hi
      obtain ⟨x,hx,rfl⟩:=Option.map_eq_some_iff.1 hi
      have hi':=(List.getElem?_eq_some_iff.1 hx).1
      match j,hj with
      | 0,hj =>
       cases hj
       have h1:(cur.toList.take (r.length * 1))[i]? = (r.map (Value.int .i64))[i]?:=by rw [q7]
       rw [List.getElem?_take,if_pos (by omega),Array.getElem?_toList,List.getElem?_map,hx] at h1
       exact ⟨_,by rw [show i * 1 + 0 = i by omega]; exact h1,.int _ _⟩
   ·rw [if_neg ha] at h; cases h
 obtain ⟨H',hM⟩:=dI_ok s hs0 H 0 r hr (by rw [hH]; rfl)
 refine (hM.calls ⟨w0,fun _ _=>False⟩ _ 0 μ (fun _=>.und) ⟨#[],[]⟩ W [v,c] hSR rfl fun j d u h1 h2=>?_).mono ?_
 ·match j with
  | 0 =>
   cases h1; cases h2
   intro arr ha
   have ha':arr = ⟨1,3,r.map (AV.int .i64),0⟩:=by
    subst hH
    dsimp only at ha
    rw [if_pos rfl] at ha
    unfold ObjI at ha
    cases ha; rfl
   subst ha'
   rcases hrow.2 with ⟨q1,q2⟩ | ⟨g,cap,cur,q1,q2,q3,q4,q5,q6,q7⟩
   ·exact .inl ⟨by subst hμ; dsimp only; rw [if_pos rfl,q1]; rfl,q1,rfl,q2⟩
   ·exact .inr ⟨g,cap,cur,by subst hμ; dsimp only; rw [if_pos rfl,q1]; rfl,.inl (by rw [q1]; simp),q3,by simpa using q6.symm,by simp,q4,q5⟩
  | 1 =>
   cases h1; cases h2
   exact hc.kept kept
  | j + 2=>simp at h1
 ·rintro e w' ⟨v',μ',rfl,hS,hV⟩
  refine ⟨v',rfl,hS.below,hV.kept ⟨Nat.le_refl _,fun b o _ hp=>?_,fun _ _ _ _=>rfl,fun _ _ _ _ _ e=>e⟩⟩
  by_cases h:b < w0.heap.size
  ·exact hp.1 h
  ·omega
def stuT (l:List Edge):Tst:=⟨29,[.rp [.mv (avE (grL l))]],fun n=>!decide (n ∈ zri l n)⟩
theorem stuT_ok (l:List Edge) (hl:l.length≤400000):(stuT l).ok:=⟨fun n=>stu1_ok l hl n⟩
theorem keep_stuck {l:List Edge} {r:List Int} (hr:Rise r) (hm:∀ x,x ∈ r ↔ x ∈ (avE (grL l)).map (·.1)):z5d (stuT l) r = zcl l:=by
 refine zsw (List.Pairwise.filter _ hr) fun n=>?_
 unfold z5d
 rw [List.mem_filter,hm n,y6z,(zjp l).keys]
 have:(stuT l).has n = !decide (n ∈ zri l n):=rfl
 rw [this,Bool.not_not,decide_eq_true_eq,mem_seenL]
theorem zs7 (l:List Edge):(grL l).length≤l.length:=by
 have:=z7u (zjp l).nodup (b:=l.map (·.1)) fun b hb=>((zjp l).keys b).1 hb
 rwa [List.length_map,List.length_map] at this
theorem grp_own {w:World} {base gm:Nat} {l:List Edge} {ms:Array MapEntry} {c:Nat} (hG:Grp w base gm (grL l) ms c) (hin:∀ e,e ∈ l->I64 e.1) (hl:l.length≤1000000) :
  ∃ D,w.ownsMap Tryz.prog 3 R1 gm (avE (grL l)).length D∧Kys (avE (grL l)) D:=by
 have hlen:(avE (grL l)).length = (grL l).length:=by simp [avE]
 have hg:=zs7 l
 refine own_map hG.map hG.st (by rw [hlen]; exact hG.len) (fun i e m he hm=>?_) (fun n hn=>?_) (by omega)
 ·simp only [avE,List.getElem?_map] at he
  obtain ⟨e',h3,rfl⟩:=Option.map_eq_some_iff.1 he
  exact hG.key i e' m h3 hm
 ·rw [y6z,(zjp l).keys] at hn
  obtain ⟨e,he,rfl⟩:=List.mem_map.1 hn
  exact hin e he
abbrev w2Of (w1:World) (gm:Nat):World:=w1.alloc (.cells #[.map (some gm)] 56)
abbrev w3Of (w1:World) (gm:Nat):World:=(w2Of w1 gm).alloc (.cells #[.map (some gm)] 56)
theorem sortedG_at {w1:World} {base gm:Nat} {l:List Edge} {ms:Array MapEntry} {c:Nat} (hG:Grp w1 base gm (grL l) ms c) (hin:∀ e,e ∈ l->I64 e.1) (hl:l.length≤400000) :
  Calls Tryz.prog 27 #[.func (.func 54) #[] #[.pointer (some ⟨w1.heap.size + 1,0,none⟩)]] (w3Of w1 gm) fun e w'=>∃ (v:Value) (r:List Int),e = .returned v∧Rise r∧(∀ x,x ∈ r ↔ x ∈ (avE (grL l)).map (·.1)) ∧
   w'.ownsRow (w3Of w1 gm).heap.size 3 1 v r.length (r.map (Value.int .i64))∧Below (w3Of w1 gm).heap.size (w3Of w1 gm) w':=by
 obtain ⟨D,h1,h2⟩:=grp_own (hG.alloc (.cells #[.map (some gm)] 56)) hin (by omega)
 rw [show w1.heap.size + 1 = (w2Of w1 gm).heap.size from by simp]
 exact sortedB_at h1 h2 (by have:=zs7 l; simp [avE]; omega)
theorem delG_at {w w1 w4:World} {base:Nat} {l:List Edge} {ms:Array MapEntry} {c:Nat} (hg:Glob w) (hbase:w.heap.size = base) (hB1:Below base w w1) (hG:Grp w1 (base + 1) base (grL l) ms c) (hl:l.length≤400000) {v:Value} {r:List Int} (hr:Rise r)
  (hm:∀ x,x ∈ r ↔ x ∈ (avE (grL l)).map (·.1)) (hrow:w4.ownsRow (w3Of w1 base).heap.size 3 1 v r.length (r.map (Value.int .i64))) (hB:Below (w3Of w1 base).heap.size (w3Of w1 base) w4) :
  Calls Tryz.prog 26 #[v,.func (.func 29) #[] #[.pointer (some ⟨w1.heap.size,0,none⟩)]] w4 fun e w'=>∃ v',e = .returned v'∧Below base w w'∧VR (fun b _=>base≤b) w' (.sl ((zcl l).map (AV.int .i64))) v':=by
 have hs1:base≤w1.heap.size:=Nat.le_trans (Nat.le_of_eq hbase.symm) hB1.size
 have hs3:(w3Of w1 base).heap.size = w1.heap.size + 2:=by unfold w3Of w2Of; simp
 have hB3:Below base w (w3Of w1 base):=(hB1.alloc hs1 _).alloc (by simp; omega) _
 have hG3:Grp (w3Of w1 base) (base + 1) base (grL l) ms c:=(hG.alloc _).alloc _
 have hrl:r.length≤1000000:=by
  have h1:r.Nodup:=hr.imp fun h=>by omega
  have:=z7u h1 fun b hb=>(hm b).1 hb
  rw [List.length_map] at this
  have:=zs7 l
  simp [avE] at *
  omega
 have hcell:(w3Of w1 base).cell? ⟨w1.heap.size,0,none⟩ = some (.map (some base)):=by
  unfold w3Of
  rw [z0c ((Below.heap_alloc (w2Of w1 base) _ w1.heap.size (by unfold w2Of; simp)).trans (heap_alloc w1 _).1)]
  rfl
 have hc:VR (fun b _=>base≤b) (w3Of w1 base) (clI (stuT l)) (.func (.func 29) #[] #[.pointer (some ⟨w1.heap.size,0,none⟩)]):=by
  refine .clo _ [] [.rp [.mv (avE (grL l))]] [] [.pointer (some ⟨w1.heap.size,0,none⟩)] rfl rfl (fun j c v h=>by simp at h) (fun j c v h1 h2=>?_)
  match j with
  | 0 =>
   cases h1; cases h2
   refine .rp _ _ _ (fun _=>.map (some base)) (by omega) (fun j hj=>?_) (fun j c h=>?_)
   ·have:j = 0:=by simp at hj; omega
    subst this
    exact ⟨hs1,hcell⟩
   ·match j with
    | 0=>cases h; exact hG3.out fun b o h=>h
    | j + 1=>simp at h
  | j + 1=>simp at h1
 have h:=del_calls (stuT l) (stuT_ok l hl) (by omega:base≤(w3Of w1 base).heap.size) (Glob.below hg (by rw [hbase]; exact hB3)) hB hrl hrow hc
 rw [keep_stuck hr hm] at h
 refine h.mono ?_
 rintro e w' ⟨v',rfl,hB',hV⟩
 exact ⟨v',rfl,hB3.trans (hB'.mono (by omega)),hV⟩
set_option maxHeartbeats 4000000 in
theorem Stuck_any (l:List Edge) (hl:l.length≤400000) (hin:∀ e,e ∈ l->I64 e.1) (A:Option Addr) (cap:Nat) (w:World) (hG:Glob w) (hE:EdAt w A l) :
  Calls Tryz.prog 10 #[.slice A l.length cap] w fun e w'=>∃ v,e = .returned v∧Below w.heap.size w w'∧VR (fun b _=>w.heap.size≤b) w' (.sl ((zcl l).map (AV.int .i64))) v:=by
 have cG:∀ W:World,W.heap = w.heap->Calls Tryz.prog 25 #[.slice A l.length cap] W fun e w'=>∃ ms c,e = .returned (.map (some w.heap.size))∧Below w.heap.size W w'∧Grp w' (w.heap.size + 1) w.heap.size (grL l) ms c:=fun W hW=>by
  rw [← hW]
  exact graph_any l (by omega) A cap W fun i e he=>by
   obtain ⟨b,off,h1,h2,h3,h4⟩:=hE i e he
   exact ⟨b,off,h1,by rw [hW]; exact h2,by rw [← h3]; unfold World.cell?; rw [hW],by rw [← h4]; unfold World.cell?; rw [hW]⟩
 have hlen:(avE (grL l)).length≤1000000:=by have:=zs7 l; simp [avE]; omega
 obtain ⟨base,hbase⟩:∃ base,w.heap.size = base:=⟨_,rfl⟩
 rw [hbase] at cG
 go_enter Tryz.func10,Tryz.ntmps10
 go_wp2_with (first
  | (go_at_call 25; refine (cG _ rfl).mono ?_; rintro e w1 ⟨ms,c,rfl,hB1,hGr⟩)
  | (go_at_call 28; refine (keysB_ok _ _).mono ?_; rintro e w3 ⟨rfl,rfl⟩)
  | (go_at_call 27; refine (sortedG_at hGr hin hl).mono ?_; rintro e w4 ⟨v,r,rfl,hri,hmem,hrow,hB4⟩)
  | (go_at_call 26; refine (delG_at hG hbase hB1 hGr hl hri hmem hrow hB4).mono ?_; rintro e w5 ⟨v',rfl,hB5,hV⟩))
 go_ret
 exact ⟨v',rfl,by rw [hbase]; exact hB5,by rw [hbase]; exact hV⟩
end
section
open Go.RowKit
attribute [local go_sem ↓] z18 z0h
theorem getW {α:Type} {l:List α} {j:Nat} (h:j < l.length):∃ x,l[j]? = some x:=⟨_,List.getElem?_eq_getElem h⟩
theorem wrapW {j:Nat} (h:j≤1000000000000000):IntKind.i64.wrap ((j:Int) + 1) = ((j + 1:Nat):Int):=by rw [IntWalk.i64_in _ (by omega)]; rfl
theorem takeW {α:Type} {l:List α} {j:Nat} {x:α} (h:l[j]? = some x):l.take (j + 1) = l.take j ++ [x]:=by rw [List.take_add_one,h]; rfl
structure Srt (l out:List Int):Prop where
 rise:Rise out
 sub:∀ x,x ∈ out->x ∈ l
 low:∀ y,y ∈ l->y ∉ out->∀ x,x ∈ out->x < y
theorem Srt.nil (l:List Int):Srt l []:=⟨List.Pairwise.nil,fun x h=>by simp at h,fun y _ _ x h=>by simp at h⟩
theorem Srt.len {l out:List Int} (h:Srt l out):out.length≤l.length:=z7u (h.rise.imp fun h=>by omega) h.sub
theorem Srt.add {l out:List Int} (h:Srt l out) {x:Int} (hx:x ∈ l) (hn:x ∉ out) (hm:∀ y,y ∈ l->y ∉ out->x≤y):Srt l (out ++ [x]):=by
 refine ⟨List.pairwise_append.2 ⟨h.rise,by simp,fun a ha b hb=>?_⟩,fun y hy=>?_,fun y hy hny z hz=>?_⟩
 ·have:b = x:=by simpa using hb
  subst this
  exact h.low _ hx hn a ha
 ·rcases List.mem_append.1 hy with hy | hy
  ·exact h.sub y hy
  ·have:y = x:=by simpa using hy
   subst this; exact hx
 ·have h1:y ∉ out:=fun e=>hny (List.mem_append_left _ e)
  have h2:y ≠ x:=fun e=>hny (by simp [e])
  rcases List.mem_append.1 hz with hz | hz
  ·exact h.low y hy h1 z hz
  ·have:z = x:=by simpa using hz
   subst this
   have:=hm y hy h1
   omega
theorem Srt.all {l out:List Int} (h:Srt l out) (ha:∀ y,y ∈ l->y ∈ out):out = srtI l :=
 z4v h.rise (z4g l) fun x=>by rw [z3f]; exact ⟨h.sub x,ha x⟩
def Bst (l out:List Int) (i:Nat) (b:Int):Prop:=(b = -1∧∀ x,x ∈ l.take i->x ∈ out)∨∃ (j:Nat) (x:Int),b = (j:Int)∧j < i∧l[j]? = some x∧x ∉ out∧∀ y,y ∈ l.take i->y ∉ out->x≤y
theorem Bst.skip {l out:List Int} {i:Nat} {b x:Int} (h:Bst l out i b) (hx:l[i]? = some x) (hn:x ∈ out):Bst l out (i + 1) b:=by
 rcases h with ⟨h1,h2⟩ | ⟨j,y,h1,h2,h3,h4,h5⟩
 ·refine .inl ⟨h1,fun z hz=>?_⟩
  rw [takeW hx] at hz
  rcases List.mem_append.1 hz with hz | hz
  ·exact h2 z hz
  ·have:z = x:=by simpa using hz
   subst this; exact hn
 ·refine .inr ⟨j,y,h1,by omega,h3,h4,fun z hz hnz=>?_⟩
  rw [takeW hx] at hz
  rcases List.mem_append.1 hz with hz | hz
  ·exact h5 z hz hnz
  ·have:z = x:=by simpa using hz
   subst this; exact absurd hn hnz
theorem Bst.keep {l out:List Int} {i j:Nat} {x y:Int} (h:Bst l out i (j:Int)) (hx:l[i]? = some x) (hj:l[j]? = some y) (hle:¬ x < y):Bst l out (i + 1) (j:Int):=by
 rcases h with ⟨h1,h2⟩ | ⟨j',y',h1,h2,h3,h4,h5⟩
 ·omega
 ·have:j' = j:=by omega
  subst this
  rw [hj] at h3
  cases h3
  refine .inr ⟨j',y,rfl,by omega,hj,h4,fun z hz hnz=>?_⟩
  rw [takeW hx] at hz
  rcases List.mem_append.1 hz with hz | hz
  ·exact h5 z hz hnz
  ·have:z = x:=by simpa using hz
   subst this; omega
theorem Bst.new {l out:List Int} {i:Nat} {b x:Int} (h:Bst l out i b) (hx:l[i]? = some x) (hn:x ∉ out) (hlt:∀ (j:Nat) (y:Int),b = (j:Int)->l[j]? = some y->x < y):Bst l out (i + 1) (i:Int):=by
 refine .inr ⟨i,x,rfl,by omega,hx,hn,fun z hz hnz=>?_⟩
 rw [takeW hx] at hz
 rcases List.mem_append.1 hz with hz | hz
 ·rcases h with ⟨h1,h2⟩ | ⟨j,y,h1,h2,h3,h4,h5⟩
  ·exact absurd (h2 z hz) hnz
  ·have:=hlt j y h1 h3
   have:=h5 z hz hnz
   omega
 ·have:z = x:=by simpa using hz
  subst this; omega
end
section
open Go.RowKit
theorem atE {l:List Edge} {j:Nat} {e:Edge} (h:l[j]? = some e):(l.map edA).getD j .und = .agg [.int .i64 e.1,.int .i64 e.2]:=by
 rw [List.getD_eq_getElem?_getD,List.getElem?_map,h]; rfl
def EdOk (l:List Edge):Prop:=∀ e,e ∈ l->I64 e.1∧I64 e.2
theorem Stuck_ok (l:List Edge) (hl:l.length≤400000) (hi:EdOk l):AFn Tryz.prog 10 [.sl (l.map edA)] (.sl ((zcl l).map (AV.int .i64))):=by
 refine ⟨by kernel_rfl,fun w Pr vs hG hPr hlen hvs=>?_⟩
 match vs,hlen with
 | [v0],_ =>
  obtain ⟨A,cap,rfl,h1,h2,hE⟩:=EdAt.of (hvs 0 _ v0 rfl rfl)
  refine (Stuck_any l hl (fun e he=>(hi e he).1) A cap w hG hE).mono ?_
  rintro e w' ⟨v,rfl,hB,hV⟩
  exact ⟨_,rfl,hB,hV.kept ⟨Nat.le_refl _,fun _ _ _ h=>.inr h,fun _ _ _ _=>rfl,fun _ _ _ _ _ e=>e⟩⟩
end
section
open Go.RowKit Go.Sort Go.Shelf Go.Lib
theorem zrn {w:World} {g:Nat} {cs:Array Value} {ty:TypeId} (hb:w.heap[g]? = some (.cells cs ty (0,0))) (F:Array Value):putRow id w g 0 F = w.setRow g (putCells id 0 F cs):=by
 unfold putRow mapBlock World.setRow
 congr 1
 refine Array.ext_getElem? fun k=>?_
 simp only [Array.getElem?_modify]
 by_cases hk:g = k
 ·subst hk
  simp only [if_true,hb,Option.map_some,onCells]
 ·simp [hk]
theorem y12 {F cs:Array Value} (h:F.size≤cs.size) {q:Nat} (hq:q < F.size):(putCells id 0 F cs)[q]? = some F[q]!:=by
 unfold putCells
 rw [Array.getElem?_mapIdx,Array.getElem?_eq_getElem (by omega)]
 simp [hq]
theorem y3t (w:World) (os:Array Obj):Below w.heap.size w (grow w os) :=
 ⟨rfl,rfl,rfl,by simp [grow],fun k hk=>by simp [grow,Array.getElem?_append_left hk]⟩
section
variable {w0:Start} {Pr0:Nat->Nat->Prop} {n:Nat} {μ:Nat->Option Nat} {σ:St} {a:Act} {w:World}
theorem SR.sorted (h:SR w0 Pr0 n μ σ a w) {r g:Nat} {arr:Arr} (ha:σ.H r = some arr) (hp:arr.prot = 0) (hg:μ r = some g) {cs:Array Value} (f1:w.heap[g]? = some (.cells cs arr.ty (0,0))) {l':List AV} (hl:l'.length = arr.cells.length) {F:Array Value} (hF:F.size = l'.length * arr.z) (hcs:F.size≤cs.size)
  (hones:∀ y,y ∈ l'->y.cells.length = arr.z∧∀ c,c ∈ y.cells->c.one = true)
  (hel:∀ (i:Nat) (x:AV) (j:Nat) (c:AV),l'[i]? = some x->x.cells[j]? = some c->VR (PrOf w0 Pr0 μ σ.H) w c F[i * arr.z + j]!) (m:Nat) (os:Array Obj) :
  SR w0 Pr0 n μ ⟨σ.T,upd σ.H r (some { arr with cells:=l' })⟩ a (Go.Sort.grow (putRow id (Sort.ahead w m) g 0 F) os):=by
 have h1:SR w0 Pr0 n μ σ a (Sort.ahead w m):=h.grow ⟨rfl,rfl,rfl,Nat.le_refl _,fun _ _=>rfl⟩
 have f2:(Sort.ahead w m).heap[g]? = some (.cells cs arr.ty (0,0)):=f1
 rw [zrn f2]
 refine (h1.redo ha hg f2 hl (by simp [putCells]) (fun q hq=>by rw [hp] at hq; omega) hones fun i x j c hi hj=>?_).grow (y3t _ os)
 have hil:i < l'.length:=(List.getElem?_eq_some_iff.1 hi).1
 have hjl:j < arr.z:=by rw [← (hones x (List.mem_of_getElem? hi)).1]; exact (List.getElem?_eq_some_iff.1 hj).1
 have hlt:i * arr.z + j < F.size:=by
  rw [hF]
  have:(i + 1) * arr.z≤l'.length * arr.z:=Nat.mul_le_mul_right _ hil
  rw [Nat.add_mul,Nat.one_mul] at this
  omega
 exact ⟨_,y12 hcs hlt,VR.kept (w:=w) (w':=Sort.ahead w m) ⟨Nat.le_refl _,fun _ _ _ h=>h,fun _ _ _ _=>rfl,fun _ _ _ _ _ e=>e⟩ (hel i x j c hi hj)⟩
end
def ObjE (X:List Edge):Option Arr:=some ⟨2,66,X.map edA,0⟩
def encE (e:Edge):List Value:=[.int .i64 e.1,.int .i64 e.2]
def cmpE (a b:Edge):Int:=if Lib.compareInt a.1 b.1 = 0 then Lib.compareInt a.2 b.2 else Lib.compareInt a.1 b.1
def orZ (x y:Int):Int:=if x = 0 then y else x
set_option maxHeartbeats 1000000 in
theorem or_calls (x y:Int) (b:Nat) (W:World) (h0:W.cell? ⟨b,0,none⟩ = some (.int .i64 x)) (h1:W.cell? ⟨b,1,none⟩ = some (.int .i64 y)) :
  Calls Tryz.prog 34 #[.slice (some ⟨b,0,none⟩) 2 2] W fun e w'=>e = .returned (.int .i64 (orZ x y))∧∃ q os',w' = grow (W.drewN q) os':=by
 go_enter Tryz.func34,Tryz.ntmps34
 go_wp2
 by_cases hx:x = 0
 ·subst hx
  by_cases hy:y = 0
  ·subst hy
   refine wp_loop_rounds 3 ?_
   rw [rounds_succ]
   go_wp2
   rw [rounds_succ]
   go_wp2
   rw [rounds_succ]
   go_wp2
   go_ret
   exact ⟨rfl,0,#[],by simp [World.drewN]⟩
  ·have hy':(y != 0) = true:=by simpa using hy
   refine wp_loop_rounds 2 ?_
   rw [rounds_succ]
   go_wp2
   rw [rounds_succ]
   go_wp2
   go_ret
   exact ⟨by simp [orZ],0,#[],by simp [World.drewN]⟩
 ·have hx':(x != 0) = true:=by simpa using hx
  refine wp_loop_rounds 1 ?_
  rw [rounds_succ]
  go_wp2
  go_ret
  exact ⟨by simp [orZ,hx],0,#[],by simp [World.drewN]⟩
set_option maxHeartbeats 1000000 in
theorem cmp_calls (x y:Edge) (W:World):Calls Tryz.prog 33 #[.agg #[.int .i64 x.1,.int .i64 x.2],.agg #[.int .i64 y.1,.int .i64 y.2]] W fun e w'=>e = .returned (.int .i64 (cmpE x y))∧∃ q os',w' = Go.Sort.grow (W.drewN q) os':=by
 have h1:=fun W'=>Tryz.cmp_Compare_int x.1 y.1 W'
 have h2:=fun W'=>Tryz.cmp_Compare_int x.2 y.2 W'
 have e0:cmpE x y = orZ (Lib.compareInt x.1 y.1) (Lib.compareInt x.2 y.2):=rfl
 rw [e0]
 generalize Lib.compareInt x.1 y.1 = r1 at h1 ⊢
 generalize Lib.compareInt x.2 y.2 = r2 at h2 ⊢
 generalize x.1 = x1 at h1 ⊢
 generalize x.2 = x2 at h2 ⊢
 generalize y.1 = y1 at h1 ⊢
 generalize y.2 = y2 at h2 ⊢
 go_enter Tryz.func33,Tryz.ntmps33
 go_wp2_with fail
 obtain ⟨W2,hW2⟩:∃ W2,((W.alloc (Obj.cells #[Value.int IntKind.i64 x1,Value.int IntKind.i64 x2] 66)).alloc (Obj.cells #[Value.int IntKind.i64 y1,Value.int IntKind.i64 y2] 66)) = W2:=⟨_,rfl⟩
 have z0:W2.cell? ⟨W.heap.size,0,none⟩ = some (.int .i64 x1):=by
  rw [← hW2,z0c ((Below.heap_alloc _ _ W.heap.size (by simp)).trans (Go.MapKept.heap_alloc W _).1)]; rfl
 have z1:W2.cell? ⟨W.heap.size,1,none⟩ = some (.int .i64 x2):=by
  rw [← hW2,z0c ((Below.heap_alloc _ _ W.heap.size (by simp)).trans (Go.MapKept.heap_alloc W _).1)]; rfl
 have z2:W2.cell? ⟨W.heap.size + 1,0,none⟩ = some (.int .i64 y1):=by
  have:=(Go.MapKept.heap_alloc (W.alloc (Obj.cells #[Value.int IntKind.i64 x1,Value.int IntKind.i64 x2] 66)) (Obj.cells #[Value.int IntKind.i64 y1,Value.int IntKind.i64 y2] 66)).1
  rw [hW2] at this
  rw [show W.heap.size + 1 = (W.alloc (Obj.cells #[Value.int IntKind.i64 x1,Value.int IntKind.i64 x2] 66)).heap.size from by simp,z0c this]; rfl
 have z3:W2.cell? ⟨W.heap.size + 1,1,none⟩ = some (.int .i64 y2):=by
  have:=(Go.MapKept.heap_alloc (W.alloc (Obj.cells #[Value.int IntKind.i64 x1,Value.int IntKind.i64 x2] 66)) (Obj.cells #[Value.int IntKind.i64 y1,Value.int IntKind.i64 y2] 66)).1
  rw [hW2] at this
  rw [show W.heap.size + 1 = (W.alloc (Obj.cells #[Value.int IntKind.i64 x1,Value.int IntKind.i64 x2] 66)).heap.size from by simp,z0c this]; rfl
 rw [hW2]
 refine wp_region_still_tail 10 (by kernel_rfl) (by kernel_rfl) ?_
 simp only [List.take_succ_cons,List.take_zero,List.drop_succ_cons,List.drop_zero]
 repeat still_step
 still_call (h1 _)
 repeat still_step
 still_call (h2 _)
 repeat still_step
 try refine wpStill_nil ?_
 change wpList _ _ _ _ _ W2.drew
 have k0:((W2.alloc (Obj.cells #[Value.int IntKind.i64 r1,Value.int IntKind.i64 r2] 3)).drew).cell? ⟨W2.heap.size,0,none⟩ = some (.int .i64 r1):=by
  show (W2.alloc _).cell? _ = _
  rw [z0c (Go.MapKept.heap_alloc W2 _).1]; rfl
 have k1:((W2.alloc (Obj.cells #[Value.int IntKind.i64 r1,Value.int IntKind.i64 r2] 3)).drew).cell? ⟨W2.heap.size,1,none⟩ = some (.int .i64 r2):=by
  show (W2.alloc _).cell? _ = _
  rw [z0c (Go.MapKept.heap_alloc W2 _).1]; rfl
 go_wp2_with (first
  | (go_at_call 34; refine (or_calls r1 r2 W2.heap.size _ k0 k1).mono ?_; rintro e w' ⟨rfl,q,os',rfl⟩))
 go_ret
 refine ⟨rfl,q + 1,#[Obj.cells #[Value.int IntKind.i64 x1,Value.int IntKind.i64 x2] 66,Obj.cells #[Value.int IntKind.i64 y1,Value.int IntKind.i64 y2] 66,Obj.cells #[Value.int IntKind.i64 r1,Value.int IntKind.i64 r2] 3] ++ os',?_⟩
 rw [← hW2]
 rw [alloc_eq_grow,alloc_eq_grow,alloc_eq_grow,grow_grow,grow_grow]
 show Go.Sort.grow (Go.Sort.grow (W.drewN (1 + q)) _) os' = _
 rw [grow_grow,Nat.add_comm 1 q]
 rfl
theorem zdv {a b:Edge}:ltOf cmpE a b = decide (LtE a b):=by
 have h:∀ x y:Int,(Lib.compareInt x y = 0 ↔ x = y)∧(Lib.compareInt x y < 0 ↔ x < y):=fun x y=>by
  unfold Lib.compareInt
  by_cases h1:x < y
  ·simp [h1]; omega
  ·by_cases h2:y < x
   ·simp [h1,h2]; omega
   ·simp [h1,h2]; omega
 unfold ltOf
 refine decide_eq_decide.2 ?_
 unfold cmpE LtE
 by_cases h1:a.1 = b.1
 ·rw [if_pos ((h a.1 b.1).1.2 h1),(h a.2 b.2).2]; omega
 ·rw [if_neg (fun e=>h1 ((h a.1 b.1).1.1 e)),(h a.1 b.1).2]; omega
theorem swoE:SWO (ltOf cmpE) where
 irrefl x:=by rw [zdv]; simp [LtE]
 trans x y z h1 h2:=by rw [zdv] at *; simp only [decide_eq_true_eq] at *; exact h1.trans h2
 ntrans x y z h1 h2:=by rw [zdv] at *; simp only [decide_eq_false_iff_not] at *; unfold LtE at *; omega
theorem totE (x y:Edge) (h1:ltOf cmpE x y = false) (h2:ltOf cmpE y x = false):x = y:=by
 rw [zdv] at *
 simp only [decide_eq_false_iff_not] at *
 rcases LtE.tri x y with h | h | h
 ·exact absurd h h1
 ·exact h
 ·exact absurd h h2
def msE (l:List Edge):List Edge:=l.mergeSort fun x y=>!(ltOf cmpE) y x
theorem mem_msE {l:List Edge} {e:Edge}:e ∈ msE l ↔ e ∈ l:=List.mem_mergeSort
theorem zbt {l:List Edge}:(msE l).length = l.length:=List.length_mergeSort l
end
section
open Go.RowKit Go.Sort Go.Shelf Go.Lib
theorem y7s {l:List Edge} {i:Nat} {e:Edge} (he:l[i]? = some e) {j:Nat} (hj:j < 2):(flatK encE 2 l.toArray)[i * 2 + j]! = (encE e)[j]!:=by
 obtain ⟨hlt,h⟩:=List.getElem?_eq_some_iff.1 he
 rw [get_flatK _ _ _ _ (by simp; omega),show (i * 2 + j) / 2 = i by omega,show (i * 2 + j) % 2 = j by omega]
 have:l.toArray[i]! = e:=by
  rw [getElem!_pos _ _ (by simpa using hlt)]
  simpa using h
 rw [this]
theorem y7z {e:Edge} {j:Nat} {c:AV} (h:(edA e).cells[j]? = some c):j < 2∧∃ m,c = .int .i64 m∧(encE e)[j]! = .int .i64 m:=by
 match j with
 | 0=>cases h; exact ⟨by omega,_,rfl,rfl⟩
 | 1=>cases h; exact ⟨by omega,_,rfl,rfl⟩
 | j + 2=>simp [edA,AV.cells] at h
theorem sf_ok (H:Nat->Option Arr) (r:Nat) (l:List Edge) (hl:l.length≤1000000) (hr:H r = ObjE l) :
  MFn Tryz.prog 32 [.rs r 0 l.length,.clo 33 [] []] H (.tup []) (upd H r (ObjE (msE l))):=by
 refine ⟨by kernel_rfl,fun w0 Pr0 n μ T a w vs hS hlen hvs=>?_⟩
 match vs,hlen with
 | [v0,v1],_ =>
  have t1:VR _ w (.clo 33 [] []) v1:=hvs 1 _ v1 rfl rfl
  have e1:v1 = .func (.func 33) #[] #[]:=by
   cases t1 with
   | clo _ _ _ vf vc hf hc h1 h2 =>
    have:vf = []:=List.length_eq_zero_iff.1 hf.symm
    have:vc = []:=List.length_eq_zero_iff.1 hc.symm
    subst_vars; rfl
  subst e1
  have tup:∀ (Pr:Nat->Nat->Prop) (w:World),VR Pr w (.tup []) (.tuple #[]):=fun Pr w=>VR.tup [] [] rfl fun j c v h=>by simp at h
  rcases hvs 0 _ v0 rfl rfl _ hr with ⟨m1,m2,_,m4⟩ | ⟨g,cap,cs,m1,m2,m3,m4,m5,m6,m7⟩
  ·have hl0:l = []:=List.length_eq_zero_iff.1 m4
   subst hl0
   subst m2
   refine (Tryz.slices_SortFunc_none (α:=Edge) none 0 _ w).mono ?_
   rintro e w' ⟨rfl,rfl⟩
   refine ⟨_,μ,rfl,?_,tup _ _⟩
   have h0:msE [] = []:=by simp [msE]
   rw [h0,z3e H r _ hr]
   exact hS
  ·have hv:=m2.exact0 (Nat.zero_mul _)
   subst hv
   obtain ⟨o1,o2,o3,o4⟩:=hS.obj r _ hr
   rw [m1] at o4
   have hcs:∀ (i:Nat) (e:Edge) (j:Nat),l[i]? = some e->j < 2->cs[i * 2 + j]? = some (encE e)[j]!:=by
    intro i e j he hj
    rcases o4 with ⟨q,ms,c,q'⟩ | ⟨cs0,q1,q2,q3⟩
    ·rw [m3] at q'; cases q'
    ·rw [m3] at q1
     cases q1
     have hd:(l.map edA)[i]? = some (edA e):=by rw [List.getElem?_map,he]; rfl
     match j,hj with
     | 0,_ =>
      obtain ⟨u,u1,u2⟩:=q3 i _ 0 (.int .i64 e.1) hd rfl
      rw [VR.int_of u2] at u1; exact u1
     | 1,_ =>
      obtain ⟨u,u1,u2⟩:=q3 i _ 1 (.int .i64 e.2) hd rfl
      rw [VR.int_of u2] at u1; exact u1
   have hsz:cs.size = cap * 2:=by simpa using m4.symm
   have hH:HoldsK encE 2 w g 0 l.toArray:=by
    intro t ht
    have ht':t < l.length * 2:=by simpa using ht
    have hi:t / 2 < l.length:=by omega
    have he:l[t / 2]? = some l[t / 2]:=List.getElem?_eq_getElem hi
    refine ⟨?_,by simp [World.frozen?,m3]⟩
    rw [z0c m3,Nat.zero_add]
    have h1:=hcs _ _ (t % 2) he (by omega)
    have h2:=y7s he (j:=t % 2) (by omega)
    rw [show t / 2 * 2 + t % 2 = t by omega] at h1 h2
    rw [h1,h2]; rfl
   have eg:∀ args w,(callFunc 33 args).run Tryz.prog w = .ok (.enter 33 args) w:=enters_of Tryz.func33 (by kernel_rfl) rfl
   have hcon:=Tryz.slices_SortFunc_total 2 Tryz.isAgg66 Tryz.sizeOf66 encE (fun _=>rfl) (fun x v hv=>by simp [encE] at hv; rcases hv with rfl | rfl <;> rfl) cmpE swoE 33 #[] g 0 cap l.toArray w eg
    (fun _ _ _ _ x y=>cmp_calls x y _) hH (z2l m3) (by simp; omega) totE
   rw [show l.toArray.size = l.length by simp] at hcon
   refine hcon.mono ?_
   rintro e w' ⟨rfl,k,os,rfl⟩
   refine ⟨_,μ,rfl,?_,tup _ _⟩
   have hms:(l.toArray.toList.mergeSort fun x y=>!(ltOf cmpE) y x).toArray = (msE l).toArray:=rfl
   rw [hms]
   have hlm:(msE l).length = l.length:=zbt
   refine hS.sorted (σ:=⟨T,H⟩) hr rfl m1 m3 (l':=(msE l).map edA) (by simp [hlm]) (F:=flatK encE 2 (msE l).toArray) (by simp) (by simp [hlm]; omega) (fun y hy=>?_) (fun i x j c hi hj=>?_) k os
   ·obtain ⟨e,_,rfl⟩:=List.mem_map.1 hy
    refine ⟨rfl,fun c hc=>?_⟩
    obtain ⟨j,hj⟩:=List.mem_iff_getElem?.1 hc
    obtain ⟨_,m,rfl,_⟩:=y7z hj
    rfl
   ·rw [List.getElem?_map] at hi
    obtain ⟨e,he,rfl⟩:=Option.map_eq_some_iff.1 hi
    obtain ⟨hj2,m,rfl,hm⟩:=y7z hj
    show VR _ _ _ (flatK encE 2 (msE l).toArray)[i * 2 + j]!
    rw [y7s he hj2,hm]
    exact .int _ _
end
section
open Go.RowKit
attribute [local go_sem ↓] z18 z0h
def r_cpt_0:Reg:=⟨[],[⟨.mknil 2 66,some 2,none,[],[]⟩],[2],[],false⟩
def r_cpt_1:List XOp:=[(.op [] ⟨.mv (.t 0),some 6,none,[],[]⟩),(.op [] ⟨.len false (.t 6),some 7,none,[],[]⟩),(.op [] ⟨.bin .lss (.t 7) (.c (.int .i64 2)),some 8,none,[],[]⟩)]
def r_cpt_2:Reg:=⟨[],[⟨.mv (.t 0),some 9,none,[],[]⟩,⟨.mv (.t 9),some 2,none,[],[]⟩],[],[],false⟩
def r_cpt_3:Reg:=⟨[],[⟨.mv (.c (.int .i64 1)),some 3,none,[],[]⟩],[],[],false⟩
def y0e:List ROp:=[⟨.mv (.t 3),some 10,none,[],[]⟩,⟨.mv (.t 0),some 11,none,[],[]⟩,⟨.len false (.t 11),some 12,none,[],[]⟩,⟨.bin .lss (.t 10) (.t 12),some 13,none,[],[]⟩]
def r_cpt_4:Reg:=⟨[],y0e,[],[],false⟩
def y1t:List ROp:=[⟨.mv (.t 0),some 16,none,[],[]⟩,⟨.mv (.t 3),some 17,none,[],[]⟩,⟨.iaddr 2 (.t 16) (.t 17),some 18,none,[],[]⟩,⟨.load 2 true (.t 18),some 19,none,[],[]⟩,⟨.mv (.t 0),some 20,none,[],[]⟩,⟨.mv (.t 3),some 21,none,[],[]⟩,⟨.bin .sub (.t 21) (.c (.int .i64 1)),some 22,none,[],[]⟩,⟨.iaddr 2 (.t 20) (.t 22),some 23,none,[],[]⟩,⟨.load 2 true (.t 23),some 24,none,[],[]⟩]
def r_cpt_5:Reg:=⟨y1t,[⟨.feq false [(0,0),(1,0)] (.t 19) (.t 24),some 25,none,[],[]⟩],[],[],true⟩
def y0d:List ROp:=[⟨.mv (.t 0),some 26,none,[],[]⟩,⟨.mv (.t 3),some 27,none,[],[]⟩,⟨.slc true 2 (.t 26) (some (.t 27)) none,some 28,none,[],[]⟩,⟨.mv (.t 28),some 4,none,[],[]⟩]
def r_cpt_6:Reg:=⟨[],y0d,[],[],false⟩
def r_cpt_7:Reg:=⟨[],[⟨.mv (.c (.int .i64 1)),some 5,none,[],[]⟩],[],[],false⟩
def y0c:List ROp:=[⟨.mv (.t 5),some 29,none,[],[]⟩,⟨.mv (.t 4),some 30,none,[],[]⟩,⟨.len false (.t 30),some 31,none,[],[]⟩,⟨.bin .lss (.t 29) (.t 31),some 32,none,[],[]⟩]
def r_cpt_8:Reg:=⟨[],y0c,[],[],false⟩
def y1s:List ROp:=[⟨.mv (.t 4),some 35,none,[],[]⟩,⟨.mv (.t 5),some 36,none,[],[]⟩,⟨.iaddr 2 (.t 35) (.t 36),some 37,none,[],[]⟩,⟨.load 2 true (.t 37),some 38,none,[],[]⟩,⟨.mv (.t 4),some 39,none,[],[]⟩,⟨.mv (.t 5),some 40,none,[],[]⟩,⟨.bin .sub (.t 40) (.c (.int .i64 1)),some 41,none,[],[]⟩,⟨.iaddr 2 (.t 39) (.t 41),some 42,none,[],[]⟩,⟨.load 2 true (.t 42),some 43,none,[],[]⟩]
def r_cpt_9:Reg:=⟨y1s,[⟨.feq true [(0,0),(1,0)] (.t 38) (.t 43),some 44,none,[],[]⟩],[],[],true⟩
def zrc:List ROp:=[⟨.mv (.t 0),some 45,none,[],[]⟩,⟨.mv (.t 3),some 46,none,[],[]⟩,⟨.mv (.t 4),some 47,none,[],[]⟩,⟨.mv (.t 5),some 48,none,[],[]⟩,⟨.iaddr 2 (.t 47) (.t 48),some 49,none,[],[]⟩,⟨.load 2 true (.t 49),some 50,none,[],[]⟩,⟨.iaddr 2 (.t 45) (.t 46),some 51,none,[],[]⟩,⟨.store 2 (.t 51) (.t 50),none,none,[],[]⟩]
def y6e:Reg:=⟨[],zrc,[],[],false⟩
def zrb:List ROp:=[⟨.mv (.t 3),some 52,none,[],[]⟩,⟨.bin .add (.t 52) (.c (.int .i64 1)),some 53,none,[],[]⟩,⟨.mv (.t 53),some 3,none,[],[]⟩]
def y6d:Reg:=⟨[],zrb,[],[],false⟩
def zra:List ROp:=[⟨.mv (.t 5),some 33,none,[],[]⟩,⟨.bin .add (.t 33) (.c (.int .i64 1)),some 34,none,[],[]⟩,⟨.mv (.t 34),some 5,none,[],[]⟩]
def y6c:Reg:=⟨[],zra,[],[],false⟩
def zx7:IR:=(.seq (.seq (.reg r_cpt_8)
 (.cond (.t 32) .skip
 (.exit 2)))
 (.seq (.block 3 (.seq (.reg r_cpt_9)
 (.cond (.t 44) (.seq (.reg y6e)
 (.reg y6d))
 .skip)))
 (.reg y6c)))
def zr9:List ROp:=[⟨.mv (.t 0),some 54,none,[],[]⟩,⟨.mv (.t 3),some 55,none,[],[]⟩,⟨.slc true 2 (.t 54) (some (.t 55)) none,some 56,none,[],[]⟩,⟨.copy 2 (.t 56) (.c (.agg [(.int .i64 0),(.int .i64 0)])),none,none,[],[]⟩]
def y6b:Reg:=⟨[],zr9,[],[],false⟩
def zr8:List ROp:=[⟨.mv (.t 0),some 57,none,[],[]⟩,⟨.mv (.t 3),some 58,none,[],[]⟩,⟨.slc true 2 (.t 57) none (some (.t 58)),some 59,none,[],[]⟩,⟨.mv (.t 59),some 2,none,[],[]⟩]
def y6a:Reg:=⟨[],zr8,[],[],false⟩
def zr7:List ROp:=[⟨.mv (.t 3),some 14,none,[],[]⟩,⟨.bin .add (.t 14) (.c (.int .i64 1)),some 15,none,[],[]⟩,⟨.mv (.t 15),some 3,none,[],[]⟩]
def y69:Reg:=⟨[],zr7,[],[],false⟩
def zik:IR:=(.seq (.seq (.reg r_cpt_4)
 (.cond (.t 13) .skip
 (.exit 0)))
 (.seq (.block 1 (.seq (.reg r_cpt_5)
 (.cond (.t 25) (.seq (.reg r_cpt_6)
 (.seq (.seq (.reg r_cpt_7)
 (.block 2 (.loop zx7)))
 (.seq (.reg y6b)
 (.seq (.reg y6a)
 .ret))))
 .skip)))
 (.reg y69)))
def y68:Reg:=⟨[],[⟨.mv (.t 0),some 60,none,[],[]⟩,⟨.mv (.t 60),some 2,none,[],[]⟩],[],[],false⟩
def ir_cpt (P:Program):IR:=(.seq (.reg r_cpt_0)
 (.seq (.seq (.regx P r_cpt_1)
 (.cond (.t 8) (.seq (.reg r_cpt_2)
 .ret)
 .skip))
 (.seq (.seq (.reg r_cpt_3)
 (.block 0 (.loop zik)))
 (.seq (.reg y68)
 .ret))))
def res_cpt:List RDesc:=[(.tmp 2)]
theorem e_cpt_0:EqR r_cpt_0 [⟨.mknil 2 66,some 2,none,[],[]⟩] [2]:=fun _ _ _=>rfl
theorem e_cpt_2:EqR r_cpt_2 [⟨.mv (.t 0),some 9,none,[],[]⟩,⟨.mv (.t 9),some 2,none,[],[]⟩] []:=fun _ _ _=>rfl
theorem e_cpt_3:EqR r_cpt_3 [⟨.mv (.c (.int .i64 1)),some 3,none,[],[]⟩] []:=fun _ _ _=>rfl
theorem e_cpt_4:EqR r_cpt_4 y0e []:=fun _ _ _=>rfl
theorem e_cpt_5 (C:FuncId->List AV->AV->Prop) (σ:St) (K:St->Prop):z0l C r_cpt_5 σ K = z08 C [] [⟨.feq false [(0,0),(1,0)] (.t 19) (.t 24),some 25,none,[],[]⟩] y1t (σ.kills []) K:=rfl
theorem e_cpt_6:EqR r_cpt_6 y0d []:=fun _ _ _=>rfl
theorem e_cpt_7:EqR r_cpt_7 [⟨.mv (.c (.int .i64 1)),some 5,none,[],[]⟩] []:=fun _ _ _=>rfl
theorem e_cpt_8:EqR r_cpt_8 y0c []:=fun _ _ _=>rfl
theorem e_cpt_9 (C:FuncId->List AV->AV->Prop) (σ:St) (K:St->Prop):z0l C r_cpt_9 σ K = z08 C [] [⟨.feq true [(0,0),(1,0)] (.t 38) (.t 43),some 44,none,[],[]⟩] y1s (σ.kills []) K:=rfl
theorem e_cpt_10:EqR y6e zrc []:=fun _ _ _=>rfl
theorem e_cpt_11:EqR y6d zrb []:=fun _ _ _=>rfl
theorem e_cpt_12:EqR y6c zra []:=fun _ _ _=>rfl
theorem e_cpt_14:EqR y6b zr9 []:=fun _ _ _=>rfl
theorem e_cpt_15:EqR y6a zr8 []:=fun _ _ _=>rfl
theorem e_cpt_16:EqR y69 zr7 []:=fun _ _ _=>rfl
theorem e_cpt_18:EqR y68 [⟨.mv (.t 0),some 60,none,[],[]⟩,⟨.mv (.t 60),some 2,none,[],[]⟩] []:=fun _ _ _=>rfl
theorem y1w {args:List AV} {r:AV} {H H':Nat->Option Arr} (ha:args.length.ble Tryz.f36.ntmps = true) (h:run (AFn Tryz.prog) (ir_cpt Tryz.prog) (endM res_cpt r H') (zkp args H)):MFn Tryz.prog 36 args H r H' :=
 MFn.of_code (pv:=true) (hint:=fun i=>if [1].contains i then [1] else []) (c:=Tryz.f36.body.getD .skip) (by kernel_rfl) (by kernel_rfl) Tryz.func36 (by kernel_rfl) (by kernel_rfl) (by kernel_rfl) (of_decide_eq_true (by kernel_rfl)) (Nat.le_of_ble_eq_true ha) (Nat.le_of_ble_eq_true (by kernel_rfl)) (z09 h)
attribute [local go_sem ↓] ir_cpt
attribute [local go_sem] res_cpt e_cpt_0 e_cpt_2 e_cpt_3 e_cpt_4 y0e e_cpt_5 y1t e_cpt_6 y0d e_cpt_7 e_cpt_8 y0c e_cpt_9 y1s e_cpt_10 zrc e_cpt_11 zrb e_cpt_12 zra e_cpt_14 zr9 e_cpt_15 zr8 e_cpt_16 zr7 e_cpt_18 r_cpt_1
def onlyE (H0 H:Nat->Option Arr) (r:Nat) (X:List Edge):Prop:=(∀ q,q ≠ r->H (q + 1000) = H0 q)∧H (r + 1000) = ObjE X
def nulE:AV:=.agg [.int .i64 0,.int .i64 0]
def cOut (H:Nat->Option Arr) (r:Nat) (l:List Edge) (k:Nat) (σ:St):Prop :=
 ∃ i:Nat,1≤i∧i≤l.length∧(∀ (j:Nat) (x y:Edge),j + 1 < i->l[j]? = some y->l[j + 1]? = some x->y ≠ x)∧k = l.length - i∧σ.T 0 = .rs (r + 1000) 0 l.length∧σ.T 3 = .int .i64 i∧onlyE H σ.H r l
def cIn (H:Nat->Option Arr) (r:Nat) (l:List Edge) (k0:Nat) (m:Nat) (σ:St):Prop :=
 ∃ (p i:Nat) (X:List Edge),k0 + p + 1≤l.length∧i≤k0 + p∧X.length = l.length∧X.take i = comE (l.take (k0 + p + 1))∧(comE (l.take (k0 + p + 1))).length = i∧X.drop (k0 + p) = l.drop (k0 + p)∧m = l.length - (k0 + p + 1) ∧
  σ.T 0 = .rs (r + 1000) 0 l.length∧σ.T 3 = .int .i64 i∧σ.T 4 = .rs (r + 1000) k0 (l.length - k0)∧σ.T 5 = .int .i64 ((p + 1:Nat):Int)∧onlyE H σ.H r X
theorem leastN {p:Nat->Prop} (h:∃ k,p k):∃ k,p k∧∀ j,j < k->¬ p j:=by
 obtain ⟨k,hk⟩:=h
 induction k using Nat.strongRecOn with
 | _ k ih =>
  by_cases h:∃ j,j < k∧p j
  ·obtain ⟨j,hj,hp⟩:=h
   exact ih j hj hp
  ·exact ⟨k,hk,fun j hj hp=>h ⟨j,hj,hp⟩⟩
theorem zz2 {X l:List Edge} {k:Nat} (h:X.drop k = l.drop k) (j:Nat):X[k + j]? = l[k + j]?:=by
 have:(X.drop k)[j]? = (l.drop k)[j]?:=by rw [h]
 rwa [List.getElem?_drop,List.getElem?_drop] at this
set_option maxHeartbeats 8000000 in
theorem cpt_ok (H:Nat->Option Arr) (r:Nat) (l:List Edge) (hl:l.length≤1000000) (hr:H r = ObjE l) :
  ∃ H',MFn Tryz.prog 36 [.rs r 0 l.length] H (.sl ((comE l).map edA)) H':=by
 have hs:(H r).isSome = true:=by rw [hr]; rfl
 by_cases hl2:l.length < 2
 ·have hl2':(l.length:Int) < 2:=by omega
  rw [y8b (by omega)]
  refine ⟨upd H r (some ⟨2,66,l.map edA,l.length⟩),y1w rfl ?_⟩
  simp (maxSteps:=9^7) only [go_sem,evW,retM,edA,sh,hs,hl2',hr,ObjE]
  refine ⟨(List.take_of_length_le (by rw [List.length_map]; exact Nat.le_refl _)).symm,fun q=>?_⟩
  rw [List.length_map]
 have hl2':¬ (l.length:Int) < 2:=by omega
 by_cases hex:∃ k,k + 1 < l.length∧l[k]? = l[k + 1]?
 ·obtain ⟨k0,⟨hk0,hke⟩,hmin⟩:=leastN hex
  have hpre:comE (l.take (k0 + 1)) = l.take (k0 + 1):=zsg (k0 + 1) fun i x y hi hy hx e=>hmin i (by omega) ⟨by omega,by rw [hy,hx,e]⟩
  refine ⟨upd H r (some ⟨2,66,(comE l).map edA ++ List.replicate (l.length - (comE l).length) nulE,l.length⟩),y1w rfl ?_⟩
  simp (maxSteps:=9^7) only [go_sem,evW,retM,edA,sh,hs,hl2']
  refine z06 (cOut H r l) (k:=l.length - 1) ⟨1,Nat.le_refl _,by omega,fun j x y hj=>by omega,rfl,?_,?_,?_⟩ ?_
  iterate 2 focus ((simp (maxSteps:=9^7) only [go_sem,evW,retM,edA,sh]) <;> rfl)
  ·refine ⟨fun q hq=>?_,?_⟩
   iterate 2 focus ((simp (maxSteps:=9^7) only [go_sem,evW,retM,edA,hr]) <;> rfl)
  rintro k σ ⟨i,hi1,hil,hno,rfl,t0,t3,hH⟩
  simp only [zik]
  have hX2:=hH.2
  unfold ObjE at hX2
  have hik:i≤k0 + 1:=by
   rcases Nat.lt_or_ge (k0 + 1) i with h | h
   ·obtain ⟨y,hy⟩:=getW (show k0 < l.length by omega)
    obtain ⟨x,hx⟩:=getW hk0
    rw [hy,hx] at hke
    cases hke
    exact absurd rfl (hno k0 y y h hy hx)
   ·exact h
  have hlt:i < l.length:=by omega
  have hlt':(i:Int) < (l.length:Int):=by omega
  obtain ⟨m,rfl⟩:∃ m,i = m + 1:=⟨i - 1,by omega⟩
  obtain ⟨x,hx⟩:=getW hlt
  obtain ⟨y,hy⟩:=getW (show m < l.length by omega)
  have hgx:=atE hx
  have hgy:=atE hy
  have hwm:=wrapM m (by omega)
  have hw:=wrapW (j:=m + 1) (by omega)
  have z0:(0:Int)≤(m:Int):=Int.natCast_nonneg _
  have z1:(0:Int)≤((m + 1:Nat):Int):=Int.natCast_nonneg _
  have hml:m < l.length:=by omega
  have hml':(m:Int) < (l.length:Int):=by omega
  by_cases hmk:m = k0
  ·subst hmk
   have hxy:x = y:=by rw [hy,hx] at hke; cases hke; rfl
   have q1:(x.1 == y.1) = true:=by simp [hxy]
   have q2:(x.2 == y.2) = true:=by simp [hxy]
   have hi2:m + 1≤l.length:=by omega
   have hi3:((m + 1:Nat):Int)≤(l.length:Int):=by omega
   simp (maxSteps:=9^7) only [go_sem,evW,retM,edA,t0,t3,hlt',hX2,hgx,hgy,hwm,hw,z0,z1,hlt,hml,hml',hi2,hi3,q1,q2,Int.toNat_natCast,List.length_map]
   have hst:comE (l.take (m + 1 + 0 + 1)) = l.take (m + 1):=by
    rw [show m + 1 + 0 + 1 = m + 2 from rfl,zkd hy hx,if_pos hxy.symm,List.append_nil,hpre]
   refine z06 (cIn H r l (m + 1)) (k:=l.length - (m + 1 + 0 + 1)) ⟨0,m + 1,l,by omega,by omega,rfl,hst.symm,by rw [hst,List.length_take]; omega,rfl,rfl,?_,?_,?_,?_,?_⟩ ?_
   iterate 4 focus ((simp (maxSteps:=9^7) only [go_sem,evW,retM,edA,t0,t3]) <;> rfl)
   ·refine ⟨fun q hq=>?_,?_⟩
    ·have:=hH.1 q hq
     simp (maxSteps:=9^7) only [go_sem,evW,retM,edA,this]
    ·have:=hH.2
     simp (maxSteps:=9^7) only [go_sem,evW,retM,edA,this]
   clear hX2 hgx hgy hwm hw z0 z1 hml hml' q1 q2 hi3 hst hH t0 t3 hno hik hlt'
   rintro k σ ⟨p,i,X,hpl,hip,hXl,hXt,hXc,hXd,rfl,t0,t3,t4,t5,hH⟩
   simp only [zx7]
   have hX2:=hH.2
   unfold ObjE at hX2
   have z0:∀ a:Nat,(0:Int)≤(a:Int):=fun a=>Int.natCast_nonneg a
   by_cases hpe:m + 1 + p + 1 < l.length
   case neg =>
    have hpe':¬ ((p + 1:Nat):Int) < ((l.length - (m + 1):Nat):Int):=by omega
    have e0:m + 1 + p + 1 = l.length:=by omega
    rw [e0,List.take_length] at hXt hXc
    have hi2:i≤l.length:=by omega
    have hi3:(i:Int)≤(l.length:Int):=by omega
    simp (maxSteps:=9^7) only [go_sem,evW,retM,edA,t0,t3,t4,t5,hpe',hX2,z0,hi2,hi3,hXl,Int.toNat_natCast,List.length_map]
    have e1:(X.map edA).take i = (comE l).map edA:=by rw [← List.map_take,hXt]
    have e2:(X.map edA).drop (i + (l.length - i)) = []:=List.drop_eq_nil_of_le (by rw [List.length_map]; omega)
    have e3:((comE l).map edA).length = i:=by rw [List.length_map,hXc]
    rw [e1,e2,List.append_nil]
    refine ⟨by rw [Nat.sub_zero,List.take_append_of_le_length (by omega),List.take_of_length_le (by omega)],fun q=>?_⟩
    by_cases hq:q = r
    ·rw [if_pos hq,if_pos hq,hXc,List.length_append,e3,List.length_replicate,show i + (l.length - i) = l.length by omega]
     rfl
    ·rw [if_neg hq,if_neg hq,if_neg hq]
     exact hH.1 q hq
   have hpe':((p + 1:Nat):Int) < ((l.length - (m + 1):Nat):Int):=by omega
   have hpp':((p:Nat):Int) < ((l.length - (m + 1):Nat):Int):=by omega
   have hpe2:p + 1 < l.length - (m + 1):=by omega
   have hpp2:p < l.length - (m + 1):=by omega
   obtain ⟨x2,hx2⟩:=getW hpe
   obtain ⟨y2,hy2⟩:=getW (show m + 1 + p < l.length by omega)
   have hgx:=atE ((zz2 hXd 1).trans hx2)
   have hgy:=atE ((zz2 hXd 0).trans hy2)
   rw [Nat.add_zero] at hgy
   have hgx':(X.map edA).getD (m + 1 + (p + 1)) .und = .agg [.int .i64 x2.1,.int .i64 x2.2]:=hgx
   have hwm:=wrapM p (by omega)
   have hw:=wrapW (j:=p + 1) (by omega)
   have hwi:=wrapW (j:=i) (by omega)
   have hct:=zkd hy2 hx2
   have hset:(X.map edA).set i (.agg [.int .i64 x2.1,.int .i64 x2.2]) = (X.set i x2).map edA:=List.map_set.symm
   have hi':i < l.length:=by omega
   obtain ⟨z,hz⟩:=getW (show i < X.length by omega)
   have hgi:=atE hz
   have hii:(i:Int) < (l.length:Int):=by omega
   have hxl1:m + 1 + (p + 1) < l.length:=by omega
   have hxl0:m + 1 + p < l.length:=by omega
   cases q1:x2.1 == y2.1 <;> cases q2:x2.2 == y2.2
   case true.true =>
    have he:y2 = x2:=(zds (by simpa using q1) (by simpa using q2)).symm
    rw [if_pos he,List.append_nil] at hct
    simp (maxSteps:=9^7) only [go_sem,evW,retM,edA,t0,t3,t4,t5,hpe',hpp',hpe2,hpp2,hX2,hgx,hgx',hgy,hwm,hw,hwi,z0,hXl,hxl0,hxl1,q1,q2,Int.toNat_natCast,List.length_map]
    have hdn:X.drop (m + 1 + (p + 1)) = l.drop (m + 1 + (p + 1)):=by
     have:=congrArg (List.drop 1) hXd
     rwa [List.drop_drop,List.drop_drop] at this
    refine ⟨l.length - (m + 1 + (p + 1) + 1),by omega,p + 1,i,X,by omega,by omega,hXl,by rw [hXt]; exact hct.symm,by rw [← hXc]; exact congrArg List.length hct,hdn,rfl,?_,?_,?_,?_,?_⟩
    iterate 4 focus ((simp (maxSteps:=9^7) only [go_sem,evW,retM,edA,t0,t3,t4,hw]) <;> rfl)
    ·refine ⟨fun q hq=>?_,?_⟩
     ·have:=hH.1 q hq
      simp (maxSteps:=9^7) only [go_sem,evW,retM,edA,this]
     ·have:=hH.2
      simp (maxSteps:=9^7) only [go_sem,evW,retM,edA,this]
   all_goals
    have hne:¬ y2 = x2:=fun e=>by subst e; simp at q1 q2
    rw [if_neg hne] at hct
    simp (maxSteps:=9^7) only [go_sem,evW,retM,edA,t0,t3,t4,t5,hpe',hpp',hpe2,hpp2,hX2,hgx,hgx',hgy,hwm,hw,hwi,z0,hXl,hxl0,hxl1,hset,hgi,hi',hii,q1,q2,Int.toNat_natCast,List.length_map]
   all_goals
    refine ⟨l.length - (m + 1 + (p + 1) + 1),by omega,p + 1,i + 1,X.set i x2,by omega,by omega,by rw [List.length_set]; exact hXl,?_,?_,?_,rfl,?_,?_,?_,?_,?_⟩
    ·rw [List.take_add_one,List.take_set_of_le (Nat.le_refl i),List.getElem?_set_self (by omega),hXt]
     exact hct.symm
    ·rw [show m + 1 + (p + 1) + 1 = m + 1 + p + 2 from rfl,hct,List.length_append,hXc]; rfl
    ·rw [List.drop_set_of_lt (by omega)]
     have:=congrArg (List.drop 1) hXd
     rwa [List.drop_drop,List.drop_drop] at this
    iterate 4 focus ((simp (maxSteps:=9^7) only [go_sem,evW,retM,edA,t0,hwi,t4,hw]) <;> rfl)
    ·refine ⟨fun q hq=>?_,?_⟩
     ·have:=hH.1 q hq
      have qr:¬ q = r:=hq
      simp (maxSteps:=9^7) only [go_sem,evW,retM,edA,qr,this]
     ·unfold ObjE
      simp (maxSteps:=9^7) only [go_sem,evW,retM,edA,hX2,hset,hgi]
  have hne:y ≠ x:=fun e=>hmin m (by omega) ⟨by omega,by rw [hy,hx,e]⟩
  cases q1:x.1 == y.1 <;> cases q2:x.2 == y.2
  case true.true =>
   exact absurd (zds (by simpa using q1) (by simpa using q2)).symm hne
  all_goals
   simp (maxSteps:=9^7) only [go_sem,evW,retM,edA,t0,t3,hlt',hX2,hgx,hgy,hwm,hw,z0,z1,hlt,hml,hml',q1,q2,Int.toNat_natCast,List.length_map]
   refine ⟨l.length - (m + 1 + 1),by omega,m + 1 + 1,by omega,hlt,fun j x' y' hj hy' hx'=>?_,rfl,?_,?_,?_⟩
   ·by_cases hjm:j + 1 < m + 1
    ·exact hno j x' y' hjm hy' hx'
    ·have:j = m:=by omega
     subst this
     rw [hy] at hy'; rw [hx] at hx'
     cases hy'; cases hx'; exact hne
   ·simp (maxSteps:=9^7) only [go_sem,evW,retM,edA,t0]
   ·simp (maxSteps:=9^7) only [go_sem,evW,retM,edA,hw]
   ·refine ⟨fun q hq=>?_,?_⟩
    ·have:=hH.1 q hq
     simp (maxSteps:=9^7) only [go_sem,evW,retM,edA,this]
    ·have:=hH.2
     simp (maxSteps:=9^7) only [go_sem,evW,retM,edA,this]
 ·have hall:∀ (j:Nat) (x y:Edge),j + 1 < l.length->l[j]? = some y->l[j + 1]? = some x->y ≠ x:=fun j x y hj hy hx e=>hex ⟨j,hj,by rw [hy,hx,e]⟩
  have hc:comE l = l:=by
   have:=zsg (l:=l) l.length hall
   rwa [List.take_length] at this
  rw [hc]
  refine ⟨upd H r (some ⟨2,66,l.map edA,l.length⟩),y1w rfl ?_⟩
  simp (maxSteps:=9^7) only [go_sem,evW,retM,edA,sh,hs,hl2']
  refine z06 (cOut H r l) (k:=l.length - 1) ⟨1,Nat.le_refl _,by omega,fun j x y hj=>by omega,rfl,?_,?_,?_⟩ ?_
  iterate 2 focus ((simp (maxSteps:=9^7) only [go_sem,evW,retM,edA,sh]) <;> rfl)
  ·refine ⟨fun q hq=>?_,?_⟩
   iterate 2 focus ((simp (maxSteps:=9^7) only [go_sem,evW,retM,edA,hr]) <;> rfl)
  rintro k σ ⟨i,hi1,hil,hno,rfl,t0,t3,hH⟩
  simp only [zik]
  have hX2:=hH.2
  unfold ObjE at hX2
  by_cases hlt:i < l.length
  case neg =>
   have hlt':¬ (i:Int) < (l.length:Int):=by omega
   simp (maxSteps:=9^7) only [go_sem,evW,retM,edA,t0,t3,hlt',hX2]
   refine ⟨(List.take_of_length_le (by rw [List.length_map]; exact Nat.le_refl _)).symm,fun q=>?_⟩
   by_cases hq:q = r
   ·rw [if_pos hq,if_pos hq,List.length_map]
   ·rw [if_neg hq,if_neg hq]; exact hH.1 q hq
  have hlt':(i:Int) < (l.length:Int):=by omega
  obtain ⟨m,rfl⟩:∃ m,i = m + 1:=⟨i - 1,by omega⟩
  obtain ⟨x,hx⟩:=getW hlt
  obtain ⟨y,hy⟩:=getW (show m < l.length by omega)
  have hne:=hall m x y (by omega) hy hx
  have hgx:=atE hx
  have hgy:=atE hy
  have hwm:=wrapM m (by omega)
  have hw:=wrapW (j:=m + 1) (by omega)
  have z0:(0:Int)≤(m:Int):=Int.natCast_nonneg _
  have z1:(0:Int)≤((m + 1:Nat):Int):=Int.natCast_nonneg _
  have hml:m < l.length:=by omega
  have hml':(m:Int) < (l.length:Int):=by omega
  cases q1:x.1 == y.1 <;> cases q2:x.2 == y.2
  case true.true =>
   exact absurd (zds (by simpa using q1) (by simpa using q2)).symm hne
  all_goals
   simp (maxSteps:=9^7) only [go_sem,evW,retM,edA,t0,t3,hlt',hX2,hgx,hgy,hwm,hw,z0,z1,hlt,hml,hml',q1,q2,Int.toNat_natCast,List.length_map]
   refine ⟨l.length - (m + 1 + 1),by omega,m + 1 + 1,by omega,hlt,fun j x' y' hj hy' hx'=>?_,rfl,?_,?_,?_⟩
   ·by_cases hjm:j + 1 < m + 1
    ·exact hno j x' y' hjm hy' hx'
    ·have:j = m:=by omega
     subst this
     rw [hy] at hy'; rw [hx] at hx'
     cases hy'; cases hx'; exact hne
   ·simp (maxSteps:=9^7) only [go_sem,evW,retM,edA,t0]
   ·simp (maxSteps:=9^7) only [go_sem,evW,retM,edA,hw]
   ·refine ⟨fun q hq=>?_,?_⟩
    ·have:=hH.1 q hq
     simp (maxSteps:=9^7) only [go_sem,evW,retM,edA,this]
    ·have:=hH.2
     simp (maxSteps:=9^7) only [go_sem,evW,retM,edA,this]
end
section
open Go.RowKit
attribute [local go_sem ↓] z18 z0h
def y0g:List ROp:=[⟨.box 3 32 (.t 0),some 2,none,[3],[]⟩,⟨.box 3 32 (.t 1),some 3,none,[],[]⟩,⟨.mv (.c (.bool false)),some 4,none,[],[]⟩]
def r_agw_0:Reg:=⟨[],y0g,[2,3],[],false⟩
def y0f:List ROp:=[⟨.faddr 1 (.t 2),some 5,none,[],[]⟩,⟨.load 1 false (.t 5),some 6,none,[],[]⟩,⟨.faddr 1 (.t 3),some 7,none,[],[]⟩,⟨.load 1 false (.t 7),some 8,none,[],[]⟩,⟨.bin .eql (.t 6) (.t 8),some 9,none,[],[]⟩,⟨.mv (.t 9),some 10,none,[],[]⟩,⟨.faddr 0 (.t 2),some 11,(some (10,true)),[],[]⟩,⟨.load 1 false (.t 11),some 12,(some (10,true)),[],[]⟩,⟨.faddr 0 (.t 3),some 13,(some (10,true)),[],[]⟩,⟨.load 1 false (.t 13),some 14,(some (10,true)),[],[]⟩,⟨.bin .neq (.t 12) (.t 14),some 15,(some (10,true)),[],[]⟩,⟨.pick (.t 10) (.t 15) (.c (.bool false)),some 16,none,[],[]⟩,⟨.mv (.t 16),some 17,none,[],[]⟩,⟨.faddr 2 (.t 2),some 18,(some (17,true)),[],[]⟩,⟨.load 1 false (.t 18),some 19,(some (17,true)),[],[]⟩,⟨.mv (.t 19),some 20,(some (17,true)),[],[]⟩,⟨.faddr 2 (.t 3),some 21,(some (20,false)),[],[]⟩,⟨.load 1 false (.t 21),some 22,(some (20,false)),[],[]⟩,⟨.pick (.t 20) (.c (.bool true)) (.t 22),some 23,(some (17,true)),[],[]⟩,⟨.pick (.t 17) (.t 23) (.c (.bool false)),some 24,none,[],[]⟩,⟨.mv (.t 24),some 4,none,[],[]⟩]
def r_agw_1:Reg:=⟨[],y0f,[],[],false⟩
def ir_agw:IR:=(.seq (.reg r_agw_0)
 (.seq (.reg r_agw_1)
 .ret))
def res_agw:List RDesc:=[(.tmp 4)]
theorem e_agw_0:EqR r_agw_0 y0g [2,3]:=fun _ _ _=>rfl
theorem e_agw_1:EqR r_agw_1 y0f []:=fun _ _ _=>rfl
theorem fn_agw {args:List AV} {r:AV} (ha:args.length.ble Tryz.f31.ntmps = true) (h:run (AFn Tryz.prog) ir_agw (endQ res_agw r) (z0b args)):AFn Tryz.prog 31 args r :=
 AFn.of_code (pv:=false) (hint:=fun _=>[]) (c:=Tryz.f31.body.getD .skip) (by kernel_rfl) (by kernel_rfl) Tryz.func31 (by kernel_rfl) (by kernel_rfl) (by kernel_rfl) (of_decide_eq_true (by kernel_rfl)) (Nat.le_of_ble_eq_true ha) (Nat.le_of_ble_eq_true (by kernel_rfl)) (z09 h)
def r_edg_0:Reg:=⟨[],[⟨.mknil 2 66,some 4,none,[],[]⟩],[4],[],false⟩
def r_edg_1:Reg:=⟨[],[⟨.mknil 2 66,some 5,none,[],[]⟩],[5],[],false⟩
def y08:List ROp:=[⟨.mv (.t 1),some 10,none,[],[]⟩,⟨.len false (.t 10),some 11,none,[],[]⟩,⟨.mv (.c (.int .i64 0)),some 12,none,[],[]⟩]
def r_edg_2:Reg:=⟨[],y08,[],[],false⟩
def r_edg_3:Reg:=⟨[],[⟨.bin .lss (.t 12) (.t 11),some 13,none,[],[]⟩],[],[],false⟩
def y07:List ROp:=[⟨.iaddr 3 (.t 10) (.t 12),some 14,none,[7],[]⟩,⟨.load 3 true (.t 14),some 15,none,[7],[]⟩,⟨.alloc 3 32 (.agg [(.int .i64 0),(.int .i64 0),(.bool false)]),some 7,none,[],[]⟩,⟨.store 3 (.t 7) (.t 15),none,none,[],[]⟩]
def r_edg_4:Reg:=⟨[],y07,[7],[],false⟩
def y06:List ROp:=[⟨.mv (.t 0),some 16,none,[],[]⟩,⟨.len false (.t 16),some 17,none,[],[]⟩,⟨.mv (.c (.int .i64 0)),some 18,none,[],[]⟩]
def r_edg_5:Reg:=⟨[],y06,[],[],false⟩
def r_edg_6:Reg:=⟨[],[⟨.bin .lss (.t 18) (.t 17),some 19,none,[],[]⟩],[],[],false⟩
def y05:List ROp:=[⟨.iaddr 3 (.t 16) (.t 18),some 20,none,[9],[]⟩,⟨.load 3 true (.t 20),some 21,none,[9],[]⟩,⟨.alloc 3 32 (.agg [(.int .i64 0),(.int .i64 0),(.bool false)]),some 9,none,[],[]⟩,⟨.store 3 (.t 9) (.t 21),none,none,[],[]⟩]
def r_edg_7:Reg:=⟨[],y05,[9],[],false⟩
def y04:List ROp:=[⟨.load 3 true (.t 7),some 22,none,[24],[]⟩,⟨.load 3 true (.t 9),some 23,none,[24],[]⟩,⟨.callv (.c (.clo 31 [] [])) [(.t 22),(.t 23)],some 24,none,[],[]⟩]
def r_edg_8:Reg:=⟨[],y04,[24],[],false⟩
def y03:List ROp:=[⟨.mv (.t 5),some 25,none,[31],[]⟩,⟨.faddr 0 (.t 7),some 26,none,[31],[]⟩,⟨.load 1 false (.t 26),some 27,none,[31],[]⟩,⟨.faddr 0 (.t 9),some 28,none,[31],[]⟩,⟨.load 1 false (.t 28),some 29,none,[31],[]⟩,⟨.bld [(.int .i64 0),(.int .i64 0)] [⟨0,1,(.t 27)⟩,⟨1,1,(.t 29)⟩],some 30,none,[31],[]⟩,⟨.bsl 2 66 [(.t 30)],some 31,none,[],[]⟩,⟨.append 2 66 16 (.t 25) (.t 31),some 32,none,[],[]⟩,⟨.mv (.t 32),some 5,none,[],[]⟩]
def r_edg_9:Reg:=⟨[],y03,[31],[],false⟩
def y66:Reg:=⟨[],[⟨.bin .add (.t 18) (.c (.int .i64 1)),some 33,none,[],[]⟩,⟨.mv (.t 33),some 18,none,[],[]⟩],[],[],false⟩
def zx6:IR:=(.seq (.reg r_edg_6)
 (.seq (.cond (.t 19) .skip
 (.exit 2))
 (.seq (.block 3 (.seq (.reg r_edg_7)
 (.seq (.reg r_edg_8)
 (.cond (.t 24) (.reg r_edg_9)
 .skip))))
 (.reg y66))))
def y65:Reg:=⟨[],[⟨.bin .add (.t 12) (.c (.int .i64 1)),some 34,none,[],[]⟩,⟨.mv (.t 34),some 12,none,[],[]⟩],[],[],false⟩
def zx5:IR:=(.seq (.reg r_edg_3)
 (.seq (.cond (.t 13) .skip
 (.exit 0))
 (.seq (.block 1 (.seq (.reg r_edg_4)
 (.seq (.reg r_edg_5)
 (.block 2 (.loop zx6)))))
 (.reg y65))))
def y64:List XOp:=[(.op [] ⟨.mv (.t 5),some 35,none,[],[]⟩),(.wcall 36 (.c (.clo 32 [] [])) [(.t 35),(.c (.clo 33 [] []))])]
def y63:List XOp:=[(.op [] ⟨.mv (.t 5),some 37,none,[],[]⟩),(.wcall 38 (.c (.clo 36 [] [])) [(.t 37)]),(.op [] ⟨.mv (.t 38),some 4,none,[],[]⟩)]
def ir_edg (P:Program):IR:=(.seq (.reg r_edg_0)
 (.seq (.reg r_edg_1)
 (.seq (.seq (.reg r_edg_2)
 (.block 0 (.loop zx5)))
 (.seq (.regx P y64)
 (.seq (.regx P y63)
 .ret)))))
def res_edg:List RDesc:=[(.tmp 4)]
theorem e_edg_0:EqR r_edg_0 [⟨.mknil 2 66,some 4,none,[],[]⟩] [4]:=fun _ _ _=>rfl
theorem e_edg_1:EqR r_edg_1 [⟨.mknil 2 66,some 5,none,[],[]⟩] [5]:=fun _ _ _=>rfl
theorem e_edg_2:EqR r_edg_2 y08 []:=fun _ _ _=>rfl
theorem e_edg_3:EqR r_edg_3 [⟨.bin .lss (.t 12) (.t 11),some 13,none,[],[]⟩] []:=fun _ _ _=>rfl
theorem e_edg_4:EqR r_edg_4 y07 [7]:=fun _ _ _=>rfl
theorem e_edg_5:EqR r_edg_5 y06 []:=fun _ _ _=>rfl
theorem e_edg_6:EqR r_edg_6 [⟨.bin .lss (.t 18) (.t 17),some 19,none,[],[]⟩] []:=fun _ _ _=>rfl
theorem e_edg_7:EqR r_edg_7 y05 [9]:=fun _ _ _=>rfl
theorem e_edg_8:EqR r_edg_8 y04 [24]:=fun _ _ _=>rfl
theorem e_edg_9:EqR r_edg_9 y03 [31]:=fun _ _ _=>rfl
theorem e_edg_10:EqR y66 [⟨.bin .add (.t 18) (.c (.int .i64 1)),some 33,none,[],[]⟩,⟨.mv (.t 33),some 18,none,[],[]⟩] []:=fun _ _ _=>rfl
theorem e_edg_12:EqR y65 [⟨.bin .add (.t 12) (.c (.int .i64 1)),some 34,none,[],[]⟩,⟨.mv (.t 34),some 12,none,[],[]⟩] []:=fun _ _ _=>rfl
theorem fn_edg {args:List AV} {r:AV} (ha:args.length.ble Tryz.f11.ntmps = true) (h:run (AFn Tryz.prog) (ir_edg Tryz.prog) (endQ res_edg r) (z0b args)):AFn Tryz.prog 11 args r :=
 AFn.of_code (pv:=false) (hint:=fun i=>if [12,13].contains i then [1] else []) (c:=Tryz.f11.body.getD .skip) (by kernel_rfl) (by kernel_rfl) Tryz.func11 (by kernel_rfl) (by kernel_rfl) (by kernel_rfl) (of_decide_eq_true (by kernel_rfl)) (Nat.le_of_ble_eq_true ha) (Nat.le_of_ble_eq_true (by kernel_rfl)) (z09 h)
attribute [local go_sem ↓] ir_agw
attribute [local go_sem] res_agw e_agw_0 y0g e_agw_1 y0f
attribute [local go_sem ↓] ir_edg
attribute [local go_sem] res_edg e_edg_0 e_edg_1 e_edg_2 y08 e_edg_3 e_edg_4 y07 e_edg_5 y06 e_edg_6 e_edg_7 y05 e_edg_8 y04 e_edg_9 y03 e_edg_10 e_edg_12 y64 y63
theorem zxu {P:Program} {f:FuncId} {args:List AV} {T:Nat->AV} {H:Nat->Option Arr} {d:Nat} {R:St->(St->Prop)->Prop} {K:St->Prop} {r:AV} (h:∃ H',MFn P f args H r H') (k:∀ H',R ⟨upd T d r,H'⟩ K):z4b P f args T H d R K:=by
 obtain ⟨H',h⟩:=h
 exact ⟨r,H',h,k H'⟩
def agB (a b:Hld):Bool:=(a.slot == b.slot) && ((a.thread != b.thread) && (a.wr || b.wr))
theorem agw_ok (a b:Hld):AFn Tryz.prog 31 [a.a,b.a] (.bool (agB a b)):=by
 refine fn_agw rfl ?_
 unfold agB
 obtain ⟨at_,as_,aw⟩:=a
 obtain ⟨bt,bs,bw⟩:=b
 cases q1:as_ == bs <;> cases q2:at_ != bt <;> cases aw <;> cases bw <;> (simp (maxSteps:=9^7) only [go_sem,evW,retM,edA,Hld.a,q1,q2])
def edgW (w:Hld) (hs:List Hld):List Edge:=(hs.filter fun h=>agB w h).map fun h=>(w.thread,h.thread)
def edgL (ws hs:List Hld):List Edge:=ws.flatMap fun w=>edgW w hs
theorem edgW_snoc {w:Hld} {hs:List Hld} {j:Nat} {h:Hld} (hj:hs[j]? = some h):edgW w (hs.take (j + 1)) = edgW w (hs.take j) ++ (if agB w h then [(w.thread,h.thread)] else []):=by
 unfold edgW
 rw [takeW hj,List.filter_append,List.map_append]
 cases hb:agB w h <;> simp [hb]
theorem edgL_snoc {ws hs:List Hld} {j:Nat} {w:Hld} (hj:ws[j]? = some w):edgL (ws.take (j + 1)) hs = edgL (ws.take j) hs ++ edgW w hs:=by
 unfold edgL
 rw [takeW hj,List.flatMap_append]; simp
theorem y7y {w:Hld} {hs:List Hld}:(edgW w hs).length≤hs.length:=by
 unfold edgW; rw [List.length_map]; exact List.length_filter_le _ _
theorem zdt {hs:List Hld}:∀ {ws:List Hld},(edgL ws hs).length≤ws.length * hs.length
 | []=>by simp [edgL]
 | w :: ws=>by
  have h1:=zdt (hs:=hs) (ws:=ws)
  have h2:=y7y (w:=w) (hs:=hs)
  unfold edgL at h1 ⊢
  rw [List.flatMap_cons,List.length_append,List.length_cons,Nat.add_mul]
  omega
def zjv (hs ws:List Hld):List Edge:=comE (msE (edgL ws hs))
theorem atH {l:List Hld} {j:Nat} {h:Hld} (hj:l[j]? = some h):(l.map Hld.a).getD j .und = .agg [.int .i64 h.thread,.int .i64 h.slot,.bool h.wr]:=by
 rw [List.getD_eq_getElem?_getD,List.getElem?_map,hj]; rfl
def zzc (w:Hld):Option Arr:=some ⟨3,32,[.agg [.int .i64 w.thread,.int .i64 w.slot,.bool w.wr]],0⟩
def edgI (hs ws:List Hld) (i:Nat) (w:Hld) (k:Nat) (σ:St):Prop :=
 ∃ (j:Nat) (out:List Edge),j≤hs.length∧k = hs.length - j∧out = edgL (ws.take i) hs ++ edgW w (hs.take j)∧σ.T 0 = .sl (hs.map Hld.a)∧σ.T 5 = .rs 5 0 out.length∧σ.H 5 = ObjE out∧σ.T 7 = .ptr 7 0 0∧σ.H 7 = zzc w ∧
  σ.T 10 = .sl (ws.map Hld.a)∧σ.T 11 = .int .i64 ws.length∧σ.T 12 = .int .i64 i∧σ.T 16 = .sl (hs.map Hld.a)∧σ.T 17 = .int .i64 hs.length∧σ.T 18 = .int .i64 j
def edgO (hs ws:List Hld) (k:Nat) (σ:St):Prop :=
 ∃ (i:Nat) (out:List Edge),i≤ws.length∧k = ws.length - i∧out = edgL (ws.take i) hs∧σ.T 0 = .sl (hs.map Hld.a)∧σ.T 5 = .rs 5 0 out.length∧σ.H 5 = ObjE out ∧
  σ.T 10 = .sl (ws.map Hld.a)∧σ.T 11 = .int .i64 ws.length∧σ.T 12 = .int .i64 i
set_option maxHeartbeats 8000000 in
theorem edg_ok (hs ws:List Hld) (hh:hs.length≤1000) (hw:ws.length≤1000):AFn Tryz.prog 11 [.sl (hs.map Hld.a),.sl (ws.map Hld.a)] (.sl ((zjv hs ws).map edA)):=by
 refine fn_edg rfl ?_
 simp (maxSteps:=9^7) only [go_sem,evW,retM,edA,Hld.a,List.length_map]
 refine z06 (edgO hs ws) (k:=ws.length) ⟨0,[],Nat.zero_le _,rfl,rfl,?_,?_,?_,?_,?_,?_⟩ ?_
 iterate 6 focus ((simp (maxSteps:=9^7) only [go_sem,evW,retM,edA,Hld.a,List.length_map]) <;> rfl)
 rintro k σ ⟨i,out,hi,rfl,hout,t0,t5,h5,t10,t11,t12⟩
 simp only [zx5]
 have hlen:(edgL ws hs).length≤1000000:=by
  have h1:=zdt (hs:=hs) (ws:=ws)
  have h2:ws.length * hs.length≤1000 * 1000:=Nat.mul_le_mul hw hh
  omega
 by_cases hlt:i < ws.length
 case neg =>
  have hlt':¬ (i:Int) < (ws.length:Int):=by omega
  rw [List.take_of_length_le (by omega)] at hout
  subst hout
  have h5':=h5
  unfold ObjE at h5'
  simp (maxSteps:=9^7) only [go_sem,evW,retM,edA,Hld.a,t12,t11,t5,h5',hlt']
  refine zrw (sf_ok _ 5 (edgL ws hs) hlen ?_) ?_
  ·simp (maxSteps:=9^7) only [go_sem,evW,retM,edA,Hld.a,h5]
  have hO:∀ l:List Edge,(ObjE l).isSome = true:=fun l=>rfl
  have hml:(msE (edgL ws hs)).length = (edgL ws hs).length:=zbt
  simp (maxSteps:=9^7) only [go_sem,evW,retM,edA,Hld.a,t5,hO]
  refine zxu (r:=.sl ((zjv hs ws).map edA)) ?_ fun H'=>?_
  ·rw [← hml]
   refine cpt_ok _ 5 (msE (edgL ws hs)) (by omega) ?_
   simp (maxSteps:=9^7) only [go_sem,evW,retM,edA,Hld.a]
  ·simp (maxSteps:=9^7) only [go_sem,evW,retM,edA,Hld.a]
 have hlt':(i:Int) < (ws.length:Int):=by omega
 obtain ⟨w,hwi⟩:=getW hlt
 have hge:=atH hwi
 have z0:(0:Int)≤(i:Int):=Int.natCast_nonneg _
 have hwn:=wrapW (j:=i) (by omega)
 unfold ObjE at h5
 simp (maxSteps:=9^7) only [go_sem,evW,retM,edA,Hld.a,t0,t10,t11,t12,t5,h5,hlt',hlt,hge,z0,Int.toNat_natCast,List.length_map]
 refine z06 (edgI hs ws i w) (k:=hs.length) ⟨0,out,Nat.zero_le _,rfl,by rw [hout]; simp [edgW],?_,?_,?_,?_,?_,?_,?_,?_,?_,?_,?_⟩ ?_
 iterate 11 focus ((simp (maxSteps:=9^7) only [go_sem,evW,retM,edA,Hld.a,t0,t5,h5,ObjE,zzc,t10,t11,t12]) <;> rfl)
 clear hout t0 t5 h5 t10 t11 t12
 rintro k σ ⟨j,out,hj,rfl,hout,t0,t5,h5,t7,h7,t10,t11,t12,t16,t17,t18⟩
 simp only [zx6]
 by_cases hjl:j < hs.length
 case neg =>
  have hjl':¬ (j:Int) < (hs.length:Int):=by omega
  have hfull:hs.take j = hs:=List.take_of_length_le (by omega)
  rw [hfull,← edgL_snoc hwi] at hout
  simp (maxSteps:=9^7) only [go_sem,evW,retM,edA,Hld.a,t12,t17,t18,hjl',hwn]
  (repeat refine And.intro (by omega) ?_)
  refine ⟨ws.length - (i + 1),by omega,i + 1,out,hlt,rfl,hout,?_,?_,?_,?_,?_,?_⟩
  iterate 6 focus ((simp (maxSteps:=9^7) only [go_sem,evW,retM,edA,Hld.a,t0,t5,h5,t10,t11,hwn]) <;> rfl)
 have hjl':(j:Int) < (hs.length:Int):=by omega
 obtain ⟨h,hhj⟩:=getW hjl
 have hgh:=atH hhj
 have zj:(0:Int)≤(j:Int):=Int.natCast_nonneg _
 have hwj:=wrapW (j:=j) (by omega)
 have hsn:=edgW_snoc (w:=w) hhj
 have hol:out.length≤1001000:=by
  have h1:=zdt (hs:=hs) (ws:=ws.take i)
  have h2:=y7y (w:=w) (hs:=hs.take j)
  have h3:(ws.take i).length * hs.length≤1000 * 1000:=Nat.mul_le_mul (by rw [List.length_take]; omega) hh
  rw [List.length_take] at h2
  rw [hout,List.length_append]
  omega
 have tk:List.take out.length (out.map edA) = out.map edA:=List.take_of_length_le (by simp)
 have c:=agw_ok w h
 simp only [Hld.a] at c
 unfold ObjE at h5
 unfold zzc at h7
 cases hag:agB w h with
 | false =>
  rw [hag] at c hsn
  rw [if_neg (by decide),List.append_nil] at hsn
  (repeat (first | simp (maxSteps:=9^7) only [go_sem,evW,retM,edA,Hld.a,t0,t5,h5,t7,h7,t10,t11,t12,t16,t17,t18,hjl',hjl,hgh,zj,hwj,Int.toNat_natCast,List.length_map] | refine z01 (c) ?_ | refine z00 (c) ?_ | refine And.intro (by omega) ?_ | refine And.intro (fun d hd=>by (repeat (rcases hd with rfl | hd; · exact ⟨rfl,rfl⟩)); cases hd) ?_))
  (repeat refine And.intro (by omega) ?_)
  refine ⟨hs.length - (j + 1),by omega,j + 1,out,hjl,rfl,by rw [hsn]; exact hout,?_,?_,?_,?_,?_,?_,?_,?_,?_,?_,?_⟩
  iterate 11 focus ((simp (maxSteps:=9^7) only [go_sem,evW,retM,edA,Hld.a,t0,t5,h5,ObjE,t7,h7,zzc,t10,t11,t12,t16,t17,hwj]) <;> rfl)
 | true =>
  rw [hag] at c hsn
  rw [if_pos rfl] at hsn
  (repeat (first | simp (maxSteps:=9^7) only [go_sem,evW,retM,edA,Hld.a,t0,t5,h5,t7,h7,t10,t11,t12,t16,t17,t18,hjl',hjl,hgh,zj,hwj,tk,Int.toNat_natCast,List.length_map,Nat.zero_add] | refine z01 (c) ?_ | refine z00 (c) ?_ | refine And.intro (by omega) ?_ | refine And.intro (fun d hd=>by (repeat (rcases hd with rfl | hd; · exact ⟨rfl,rfl⟩)); cases hd) ?_))
  have one:∀ d:AV,d = .agg [.int .i64 w.thread,.int .i64 h.thread]∨False->d.cells.length = 2∧d.cells.all AV.one = true:=fun d hd=>by
   rcases hd with rfl | hd
   ·exact ⟨rfl,rfl⟩
   ·cases hd
  have hml:(out ++ [(w.thread,h.thread)]).length = out.length + 1:=List.length_append
  have hmm:(out ++ [(w.thread,h.thread)]).map edA = out.map edA ++ [.agg [.int .i64 w.thread,.int .i64 h.thread]]:=List.map_append
  refine ⟨⟨⟨by omega,by omega⟩,one⟩,hs.length - (j + 1),by omega,j + 1,out ++ [(w.thread,h.thread)],hjl,rfl,by rw [hsn,← List.append_assoc,← hout],?_,?_,?_,?_,?_,?_,?_,?_,?_,?_,?_⟩
  iterate 11 focus ((simp (maxSteps:=9^7) only [go_sem,evW,retM,edA,Hld.a,t0,hml,h5,ObjE,hmm,tk,t7,h7,zzc,t10,t11,t12,t16,t17,hwj]) <;> rfl)
end
section
open Go.RowKit
theorem zrt {ws hs:List Hld} {a b:Int} (h:(a,b) ∈ edgL ws hs):∃ w x,w ∈ ws∧x ∈ hs∧w.thread = a∧x.thread = b∧w.slot = x.slot:=by
 unfold edgL at h
 obtain ⟨w,hw,h⟩:=List.mem_flatMap.1 h
 unfold edgW at h
 obtain ⟨x,hx,e⟩:=List.mem_map.1 h
 obtain ⟨hx1,hx2⟩:=List.mem_filter.1 hx
 cases e
 unfold agB at hx2
 rw [Bool.and_eq_true] at hx2
 exact ⟨w,x,hw,hx1,rfl,rfl,by simpa using hx2.1⟩
theorem nodupAt {Q:List Int} (hd:Q.Nodup) {i j:Nat} {a:Int} (hi:Q[i]? = some a) (hj:Q[j]? = some a):i = j :=
 (List.getElem?_inj (List.getElem?_eq_some_iff.1 hi).1 hd).1 (hi.trans hj.symm)
def LeW (Q:List Int) (a b:Int):Prop:=a = b∨∃ i j:Nat,i < j∧Q[i]? = some a∧Q[j]? = some b
theorem none_stuck {l:List Nd} {S:List Seat} (T:TreeLaw l S) {hs ws:List Hld} (hf:∀ t,(∃ h,(h ∈ hs∨h ∈ ws)∧h.thread = t)->fltB l hs ws t = false) {E:List Edge} (hE:∀ e,e ∈ E->e ∈ edgL ws hs) :
  ∀ {a b:Int},TC E a b->∃ w x,w ∈ ws∧x ∈ hs∧w.thread = a∧x.thread = b∧LeW (S.map Seat.sl) w.slot x.slot:=by
 have below:∀ {h w:Hld},h ∈ hs->w ∈ ws->h.thread = w.thread->Bel l h.slot w.slot:=fun {h w} hh hw e=>by
  have h0:=hf w.thread ⟨w,.inr hw,rfl⟩
  unfold fltB at h0
  have:=(zjs h0 (z6m hw)).2 h.slot (by rw [← e]; exact z6m hh)
  unfold bwL at this
  rw [List.contains_iff_mem] at this
  exact (zcf T.lad _ _).1 this
 intro a b h
 induction h with
 | one h =>
  obtain ⟨w,x,h1,h2,h3,h4,h5⟩:=zrt (hE _ h)
  exact ⟨w,x,h1,h2,h3,h4,.inl h5⟩
 | step _ h ih =>
  obtain ⟨w,x,h1,h2,h3,h4,h5⟩:=ih
  obtain ⟨w',x',k1,k2,k3,k4,k5⟩:=zrt (hE _ h)
  refine ⟨w,x',h1,k2,h3,k4,?_⟩
  have hb:=below h2 k1 (h4.trans k3.symm)
  rw [k5] at hb
  right
  rcases h5 with h5 | ⟨i,j,hij,hi,hj⟩
  ·have hm:=hb.from T
   rw [← h5] at hb hm
   obtain ⟨i,hi⟩:=List.mem_iff_getElem?.1 hm
   obtain ⟨j,hj,hjj⟩:=hb.pos T hi
   exact ⟨i,j,hj,hi,hjj⟩
  ·obtain ⟨k,hk,hkk⟩:=hb.pos T hj
   exact ⟨i,k,by omega,hi,hkk⟩
theorem stuck_none {l:List Nd} {S:List Seat} (T:TreeLaw l S) {hs ws:List Hld} (hf:∀ t,(∃ h,(h ∈ hs∨h ∈ ws)∧h.thread = t)->fltB l hs ws t = false) {E:List Edge} (hE:∀ e,e ∈ E->e ∈ edgL ws hs):zcl E = []:=by
 unfold zcl
 rw [List.filter_eq_nil_iff]
 intro a _ h
 rw [List.contains_iff_mem,zpe] at h
 obtain ⟨w,x,h1,h2,h3,h4,h5⟩:=none_stuck T hf hE h
 have h0:=hf w.thread ⟨w,.inr h1,rfl⟩
 unfold fltB at h0
 have hb:=(zjs h0 (z6m h1)).2 x.slot (by rw [h3,← h4]; exact z6m h2)
 unfold bwL at hb
 rw [List.contains_iff_mem] at hb
 have hb:=(zcf T.lad _ _).1 hb
 have hd:=T.ords.dup
 rcases h5 with e | ⟨i,j,hij,hi,hj⟩
 ·have hm:=hb.from T
  obtain ⟨i,hi⟩:=List.mem_iff_getElem?.1 hm
  obtain ⟨j,hj,hjj⟩:=hb.pos T hi
  rw [e] at hjj
  have:=nodupAt hd hi hjj
  omega
 ·obtain ⟨k,hk,hkk⟩:=hb.pos T hj
  have:=nodupAt hd hi hkk
  omega
end
section
open Go.RowKit
theorem zsf:∀ (l:List Edge) (p:Option Edge),(comF p l).length≤l.length
 | [],p=>by cases p <;> simp [comF]
 | e :: l,p=>by
  rw [comF]
  split
  ·exact Nat.le_trans (zsf l _) (Nat.le_succ _)
  ·rw [List.length_cons,List.length_cons]
   exact Nat.succ_le_succ (zsf l _)
theorem edges_len {hs ws:List Hld}:(zjv hs ws).length≤ws.length * hs.length:=by
 unfold zjv comE
 have:=zsf (msE (edgL ws hs)) none
 rw [zbt] at this
 exact Nat.le_trans this zdt
theorem zyq {hs ws:List Hld} {e:Edge} (h:e ∈ zjv hs ws):e ∈ edgL ws hs:=mem_msE.1 (mem_comE.1 h)
theorem fltL_len {l:List Nd} {hs ws:List Hld}:(srtI (fltL l hs ws)).length≤hs.length + ws.length:=by
 have h1:(srtI (fltL l hs ws)).Nodup:=(z4g _).imp fun h=>by omega
 have:=z7u h1 (b:=thrL hs ws) fun t ht=>(z8y.1 (z3f.1 ht)).1
 unfold thrL at this
 rw [List.length_map,List.length_append] at this
 exact this
theorem rise_next {l:List Int} (h:Rise l) {i:Nat} {x y:Int} (hx:l[i]? = some x) (hy:l[i + 1]? = some y):x < y:=by
 obtain ⟨h1,e1⟩:=List.getElem?_eq_some_iff.1 hx
 obtain ⟨h2,e2⟩:=List.getElem?_eq_some_iff.1 hy
 have:=(List.pairwise_iff_getElem.1 h) i (i + 1) h1 h2 (by omega)
 rwa [e1,e2] at this
theorem fits_law (cF:∀ (l:List Nd) (hs ws:List Hld),Lad l->hs.length≤20->ws.length≤20->AFn Tryz.prog 6 [.sl (l.map Nd.a),.sl (hs.map Hld.a),.sl (ws.map Hld.a)] (.own 1 3 ((srtI (fltL l hs ws)).map (AV.int .i64))))
  (c:Cfg) (l:List Nd) (hs ws:List Hld) (on:∀ x,x ∈ l->x.ok) (hl:l.length≤281474976710656) (oh:∀ x,x ∈ hs->x.ok) (ow:∀ x,x ∈ ws->x.ok) :
  AFn Tryz.prog 3 [c.a,.sl (l.map Nd.a),.sl (hs.map Hld.a),.sl (ws.map Hld.a)] (.bool true):=by
 have k1:=tree_ok c l 30 (by omega) on hl
 have no:¬ (zss c l 30 = true∧hs.length≤20∧ws.length≤20)->AFn Tryz.prog 3 [c.a,.sl (l.map Nd.a),.sl (hs.map Hld.a),.sl (ws.map Hld.a)] (.bool true):=fun h =>
  zym c l hs ws (zss c l 30) [] (fun _=>false) zq6 k1 (fun a b d=>absurd ⟨a,b,d⟩ h) (fun a b d=>absurd ⟨a,b,d⟩ h) (by simp) (fun i x y hx _=>by simp at hx) (fun x hx=>by cases hx) (fun x _=>rfl) (fun a b d=>absurd ⟨a,b,d⟩ h)
 by_cases hB:zss c l 30 = true∧hs.length≤20∧ws.length≤20
 case neg=>exact no hB
 obtain ⟨hB,h1,h2⟩:=hB
 have T:=tree_law (by omega) hB
 have hlen:=fltL_len (l:=l) (hs:=hs) (ws:=ws)
 refine zym c l hs ws (zss c l 30) (srtI (fltL l hs ws)) (fltB l hs ws) zq6 k1 (fun _ a b=>cF l hs ws T.lad a b) (fun _ a b t=>rFault_ok l T.lad hs ws (by omega) (by omega) t) (by omega)
  (fun i x y hx hy=>rise_next (z4g _) hx hy) (fun x hx=>flt_at hx) (fun x hx=>flt_has (List.mem_map.2 ⟨x,hx,rfl⟩)) (fun _ a b hF=>⟨(zjv hs ws).map edA,edg_ok hs ws (by omega) (by omega),?_⟩)
 have hel:=edges_len (hs:=hs) (ws:=ws)
 have hm:ws.length * hs.length≤20 * 20:=Nat.mul_le_mul b a
 have cS:=Stuck_ok (zjv hs ws) (by omega) (fun e he=>by
  obtain ⟨w,x,q1,q2,q3,q4,_⟩:=zrt (zyq he)
  exact ⟨q3 ▸ (ow w q1).thread,q4 ▸ (oh x q2).thread⟩)
 rw [stuck_none T (flt_none hF) fun e he=>zyq he] at cS
 exact cS
end
section
open Go.RowKit Go.MapKept
theorem infoH:(Tryz.prog.info? 32).map (fun i=>(i.zero,i.size,i.bytes)) = some (some (.agg #[.int .i64 0,.int .i64 0,.bool false]),3,24):=by kernel_rfl
theorem grow_calls (n:Nat) (hn:n≤1000000) (w:World):Calls Tryz.prog 46 #[.slice none 0 0,.int .i64 n] w fun e w'=>∃ v,e = .returned v∧Below w.heap.size w w'∧w'.ownsRow w.heap.size 32 3 v 0 []:=by
 obtain ⟨i0,hi,hz0,hz1,hz2⟩:=info_parts infoH
 by_cases h0:n = 0
 ·subst h0
  refine (Any8.slices_Grow_room Tryz.growH none 0 0 0 w (by omega) (by omega) (by omega) (by omega)).mono ?_
  rintro e w' ⟨rfl,rfl⟩
  exact ⟨_,rfl,Below.refl _ _,World.ownsRow_nil _ _ _ _⟩
 ·refine (Any8.slices_Grow_grow Tryz.growH i0 _ hi hz0 (by omega) none 0 0 n [] w (by omega) (by omega) (by rw [hz2]; omega) (by omega) (by simp) (fun _=>rfl) (fun a h=>by cases h)).mono ?_
  rintro e w' ⟨rfl,rfl⟩
  refine ⟨_,rfl,((Below.refl _ w).drew).alloc (Nat.le_refl _) _,rfl,.inr ⟨_,_,_,rfl,Nat.le_refl _,World.alloc_heap_new w.drew _,Nat.zero_le _,?_,?_,by simp⟩⟩
  ·have hmx:100000000≤maxLen:=by decide
   exact grownCap_le_maxLen _ _ _ _ (by omega)
  ·have hc:=grownCap_ge w (0 + n) 0 (Tryz.growH_ren.t 25)
   have e3:(Value.agg #[Value.int IntKind.i64 0,Value.int IntKind.i64 0,Value.bool false]).cells.size = 3:=rfl
   simp only [Array.size_append,size_zeroCells,e3,List.size_toArray,List.length_nil]
   omega
end
section
open Go.RowKit Go.Sort
theorem zpd {l:List Int} (hd:l.Nodup):(l.mergeSort fun x y=>decide (x≤y)) = srtI l:=by
 have hp:=List.mergeSort_perm l fun x y=>decide (x≤y)
 refine z4v ?_ (z4g l) fun x=>hp.mem_iff.trans z3f.symm
 have h1:(l.mergeSort fun x y=>decide (x≤y)).Pairwise fun a b=>decide (a≤b) = true:=List.pairwise_mergeSort (fun a b c h1 h2=>by simp only [decide_eq_true_eq] at *; omega) (fun a b=>by simp only [Bool.or_eq_true,decide_eq_true_eq]; omega) l
 have h2:(l.mergeSort fun x y=>decide (x≤y)).Pairwise fun a b=>a ≠ b:=hp.nodup_iff.2 hd
 unfold Rise
 exact (h1.and h2).imp fun ⟨p,q⟩=>by simp only [decide_eq_true_eq] at p; omega
theorem y6y {l:List Int} (hd:l.Nodup):(srtI l).length = l.length:=by rw [← zpd hd,List.length_mergeSort]
theorem sort_calls (b:Nat) (v:Value) (n:Nat) (zs:List Int) (hd:zs.Nodup) (hn:zs.length≤1000000) (w:World) (ho:w.ownsRow b 3 1 v n (zs.map (Value.int .i64))) :
  Calls Tryz.prog 22 #[v] w fun e w'=>e = .returned (.tuple #[])∧w'.ownsRow b 3 1 v n ((srtI zs).map (Value.int .i64))∧w'.os = w.os∧w'.tape = w.tape∧w'.output = w.output∧w.heap.size≤w'.heap.size ∧
   ∀ k,k < w.heap.size->some k ≠ v.ownBlock->w'.heap[k]? = w.heap[k]?:=by
 have hlen:zs.length = n:=by simpa using ho.1
 rcases ho.2 with ⟨rfl,h0⟩ | ⟨g,cap,cur,rfl,hb,hg,hc,hm,hs,ht⟩
 ·subst h0
  obtain rfl:zs = []:=List.length_eq_zero_iff.1 hlen
  refine (Tryz.slices_Sort_int_none none 0 w).mono ?_
  rintro e w' ⟨rfl,rfl⟩
  exact ⟨rfl,ho,rfl,rfl,rfl,Nat.le_refl _,fun _ _ _=>rfl⟩
 ·subst hlen
  have hcell:∀ j,j < zs.length->cur[j]? = some (Value.int .i64 zs[j]!):=fun j hj=>by
   have e1:cur[j]? = (cur.toList.take (zs.length * 1))[j]?:=by
    rw [List.getElem?_take_of_lt (by omega),Array.getElem?_toList]
   rw [e1,ht,List.getElem?_map,List.getElem?_eq_getElem hj,Option.map_some,getElem!_pos zs j hj]
  refine (Tryz.slices_Sort_int g 0 cap zs w (fun j hj=>?_) (Array.getElem?_eq_some_iff.1 hg).1 (by omega)).mono ?_
  ·have hj':j < zs.length:=by simpa using hj
   refine ⟨?_,by simp [World.frozen?,hg]⟩
   rw [z0c hg,Nat.zero_add,hcell j hj']
   simp
  rintro e w' ⟨rfl,q,os,rfl⟩
  rw [zpd hd]
  have hl2:(srtI zs).length = zs.length:=y6y hd
  have hgb:=(Array.getElem?_eq_some_iff.1 hg).1
  have hsz:(putRow (Value.int .i64) (Sort.ahead w q) g 0 (srtI zs).toArray).heap.size = w.heap.size:=by simp [putRow,mapBlock,Sort.ahead]
  have hat:∀ k,k < w.heap.size->k ≠ g->(putRow (Value.int .i64) (Sort.ahead w q) g 0 (srtI zs).toArray).heap[k]? = w.heap[k]?:=fun k hk hne=>by
   simp [putRow,mapBlock,Sort.ahead,Array.getElem?_modify,Ne.symm hne]
  have hgx:(putRow (Value.int .i64) (Sort.ahead w q) g 0 (srtI zs).toArray).heap[g]? = some (.cells (putCells (Value.int .i64) 0 (srtI zs).toArray cur) 3 (0,0)):=by
   simp [putRow,mapBlock,Sort.ahead,Array.getElem?_modify,hg,onCells]
  have hgr:∀ k,k < w.heap.size->(Go.Sort.grow (putRow (Value.int .i64) (Sort.ahead w q) g 0 (srtI zs).toArray) os).heap[k]? = (putRow (Value.int .i64) (Sort.ahead w q) g 0 (srtI zs).toArray).heap[k]?:=fun k hk=>by
   simp only [Go.Sort.grow]
   rw [Array.getElem?_append_left (by omega)]
  refine ⟨rfl,⟨by simp [hl2],.inr ⟨g,cap,_,rfl,hb,(hgr g hgb).trans hgx,hc,hm,by simp [putCells,hs],?_⟩⟩,rfl,rfl,rfl,by simp only [Go.Sort.grow,Array.size_append]; omega,fun k hk hne=>(hgr k hk).trans (hat k hk fun e=>hne (by rw [e]; rfl))⟩
  refine List.ext_getElem? fun j=>?_
  by_cases hj:j < zs.length
  ·have hjc:j < cur.size:=by omega
   rw [List.getElem?_take_of_lt (by omega),Array.getElem?_toList,putCells,Array.getElem?_mapIdx,Array.getElem?_eq_getElem hjc,List.getElem?_map,List.getElem?_eq_getElem (by omega)]
   simp [hl2,hj]
  ·rw [List.getElem?_eq_none (by rw [List.length_take]; omega),List.getElem?_eq_none (by simp [hl2]; omega)]
end
section
open Go.RowKit
theorem zt7 {P:Program} (w:World) (base:Nat) (t ty e:TypeId) (i:TypeInfo) (size:Nat) (ht:P.underlying t = some (.slice e)) (hi:P.info? e = some i)
  (v:Value) (n:Nat) (xs:List Value) (hown:w.ownsRow base e size v n xs) (p:Option Addr) (c:Nat) :
  (Builtin.append_ #[t,t] ty #[v,.slice p 0 c]).run P w = .ok v w:=by
 rcases hown.2 with ⟨rfl,rfl⟩ | ⟨g,cap,cur,rfl,_,_,hnc,_⟩
 ·cases p <;> simp [Builtin.append_,run_underlying ht,sizeOf,typeInfo,hi,Builtin.lenOf,Builtin.firstCells,storeCells,loadCells,loadCellsFrom]
 ·cases p <;> simp [Builtin.append_,run_underlying ht,sizeOf,typeInfo,hi,Builtin.lenOf,Builtin.firstCells,hnc,storeCells,loadCells,loadCellsFrom]
theorem zdx {P:Program} {w:World} {ops:Array Oper} {rest:List Oper} {o:Oper} {a:Act} {Q:Exit->Act->World->Prop} (hgd:o.guard = none) (s x:Operand) (t:TypeId)
  (ho:o.op = .call { callee:=.builtin .append,args:=#[s,x],argTypes:=#[t,t] })
  (base:Nat) (e:TypeId) (i:TypeInfo) (size:Nat) (ht:P.underlying t = some (.slice e)) (hi:P.info? e = some i)
  (v:Value) (n:Nat) (xs:List Value) (hs:a.eval s = v) (hown:w.ownsRow base e size v n xs)
  (p:Option Addr) (c:Nat) (hx:a.eval x = .slice p 0 c)
  (h:wpList P ops Q rest (a.put o.dst v) w):wpList P ops Q (o :: rest) a w :=
 wpList_plain hgd fun K hK=>by
  have hr:=zt7 w base t o.type e i size ht hi v n xs hown p c
  unfold Oper.wp execOp
  simp only [ho,resolve,invoke,builtin,Sem.run_bind,Sem.run_pure,Result.andThen_ok,List.map_toArray,List.map_cons,List.map_nil,hs,hx,hr]
  exact hK _ _ h
end
section
open Go.RowKit
def hldV (x:Hld):List Value:=[.int .i64 x.thread,.int .i64 x.slot,.bool x.wr]
def z2w (l:List Hld):List Value:=l.flatMap hldV
theorem zyj:∀ l,(z2w l).length = l.length * 3
 | []=>rfl
 | x :: l=>by
  have:=zyj l
  unfold z2w at *
  rw [List.flatMap_cons,List.length_append,this,List.length_cons]
  simp only [hldV,List.length_cons,List.length_nil]
  omega
theorem hldsV_one:∀ (l:List Hld),∀ u ∈ z2w l,u.oneCell' = true:=fun l u hu=>by
 obtain ⟨x,_,hx⟩:=List.mem_flatMap.1 hu
 simp only [hldV,List.mem_cons,List.not_mem_nil,or_false] at hx
 rcases hx with rfl | rfl | rfl <;> rfl
def RdH (w:World) (A:Value) (l:List Hld):Prop:=∃ (p:Option Addr) (c:Nat),A = .slice p l.length c∧(0 < l.length->∃ ad,p = some ad∧ad.block < w.heap.size∧∀ j u,(z2w l)[j]? = some u->w.cell? (ad.add j) = some u)
theorem RdH.below {w w':World} {A:Value} {l:List Hld} (h:RdH w A l) (hB:Below w.heap.size w w'):RdH w' A l:=by
 obtain ⟨p,c,e,h⟩:=h
 refine ⟨p,c,e,fun h0=>?_⟩
 obtain ⟨ad,e,hb,hc⟩:=h h0
 refine ⟨ad,e,Nat.lt_of_lt_of_le hb hB.size,fun j u hu=>?_⟩
 have hbl:(ad.add j).block = ad.block:=by unfold Addr.add; split <;> rfl
 exact (hB.cell (p:=ad.add j) (by rw [hbl]; exact hb)).trans (hc j u hu)
theorem zck {w:World} {ops:Array Oper} {rest:List Oper} {o:Oper} {a:Act} {Q:Exit->Act->World->Prop} (hgd:o.guard = none) (s x:Operand)
  (ho:o.op = .call { callee:=.builtin .append,args:=#[s,x],argTypes:=#[25,25] })
  (base:Nat) (v:Value) (n:Nat) (xs:List Value) (hs:a.eval s = v) (hown:w.ownsRow base 32 3 v n xs)
  (A:Value) (l:List Hld) (hA:RdH w A l) (hx:a.eval x = A) (hl:n + l.length≤1000000) (hbase:base≤w.heap.size)
  (h:∀ v' w',w'.ownsRow base 32 3 v' (n + l.length) (xs ++ z2w l)->w.grownBy w' v.ownBlock->(∀ k,v'.ownBlock = some k->v.ownBlock = some k∨k = w.heap.size)->wpList Tryz.prog ops Q rest (a.put o.dst v') w') :
  wpList Tryz.prog ops Q (o :: rest) a w:=by
 obtain ⟨i0,hi,hz0,hz1,hz2⟩:=info_parts infoH
 obtain ⟨p,c,rfl,hc⟩:=hA
 by_cases h0:0 < l.length
 ·obtain ⟨ad,rfl,hb,hc⟩:=hc h0
  have hmx:100000000≤maxLen:=by decide
  exact wpList_append_lies _ hgd s x _ ho base _ i0 _ 3 24 Tryz.underlying25 hi hz0 hz1 hz2 rfl (by decide) v n xs hs hown ad l.length c (z2w l) hx (zyj l) hc (hldsV_one l) h0 (by omega) (by omega) hbase _ rfl fun g cap w' h2 h3 h4 h5=>h _ w' h2 h3 fun k hk=>by
   cases hk
   exact h4
 ·have e0:l = []:=List.length_eq_zero_iff.1 (by omega)
  subst e0
  refine zdx hgd s x _ ho base _ i0 3 Tryz.underlying25 hi v n xs hs hown p c hx (h v w ?_ ⟨rfl,rfl,rfl,Nat.le_refl _,fun _ _ _=>rfl⟩ fun k hk=>.inl hk)
  simpa [z2w] using hown
end
section
open Go.RowKit Go.MapKept
theorem y17 {w:World} {base:Nat} {e:TypeId} {z:Nat} {v:Value} {n:Nat} {xs:List Value} (h:w.ownsRow base e z v n xs) (k:Nat) (hk:k < base):some k ≠ v.ownBlock:=by
 rcases h.2 with ⟨rfl,_⟩ | ⟨g,cap,cur,rfl,hb,_⟩
 ·exact fun e=>by cases e
 ·intro e
  cases e
  exact absurd hk (Nat.not_lt.2 hb)
theorem z8l {b:Nat} {w w1 w2:World} {r:Option Nat} (hB:Below b w w1) (hG:w1.grownBy w2 r) (hf:∀ k,k < b->some k ≠ r) (hb:b≤w1.heap.size):Below b w w2 :=
 hB.trans ⟨hG.os,hG.tape,hG.output,hG.size,fun k hk=>hG.block k (by omega) (hf k hk)⟩
set_option maxHeartbeats 4000000 in
theorem zz3 (b:Nat) (A B:Value) (hs ws:List Hld) (w:World) (T:TypeId) (hb:w.heap[b]? = some (.cells #[A,B] T (0,0))) (hA:RdH w A hs) (hB':RdH w B ws) (h1:hs.length≤1000) (h2:ws.length≤1000) :
  Calls Tryz.prog 19 #[.slice (some ⟨b,0,none⟩) 2 2] w fun e w'=>∃ v,e = .returned v∧Below w.heap.size w w'∧w'.ownsRow w.heap.size 32 3 v (hs.length + ws.length) (z2w hs ++ z2w ws):=by
 have hblt:=(Array.getElem?_eq_some_iff.1 hb).1
 obtain ⟨pA,cA,eA,rA⟩:=id hA
 obtain ⟨pB,cB,eB,rB⟩:=id hB'
 subst eA
 subst eB
 have b0:w.cell? ⟨b,0,none⟩ = some (.slice pA hs.length cA):=by rw [z0c hb]; rfl
 have b1:w.cell? ⟨b,1,none⟩ = some (.slice pB ws.length cB):=by rw [z0c hb]; rfl
 go_enter Tryz.func19,Tryz.ntmps19
 go_wp2
 refine wp_loop_rounds 3 ?_
 rw [rounds_succ]
 go_wp2
 rw [rounds_succ]
 go_wp2
 rw [rounds_succ]
 have cg:∀ W:World,Calls Tryz.prog 46 #[.slice none 0 0,.int .i64 ((hs.length:Int) + (ws.length:Int))] W fun e w'=>∃ v,e = .returned v∧Below W.heap.size W w'∧w'.ownsRow W.heap.size 32 3 v 0 []:=fun W=>by
  have:=grow_calls (hs.length + ws.length) (by omega) W
  rwa [Int.natCast_add] at this
 go_wp2_with (go_at_call 46; refine (cg _).mono ?_; rintro e w1 ⟨v1,rfl,hB1,hO1⟩)
 have hB:Below w.heap.size w w1:=hB1
 have c0:=(hB.cell (p:=⟨b,0,none⟩) hblt).trans b0
 have hA1:=hA.below hB
 have hn1:0 + hs.length≤1000000:=by omega
 refine wp_loop_rounds 3 ?_
 rw [rounds_succ]
 go_wp2_with (at_builtin; (refine zck rfl (.tmp 31) (.tmp 32) rfl w.heap.size v1 0 [] rfl hO1 (.slice pA hs.length cA) hs hA1 rfl hn1 hB.size ?_; intro v2 w2 hO2 hG2 hv2))
 have hBB:=z8l hB hG2 (y17 hO1) hB.size
 have c1:=(hBB.cell (p:=⟨b,1,none⟩) hblt).trans b1
 rw [rounds_succ]
 go_wp2_with (at_builtin; refine zck rfl _ _ rfl w.heap.size v2 _ _ rfl hO2 _ ws (hB'.below hBB) rfl (by omega) hBB.size ?_; intro v3 w3 hO3 hG3 hv3)
 have hBC:=z8l hBB hG3 (y17 hO2) hBB.size
 rw [rounds_succ]
 go_wp2
 go_ret
 refine ⟨v3,rfl,hBC,?_⟩
 simpa using hO3
end
section
open Go.RowKit Go.MapKept
theorem y7k:∀ (l:List Hld) (j:Nat) (u:Value),(z2w l)[j]? = some u->∃ (i k:Nat) (h:Hld),j = i * 3 + k∧k < 3∧l[i]? = some h∧(hldV h)[k]? = some u
 | [],j,u,h=>by simp [z2w] at h
 | x :: l,j,u,h=>by
  have e:z2w (x :: l) = hldV x ++ z2w l:=by simp [z2w]
  rw [e] at h
  have h3:(hldV x).length = 3:=rfl
  by_cases hj:j < 3
  ·rw [List.getElem?_append_left (by omega)] at h
   exact ⟨0,j,x,by omega,hj,rfl,h⟩
  ·rw [List.getElem?_append_right (by omega),h3] at h
   obtain ⟨i,k,y,h1,h2,h4,h5⟩:=y7k l (j - 3) u h
   exact ⟨i + 1,k,y,by omega,h2,h4,h5⟩
theorem RdH.of {Pr:Nat->Nat->Prop} {w:World} {A:Value} {l:List Hld} (h:VR Pr w (.sl (l.map Hld.a)) A):RdH w A l:=by
 cases h with
 | sl _ A cap z u hcap hmax hA hh =>
  rw [List.length_map] at *
  refine ⟨A,cap,rfl,fun h0=>?_⟩
  obtain ⟨b,off,e,hL⟩:=hA h0
  refine ⟨_,e,hL.lt,fun j v hv=>?_⟩
  obtain ⟨i,k,x,rfl,hk,hx,hv⟩:=y7k l j v hv
  have hz:z = 3:=by
   have:=hL.len x.a (List.mem_map.2 ⟨x,List.mem_of_getElem? hx,rfl⟩)
   exact this.symm
  subst hz
  have hd:(l.map Hld.a)[i]? = some x.a:=by rw [List.getElem?_map,hx]; rfl
  have hadd:(⟨b,off,none⟩:Addr).add (i * 3 + k) = ⟨b,off + (i * 3 + k),none⟩:=by unfold Addr.add; split <;> simp_all
  rw [hadd]
  have hi:=(List.getElem?_eq_some_iff.1 hx).1
  match k,hk,hv with
  | 0,_,hv =>
   cases hv
   have:=hh i x.a 0 _ hd rfl
   have hc:=(hL.at_ i 0 (by simpa using hi) (by omega)).2
   generalize u i 0 = y at this hc
   cases this
   exact hc
  | 1,_,hv =>
   cases hv
   have:=hh i x.a 1 _ hd rfl
   have hc:=(hL.at_ i 1 (by simpa using hi) (by omega)).2
   generalize u i 1 = y at this hc
   cases this
   exact hc
  | 2,_,hv =>
   cases hv
   have:=hh i x.a 2 _ hd rfl
   have hc:=(hL.at_ i 2 (by simpa using hi) (by omega)).2
   generalize u i 2 = y at this hc
   cases this
   exact hc
end
end Go.Proofs.YtlhblpbfhfhlpaaGreat
