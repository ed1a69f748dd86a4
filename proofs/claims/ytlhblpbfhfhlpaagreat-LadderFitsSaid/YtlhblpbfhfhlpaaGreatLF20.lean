/-
  Part 20 of a proof: WaJ.
-/
import Derived.Test.YtlhblpbfhfhlpaaGreatLF19
set_option linter.unusedVariables false
set_option linter.unusedSimpArgs false
section
namespace Go.Proofs.YtlhblpbfhfhlpaaGreat
open Go.RowKit Go.Maps Go.Sort Go.Shelf
open Go.WideElems (Fit rg)
def I64 (n:Int):Prop:=-9223372036854775808≤n∧n≤9223372036854775807
def R1:Value->Option (DataW Unit × List MemPlace):=fun _=>some (.nil,[])
theorem rd_int {m:MapEntry} {n:Int} (hk:m.key = .int .i64 n) (hn:I64 n):Go.WideElems.rd Tryz.prog 3 R1 m = some (.int .i64 n,.nil):=by
 have hw:(Lit.int .i64 n).wf = true:=by
  unfold I64 at hn
  show (decide (IntKind.min .i64≤n) && decide (n≤IntKind.max .i64)) = true
  have h1:IntKind.min .i64 = -9223372036854775808:=by decide
  have h2:IntKind.max .i64 = 9223372036854775807:=by decide
  rw [h1,h2]; simp; omega
 have:keyOf Tryz.prog 3 m.key = some (.int .i64 n):=by
  rw [hk]
  simp [keyOf,mapKey,Tryz.underlying3,hw]
 unfold Go.WideElems.rd
 rw [this]
 rfl
structure Kys (es:List (Int × AV)) (D:DataW Unit):Prop where
 perm:(intKeys D).Perm (es.map (·.1))
 nodup:(es.map (·.1)).Nodup
 size:Go.Maps.size D = es.length
theorem own_map {w:World} {es:List (Int × AV)} {g:Nat} {ms:Array MapEntry} {c:Nat} (hb:w.heap[g]? = some (.map ms c)) (hst:Go.MapKept.Stamped ms c) (hl:es.length = ms.size)
  (hk:∀ (i:Nat) (e:Int × AV) (m:MapEntry),es[i]? = some e->ms[i]? = some m->m.key = .int .i64 e.1) (hin:∀ n,n ∈ es.map (·.1)->I64 n) (hm:es.length≤1000000) :
  ∃ D,w.ownsMap Tryz.prog 3 R1 g es.length D∧Kys es D:=by
 have hat:∀ (i:Nat) (m:MapEntry),ms[i]? = some m->∃ e,es[i]? = some e∧m.key = .int .i64 e.1∧Go.WideElems.rd Tryz.prog 3 R1 m = some (.int .i64 e.1,.nil):=fun i m h=>by
  have hi:i < es.length:=by rw [hl]; exact (Array.getElem?_eq_some_iff.1 h).1
  have he:es[i]? = some es[i]:=List.getElem?_eq_getElem hi
  have h1:=hk i _ m he h
  exact ⟨_,he,h1,rd_int h1 (hin _ (List.mem_map.2 ⟨_,List.mem_of_getElem? he,rfl⟩))⟩
 have hlist:ms.toList.map (rg Tryz.prog 3 R1) = es.map fun e=>((.int .i64 e.1:Lit),(.nil:DataW Unit)):=by
  refine List.ext_getElem? fun i=>?_
  rw [List.getElem?_map,List.getElem?_map,Array.getElem?_toList (xs:=ms)]
  cases h:ms[i]? with
  | none =>
   have:es.length≤i:=by rw [hl]; exact Array.getElem?_eq_none_iff.1 h
   rw [List.getElem?_eq_none this]; rfl
  | some m =>
   obtain ⟨e,he,_,hr⟩:=hat i m h
   rw [he]
   simp only [Option.map_some]
   rw [Go.WideElems.rg_of hr]
 have hkey:List.map (fun e:Int × AV=>Value.int .i64 e.1) es = ms.toList.map (·.key):=by
  refine List.ext_getElem? fun i=>?_
  rw [List.getElem?_map,List.getElem?_map,Array.getElem?_toList (xs:=ms)]
  cases h:ms[i]? with
  | none =>
   have:es.length≤i:=by rw [hl]; exact Array.getElem?_eq_none_iff.1 h
   rw [List.getElem?_eq_none this]; rfl
  | some m =>
   obtain ⟨e,he,h1,_⟩:=hat i m h
   rw [he]
   simp only [Option.map_some,h1]
 refine ⟨_,⟨ms,c,hb,⟨by rw [← hl]; unfold maxLen; omega,hst,fun x hx=>?_⟩,by omega,rfl⟩,⟨?_,?_,?_⟩⟩
 ·obtain ⟨i,hi⟩:=List.mem_iff_getElem?.1 hx
  obtain ⟨e,_,_,hr⟩:=hat i x (by rw [← Array.getElem?_toList]; exact hi)
  exact ⟨_,hr⟩
 ·rw [hlist]
  have hp:=(Go.WideShapes.sorted_perm (es.map fun e=>((.int .i64 e.1:Lit),(.nil:DataW Unit)))).map (fun p=>_root_.Go.intOf p.1)
  rw [List.map_map] at hp
  exact hp
 ·have h3:=hst.2.2
  rw [← hkey] at h3
  have:(es.map (·.1)).map (Value.int .i64) = es.map fun e=>Value.int .i64 e.1:=by rw [List.map_map]; rfl
  rw [← this] at h3
  exact (List.pairwise_map.1 h3).imp fun h e=>h (by rw [e])
 ·show List.length _ = _
  rw [hlist,(Go.WideShapes.sorted_perm _).length_eq,List.length_map]
theorem sort_rise {ss es:List Int} (hp:ss.Perm es) (hn:es.Nodup):Rise (ss.mergeSort fun x y=>decide (x≤y))∧∀ x,x ∈ (ss.mergeSort fun x y=>decide (x≤y)) ↔ x ∈ es:=by
 have tr:∀ a b c:Int,decide (a≤b) = true->decide (b≤c) = true->decide (a≤c) = true:=fun a b c h1 h2=>by simp only [decide_eq_true_eq] at *; omega
 have to:∀ a b:Int,(decide (a≤b) || decide (b≤a)) = true:=fun a b=>by simp only [Bool.or_eq_true,decide_eq_true_eq]; omega
 have h1:=List.pairwise_mergeSort tr to ss
 have hq:=(List.mergeSort_perm ss fun x y=>decide (x≤y)).trans hp
 have h2:(ss.mergeSort fun x y=>decide (x≤y)).Nodup:=hq.nodup_iff.2 hn
 refine ⟨?_,fun x=>hq.mem_iff⟩
 exact (h1.and h2).imp fun ⟨a,b⟩=>by simp only [decide_eq_true_eq] at a; omega
theorem sortsI (m : Nat) : AnyZI.SortsIn Tryz.prog Tryz.sortedA_ren Fence.wide m :=
  ⟨fun blk off cap ss W hH hblk hsz => callsIn_wide.2 (Tryz.slices_Sort_int blk off cap ss W hH hblk hsz),
   fun p cap W => callsIn_wide.2 (Tryz.slices_Sort_int_none p cap W)⟩
theorem zt1 {w:World} {B g:Nat} {es:List (Int × AV)} {D:DataW Unit} (hB:B < w.heap.size) (hm:w.cell? ⟨B,0,none⟩ = some (.map (some g))) (ho:w.ownsMap Tryz.prog 3 R1 g es.length D) (hk:Kys es D) (hl:es.length≤1000000) :
  Calls Tryz.prog 27 #[.func (.func 54) #[] #[.pointer (some ⟨B,0,none⟩)]] w fun e w'=>∃ (v:Value) (r:List Int),e = .returned v∧Rise r∧(∀ x,x ∈ r ↔ x ∈ es.map (·.1)) ∧
   w'.ownsRow w.heap.size 3 1 v r.length (r.map (Value.int .i64))∧Below w.heap.size w w':=by
 have hseq:SeqGives Fence.wide 2 Tryz.prog 54 #[.pointer (some ⟨B,0,none⟩)] encZ (fun ss=>ss.Perm (intKeys D)) (Go.Maps.size D) w :=
  AnyZI.keys_gives (ρ:=Tryz.keysB_ren) { Tryz.keysB with } Fence.wide _ trivial rfl (by omega) B g _ D _ hB hm ho
 have cS:=AnyZI.sorted_in Tryz.sortedA Fence.wide 5 trivial trivial trivial trivial rfl (by omega) (sortsI _) (enters_of Tryz.func22 (by kernel_rfl) rfl) 54 #[.pointer (some ⟨B,0,none⟩)] trivial (enters_of Tryz.func54 (by kernel_rfl) rfl) _ _ (by rw [hk.size]; unfold maxLen; omega) (by rw [hk.size]; omega) _ hseq
 change CallsIn _ _ Tryz.prog 27 _ _ _ at cS
 refine (callsIn_wide.1 cS).mono ?_
 rintro e w' ⟨v,ss,rfl,hS,hrow,_,hb⟩
 have hr:=sort_rise (hS.trans hk.perm) hk.nodup
 refine ⟨v,_,rfl,hr.1,hr.2,?_,hb⟩
 rw [List.length_mergeSort]
 exact hrow
theorem keysB_ok (mb:Option Nat) (W:World):Calls Tryz.prog 28 #[.map mb] W fun e w'=>e = .returned (.func (.func 54) #[] #[.pointer (some ⟨W.heap.size,0,none⟩)])∧w' = W.alloc (.cells #[.map mb] 56) :=
 callsIn_wide.1 (AnyZI.keys_in Tryz.keysB Fence.wide 5 trivial rfl mb W)
end Go.Proofs.YtlhblpbfhfhlpaaGreat
end
