/-
  Part 7 of a proof: SqA, SqB, SqC, SqD, SqE, SqF, NdA.
-/
import Derived.IntWalk
import Derived.Test.YthpbokjnfloeoaaGreatDoorTL6
namespace Go.Proofs.YthpbokjnfloeoaaGreatDoor
attribute [local go_sem] ev0 ev1 ev2 ev3 ev4 evA zjt.eq_1 zjt.eq_2 zjs.eq_1 zjs.eq_2 okV valV fzV okF valF okBld zh0 mxOk.eq_1 mxOk.eq_2 y9f.eq_1 y9f.eq_2 z1q.eq_1 z1q.eq_2 z1q.eq_3 z5l.eq_1 z5l.eq_2 z5l.eq_3 upd_at AV.flatB AV.flatBs zxi binIV zxh binSV z2k.eq_1 z2k.eq_2 z25.eq_1 z25.eq_2 z0e.eq_1 z0e.eq_2 objZ.eq_1 objZ.eq_2 z1l.eq_1 z1l.eq_2 znj ze6.eq_1 ze6.eq_2 ze6.eq_3 z0v.eq_1 z0v.eq_2 z0v.eq_3 z94.eq_1 z94.eq_2 z94.eq_3 z94.eq_4 z3f.eq_1 z3f.eq_2 z3f.eq_3 z3f.eq_4 faOk.eq_1 faOk.eq_2 faOk.eq_3 zoc.eq_1 zoc.eq_2 zoc.eq_3 iaOk.eq_1 iaOk.eq_2 iaOk.eq_3 znz.eq_1 znz.eq_2 znz.eq_3 z2l.eq_1 z2l.eq_2 z2l.eq_3 z2l.eq_4 bdOk.eq_1 bdOk.eq_2 z9f.eq_1 z9f.eq_2 z8l.eq_1 z8l.eq_2 z8l.eq_3 z8l.eq_4 z3e.eq_1 z3e.eq_2 z3e.eq_3 z3e.eq_4 zz0.eq_1 zz0.eq_2 loK.eq_1 loK.eq_2 loK.eq_3 zdy.eq_1 zdy.eq_2 zdy.eq_3 byOk.eq_1 byOk.eq_2 byOk.eq_3 byOk.eq_4 byOk.eq_5 byOk.eq_6 byOk.eq_7 byOk.eq_8 z18.eq_1 z18.eq_2 z18.eq_3 byFz.eq_1 byFz.eq_2 byFz.eq_3 z5m z17 z71 zpb z6y.eq_1 z6y.eq_2 z1b.eq_1 z1b.eq_2 stOk.eq_1 stOk.eq_2 zpg.eq_1 zpg.eq_2 stSt.eq_1 stSt.eq_2 AV.patch z91 gB.eq_1 gB.eq_2 gB.eq_3 gIs.eq_1 gIs.eq_2 gIs.eq_3 retV resV y0w z09 z2o St.byval List.getD_cons_zero List.getD_cons_succ List.getD_nil List.map_cons List.map_nil List.length_cons List.length_nil List.take_succ_cons List.take_zero List.drop_succ_cons List.drop_zero List.headD_cons List.set_cons_zero List.append_nil List.nil_append List.cons_append List.contains_cons List.contains_nil List.elem_cons List.elem_nil List.all_cons List.all_nil List.getElem?_cons_zero List.getElem?_cons_succ List.filterMap_cons List.filterMap_nil Option.isSome_some Option.isSome_none Option.map_some Option.map_none Option.some.injEq AV.int.injEq AV.bool.injEq AV.str.injEq AV.tup.injEq AV.agg.injEq AV.sl.injEq List.cons.injEq Bool.false_eq_true Bool.true_eq_false Bool.not_true Bool.not_false Bool.and_true Bool.true_and Bool.or_false Bool.or_true Bool.false_or Bool.true_or Bool.or_self Bool.and_self Bool.not_eq_true' Bool.not_eq_false' Bool.not_not beq_self_eq_true true_and and_true false_and and_false and_self not_true_eq_false not_false_eq_true forall_const true_implies false_implies implies_true imp_self Nat.lt_add_one Nat.le_refl Nat.zero_le Nat.add_zero Nat.zero_add decide_true decide_false decide_eq_true_eq decide_eq_false_iff_not exists_eq_left exists_eq_left' ge_iff_le gt_iff_lt zeg z95 zzb.eq_1 zzb.eq_2 z9z.eq_1 z9z.eq_2 AV.isSl.eq_1 z9y.eq_1 z9y.eq_2 apSt.eq_1 y8e.eq_1 y8e.eq_2 y8d.eq_1 y8d.eq_2 apSt2.eq_1 zgp.eq_1 zgp.eq_2 slOf.eq_1 y9v List.mem_cons List.not_mem_nil Bool.false_and Bool.and_false z1p.eq_1 z1p.eq_2 z1p.eq_3 z1p.eq_4 z1p.eq_5 z0q.eq_1 z0q.eq_2 z0q.eq_3 z0q.eq_4 z0q.eq_5 mOk.eq_1 mOk.eq_2 mVal.eq_1 mVal.eq_2 mFz.eq_1 mFz.eq_2 mOks zzg mFzs za0.eq_1 za0.eq_2 mFn.eq_1 mFn.eq_2 zzh.eq_1 zzh.eq_2 ckOk.eq_1 ckOk.eq_2 cloOk.eq_1 ptrAt.eq_1 sh.eq_1 sh.eq_2 sh.eq_3 sh.eq_4 sh.eq_5 sh.eq_6 retM zjy evM za8.eq_1 za8.eq_2 ents.eq_1 ents.eq_2 kI.eq_1 mpOk.eq_1 mpR.eq_1 lkV.eq_1 lkV.eq_2 remp.eq_2 evP pvOk.eq_1 pvOk.eq_2 zz5.eq_1 zz5.eq_2 plOk.eq_1 plOk.eq_2 plOk.eq_3 plV.eq_1 plV.eq_2 plF.eq_1 plF.eq_2 zpj.eq_1 zpj.eq_2 plFz.eq_1 plFz.eq_2 lpOk.eq_1 lpOk.eq_2 y6a.eq_1 y6a.eq_2 lpFz.eq_1 lpFz.eq_2 zpf.eq_1 zpf.eq_2 zgq.eq_1 zgq.eq_2 zjq.eq_1 zpl.eq_1 zpl.eq_2
section
/-
 Spans on the plain machine: the code's.
-/
open Go.RowKit
set_option linter.unusedVariables false
set_option linter.unusedSimpArgs false
set_option maxRecDepth 100000
attribute [local go_sem ↓] z11 z0l
structure Spn where
 lo:ByteArray
 hi:ByteArray
 op:Bool
deriving DecidableEq
def Spn.a (s:Spn):AV:=.agg [.str s.lo,.str s.hi,.bool s.op]
def lt (a b:ByteArray):Bool:=Op.bytesLess a.toList b.toList
def Spn.has (s:Spn) (k:ByteArray):Bool:=!lt k s.lo && (s.op || lt k s.hi)
def Spn.empty (s:Spn):Bool:=!s.op && !lt s.lo s.hi
def Spn.none:Spn:=⟨⟨#[]⟩,⟨#[]⟩,false⟩
def Spn.norm (s:Spn):Spn:=if s.empty then Spn.none else if s.op then ⟨s.lo,⟨#[]⟩,true⟩ else s
def maxS (a b:ByteArray):ByteArray:=if lt a b then b else a
def minS (a b:ByteArray):ByteArray:=if lt b a then b else a
def Spn.cut (a b:Spn):Spn:=⟨maxS a.lo b.lo,if a.op then b.hi else if b.op then a.hi else minS a.hi b.hi,a.op && b.op⟩
def Spn.meet (a b:Spn):Spn:=(a.cut b).norm
def Spn.within (a b:Spn):Bool:=decide ((a.meet b).norm = a.norm)
def Spn.touch (a b:Spn):Bool:=!(a.meet b).empty
/-! ### percolate/span.Empty -/
attribute [local irreducible] mxS mnS
/-! ### percolate/span.Point -/
/-! ### percolate/key.Next -/
theorem Spn.ext' {a b:Spn} (h1:a.lo = b.lo) (h2:a.hi = b.hi) (h3:a.op = b.op):a = b:=by cases a; cases b; simp_all
def z2f (k:ByteArray):Spn:=⟨k,k ++ ⟨#[0]⟩,false⟩
end
section
/-
 Effects and messages on the plain machine: the code's.
-/
open Go.RowKit
set_option linter.unusedVariables false
set_option linter.unusedSimpArgs false
set_option maxRecDepth 100000
structure Eff where
 kind:Int
 val:ByteArray
deriving DecidableEq
structure Msg where
 stamp:Int
 kind:Int
 key:ByteArray
 hi:ByteArray
 op:Bool
 val:ByteArray
deriving DecidableEq
def Eff.a (e:Eff):AV:=.agg [.int .i64 e.kind,.str e.val]
def Msg.a (m:Msg):AV:=.agg [.int .i64 m.stamp,.int .i64 m.kind,.str m.key,.str m.hi,.bool m.op,.str m.val]
def Eff.none:Eff:=⟨0,⟨#[]⟩⟩
def z3c (s:ByteArray):ByteArray:=s.extract (s.size - 16) s.size
def Eff.thenC (a b:Eff):Eff:=if b.kind = 0 then a else if b.kind ≠ 2∨a.kind = 0 then b else ⟨if a.kind = 2 then 2 else 1,z3c ((if a.kind = 3 then ⟨#[]⟩ else a.val) ++ b.val)⟩
def Eff.thenR (a b:Eff):Eff:=if b.kind = 0 then a else if b.kind ≠ 2∨a.kind = 0 then b else ⟨if a.kind = 2 then 2 else 1,z3c (a.val ++ b.val)⟩
theorem then_same {a:Eff} (b:Eff) (h:a.kind = 3->a.val = ⟨#[]⟩):a.thenC b = a.thenR b:=by
 unfold Eff.thenC Eff.thenR
 split
 ·rfl
 ·split
  ·rfl
  ·by_cases h3:a.kind = 3
   ·rw [if_pos h3,h h3]
   ·rw [if_neg h3]
def Msg.span (m:Msg):Spn:=if m.kind = 4 then ⟨m.key,m.hi,m.op⟩ else z2f m.key
def Msg.on (m:Msg) (k:ByteArray):Eff:=if m.span.has k = true then (if m.kind = 1∨m.kind = 2 then ⟨m.kind,m.val⟩ else if m.kind = 3∨m.kind = 4 then ⟨3,⟨#[]⟩⟩ else Eff.none) else Eff.none
def z34 (a b:Msg):Msg × Bool :=
 if b.kind = 4∧a.span.within b.span = true then (b,true)
 else if a.kind = 4∨b.kind = 4∨a.key ≠ b.key then (⟨0,0,⟨#[]⟩,⟨#[]⟩,false,⟨#[]⟩⟩,false)
 else ({ b with kind:=((a.on a.key).thenC (b.on b.key)).kind,val:=((a.on a.key).thenC (b.on b.key)).val },true)
end
section
/-
 Lists of messages on the plain machine: the library's functions,Next,Dead.
-/
open Go.RowKit
set_option linter.unusedVariables false
set_option linter.unusedSimpArgs false
set_option maxRecDepth 100000
def MOk (l:List Msg):Prop:=l.length≤1000000∧∀ m,m ∈ l->m.key.size≤9223372036854775806
def z1y (p:Nat->Bool):Nat->Nat->Option Nat
 | 0,_=>none
 | f + 1,j=>if p j then some j else z1y p f (j + 1)
def z3t (l:List Msg) (i:Nat):Option Nat:=match l[i]? with
 | some m=>z1y (fun j=>(l[j]?).any fun x=>x.span.touch m.span) (l.length - (i + 1)) (i + 1)
 | none=>none
def cov (l:List Msg) (i:Nat):Bool:=match l[i]? with
 | some m=>(l.drop (i + 1)).any fun x=>x.kind == 4 && m.span.within x.span
 | none=>false
def dead (l:List Msg) (i:Nat):Bool:=match l[i]? with
 | some m=>if m.kind = 4 then cov l i else match z3t l i with
  | some j=>(l[j]?).any fun x=>x.kind != 2
  | none=>false
 | none=>false
theorem z43 {p:Nat->Bool}:∀ {f j k:Nat},z1y p f j = some k->j≤k∧k < j + f∧p k = true
 | 0,j,k,h=>by simp [z1y] at h
 | f + 1,j,k,h=>by
  simp only [z1y] at h
  by_cases hp:p j = true
  ·rw [if_pos hp] at h; cases h
   exact ⟨Nat.le_refl _,by omega,hp⟩
  ·rw [if_neg hp] at h
   obtain ⟨h1,h2,h3⟩:=z43 h
   exact ⟨by omega,by omega,h3⟩
theorem znl {l:List Msg} {i j:Nat} (h:z3t l i = some j):i < j∧∃ x,l[j]? = some x:=by
 unfold z3t at h
 split at h
 ·obtain ⟨h1,h2,h3⟩:=z43 h
  refine ⟨by omega,?_⟩
  cases hx:l[j]? with
  | none=>simp only [hx] at h3; cases h3
  | some x=>exact ⟨x,rfl⟩
 ·cases h
end
section
/-
 Squeeze on the plain machine.
-/
open Go.RowKit
set_option linter.unusedVariables false
set_option linter.unusedSimpArgs false
set_option maxRecDepth 100000
def sqGo:Nat->Nat->List Msg->List Msg->List Msg
 | 0,_,_,out=>out
 | f + 1,i,rest,out=>match rest[i]? with
  | none=>out
  | some m=>if dead rest i then sqGo f (i + 1) rest out else match z3t rest i with
   | none=>sqGo f (i + 1) rest (out ++ [m])
   | some j=>if m.kind = 4 then sqGo f (i + 1) rest (out ++ [m]) else match rest[j]? with
    | none=>out
    | some x=>if (z34 m x).2 then sqGo f (i + 1) (rest.set j (z34 m x).1) out else sqGo f (i + 1) rest (out ++ [m])
def z9s (l:List Msg):List Msg:=sqGo l.length 0 l []
def ROk (l:List Msg):Prop:=l.length≤1000000∧∀ m,m ∈ l->m.key.size≤9223372036854775806∧m.val.size≤4611686018427387903
theorem ROk.ok {l:List Msg} (h:ROk l):MOk l:=⟨h.1,fun m hm=>(h.2 m hm).1⟩
theorem on_size (m:Msg) (k:ByteArray):(m.on k).val.size≤m.val.size:=by
 unfold Msg.on Eff.none
 split
 ·split
  ·exact Nat.le_refl _
  ·split <;> exact Nat.zero_le _
 ·exact Nat.zero_le _
theorem y8j (s:ByteArray):(z3c s).size≤16:=by
 unfold z3c
 rw [ByteArray.size_extract]
 omega
end
section
/-
 The document's spans and messages on the plain machine.
-/
open Go.RowKit
set_option linter.unusedVariables false
set_option linter.unusedSimpArgs false
set_option maxRecDepth 100000
attribute [local go_sem ↓] z11 z0l
theorem drop_less (x y:List UInt8) (j:Nat) (hx:j < x.length) (hy:j < y.length):Op.bytesLess (x.drop j) (y.drop j) = if (x.getD j 0) = (y.getD j 0) then Op.bytesLess (x.drop (j + 1)) (y.drop (j + 1)) else decide (x.getD j 0 < y.getD j 0):=by
 rw [List.drop_eq_getElem_cons hx,List.drop_eq_getElem_cons hy,kp.less_cons,List.getD_eq_getElem?_getD,List.getD_eq_getElem?_getD,List.getElem?_eq_getElem hx,List.getElem?_eq_getElem hy]
 simp only [Option.getD_some]
 by_cases h:x[j] = y[j]
 ·rw [if_pos h,h]; simp
 ·rw [if_neg h]; simp [h]
def lessInv (a b:ByteArray) (r:Bool) (k:Nat) (σ:St):Prop :=
 ∃ j:Nat,j≤a.size∧j≤b.size∧k = a.size - j∧σ.T 0 = .str a∧σ.T 1 = .str b∧σ.T 5 = .int .i64 j∧Op.bytesLess (a.data.toList.drop j) (b.data.toList.drop j) = r
/-! ### percolate/percolateref01.Less -/
def y3g:Reg:=⟨[],[⟨.mv (.c (.bool false)),some 4,none,[],[]⟩],[],[],false⟩
def y3f:Reg:=⟨[],[⟨.mv (.c (.int .i64 0)),some 5,none,[],[]⟩],[],[],false⟩
def zia:List ROp:=[⟨.mv (.t 5),some 6,none,[],[]⟩,⟨.mv (.t 0),some 7,none,[],[]⟩,⟨.len true (.t 7),some 8,none,[],[]⟩,⟨.bin .lss (.t 6) (.t 8),some 9,none,[],[]⟩,⟨.mv (.t 9),some 10,none,[],[]⟩,⟨.mv (.t 5),some 11,(some (10,true)),[],[]⟩,⟨.mv (.t 1),some 12,(some (10,true)),[],[]⟩,⟨.len true (.t 12),some 13,(some (10,true)),[],[]⟩,⟨.bin .lss (.t 11) (.t 13),some 14,(some (10,true)),[],[]⟩,⟨.pick (.t 10) (.t 14) (.c (.bool false)),some 15,none,[],[]⟩]
def y3e:Reg:=⟨[],zia,[],[],false⟩
def zo3:List ROp:=[⟨.mv (.t 0),some 18,none,[],[]⟩,⟨.mv (.t 5),some 19,none,[],[]⟩,⟨.idx (.t 18) (.t 19),some 20,none,[],[]⟩,⟨.mv (.t 1),some 21,none,[],[]⟩,⟨.mv (.t 5),some 22,none,[],[]⟩,⟨.idx (.t 21) (.t 22),some 23,none,[],[]⟩]
def y3d:Reg:=⟨zo3,[⟨.bin .neq (.t 20) (.t 23),some 24,none,[],[]⟩],[],[],true⟩
def zo2:List ROp:=[⟨.mv (.t 0),some 25,none,[],[]⟩,⟨.mv (.t 5),some 26,none,[],[]⟩,⟨.idx (.t 25) (.t 26),some 27,none,[],[]⟩,⟨.mv (.t 1),some 28,none,[],[]⟩,⟨.mv (.t 5),some 29,none,[],[]⟩,⟨.idx (.t 28) (.t 29),some 30,none,[],[]⟩]
def y3c:Reg:=⟨zo2,[⟨.bin .lss (.t 27) (.t 30),some 31,none,[],[]⟩,⟨.mv (.t 31),some 4,none,[],[]⟩],[],[],true⟩
def zi9:List ROp:=[⟨.mv (.t 5),some 16,none,[],[]⟩,⟨.bin .add (.t 16) (.c (.int .i64 1)),some 17,none,[],[]⟩,⟨.mv (.t 17),some 5,none,[],[]⟩]
def y3b:Reg:=⟨[],zi9,[],[],false⟩
def ztq:IR:=(.seq (.seq (.reg y3e)
 (.cond (.t 15) .skip
 (.exit 0)))
 (.seq (.block 1 (.seq (.reg y3d)
 (.cond (.t 24) (.seq (.reg y3c)
 .ret)
 .skip)))
 (.reg y3b)))
def zi8:List ROp:=[⟨.mv (.t 0),some 32,none,[],[]⟩,⟨.len true (.t 32),some 33,none,[],[]⟩,⟨.mv (.t 1),some 34,none,[],[]⟩,⟨.len true (.t 34),some 35,none,[],[]⟩,⟨.bin .lss (.t 33) (.t 35),some 36,none,[],[]⟩,⟨.mv (.t 36),some 4,none,[],[]⟩]
def y3a:Reg:=⟨[],zi8,[],[],false⟩
def yfr:IR:=(.seq (.reg y3g)
 (.seq (.seq (.reg y3f)
 (.block 0 (.loop ztq)))
 (.seq (.reg y3a)
 .ret)))
def y0i:List RDesc:=[(.tmp 4)]
theorem e_rLess_0:EqR y3g [⟨.mv (.c (.bool false)),some 4,none,[],[]⟩] []:=fun _ _ _=>rfl
theorem e_rLess_1:EqR y3f [⟨.mv (.c (.int .i64 0)),some 5,none,[],[]⟩] []:=fun _ _ _=>rfl
theorem e_rLess_2:EqR y3e zia []:=fun _ _ _=>rfl
theorem e_rLess_3 (C:FuncId->List AV->AV->Prop) (σ:St) (K:St->Prop):z0k C y3d σ K = z08 C [] [⟨.bin .neq (.t 20) (.t 23),some 24,none,[],[]⟩] zo3 (σ.kills []) K:=rfl
theorem e_rLess_4 (C:FuncId->List AV->AV->Prop) (σ:St) (K:St->Prop):z0k C y3c σ K = z08 C [] [⟨.bin .lss (.t 27) (.t 30),some 31,none,[],[]⟩,⟨.mv (.t 31),some 4,none,[],[]⟩] zo2 (σ.kills []) K:=rfl
theorem e_rLess_5:EqR y3b zi9 []:=fun _ _ _=>rfl
theorem e_rLess_7:EqR y3a zi8 []:=fun _ _ _=>rfl
theorem fn_rLess {args:List AV} {r:AV} (ha:args.length.ble Tryz.f77.ntmps = true) (h:run (AFn Tryz.prog) yfr (endQ y0i r) (z0b args)):AFn Tryz.prog 77 args r :=
 AFn.of_code (pv:=false) (hint:=fun _=>[]) (c:=Tryz.f77.body.getD .skip) (by kernel_rfl) (by kernel_rfl) Tryz.func77 (by kernel_rfl) (by kernel_rfl) (by kernel_rfl) (of_decide_eq_true (by kernel_rfl)) (Nat.le_of_ble_eq_true ha) (Nat.le_of_ble_eq_true (by kernel_rfl)) (z0c h)
attribute [local go_sem ↓] yfr
attribute [local go_sem] y0i e_rLess_0 e_rLess_1 e_rLess_2 zia e_rLess_3 zo3 e_rLess_4 zo2 e_rLess_5 zi9 e_rLess_7 zi8
theorem z33 (a b:ByteArray) (ha:a.size≤9223372036854775807) (hb:b.size≤9223372036854775807):AFn Tryz.prog 77 [.str a,.str b] (.bool (lt a b)):=by
 have hla:a.data.toList.length = a.size:=by rw [Array.length_toList]; rfl
 have hlb:b.data.toList.length = b.size:=by rw [Array.length_toList]; rfl
 refine fn_rLess rfl ?_
 simp (maxSteps:=9^7) only [go_sem,↓reduceIte,reduceCtorEq,Nat.reduceEqDiff,Nat.reduceBEq,Nat.reduceAdd,Nat.reduceSub,Nat.reduceMul,Nat.reduceLT,Nat.reduceLeDiff,Nat.reduceBNe,Int.reduceBEq,Int.reduceBNe,Int.reduceLT,Int.reduceLE,Spn.a,Msg.a,Eff.a]
 refine z0d (lessInv a b (lt a b)) (k:=a.size) ⟨0,by omega,by omega,rfl,?_,?_,?_,?_⟩ ?_
 iterate 2 focus ((simp (maxSteps:=9^7) only [go_sem,↓reduceIte,reduceCtorEq,Nat.reduceEqDiff,Nat.reduceBEq,Nat.reduceAdd,Nat.reduceSub,Nat.reduceMul,Nat.reduceLT,Nat.reduceLeDiff,Nat.reduceBNe,Int.reduceBEq,Int.reduceBNe,Int.reduceLT,Int.reduceLE,Spn.a,Msg.a,Eff.a]) <;> rfl)
 ·simp (maxSteps:=9^7) only [go_sem,↓reduceIte,reduceCtorEq,Nat.reduceEqDiff,Nat.reduceBEq,Nat.reduceAdd,Nat.reduceSub,Nat.reduceMul,Nat.reduceLT,Nat.reduceLeDiff,Nat.reduceBNe,Int.reduceBEq,Int.reduceBNe,Int.reduceLT,Int.reduceLE,Spn.a,Msg.a,Eff.a]
  rfl
 ·simp only [List.drop_zero,lt,ByteArray.toList_eq]
 rintro k σ ⟨j,hja,hjb,rfl,t0,t1,t5,hr⟩
 simp only [ztq]
 by_cases h1:j < a.size
 ·have h1':(j:Int) < (a.size:Int):=by omega
  by_cases h2:j < b.size
  ·have h2':(j:Int) < (b.size:Int):=by omega
   have hw:IntKind.i64.wrap ((j:Int) + 1) = ((j + 1:Nat):Int):=by rw [IntWalk.i64_in _ (by omega)]; rfl
   rw [drop_less _ _ _ (by omega) (by omega)] at hr
   by_cases h3:a.data.toList.getD j 0 = b.data.toList.getD j 0
   ·rw [if_pos h3] at hr
    simp (maxSteps:=9^7) only [go_sem,↓reduceIte,reduceCtorEq,Nat.reduceEqDiff,Nat.reduceBEq,Nat.reduceAdd,Nat.reduceSub,Nat.reduceMul,Nat.reduceLT,Nat.reduceLeDiff,Nat.reduceBNe,Int.reduceBEq,Int.reduceBNe,Int.reduceLT,Int.reduceLE,Spn.a,Msg.a,Eff.a,t0,t1,t5,h1',h2',h3,decide_true,Int.toNat_natCast,bne_self_eq_false]
    refine ⟨by omega,by omega,?_⟩
    refine ⟨a.size - (j + 1),by omega,j + 1,by omega,by omega,rfl,?_,?_,?_,hr⟩ <;>
     (simp (maxSteps:=9^7) only [go_sem,↓reduceIte,reduceCtorEq,Nat.reduceEqDiff,Nat.reduceBEq,Nat.reduceAdd,Nat.reduceSub,Nat.reduceMul,Nat.reduceLT,Nat.reduceLeDiff,Nat.reduceBNe,Int.reduceBEq,Int.reduceBNe,Int.reduceLT,Int.reduceLE,Spn.a,Msg.a,Eff.a,t0,t1,t5,hw])
   ·rw [if_neg h3] at hr
    have h3':(((a.data.toList.getD j 0).toNat:Int) != ((b.data.toList.getD j 0).toNat:Int)) = true:=by
     simp only [bne_iff_ne,ne_eq]
     intro e
     exact h3 (UInt8.toNat.inj (by omega))
    simp (maxSteps:=9^7) only [go_sem,↓reduceIte,reduceCtorEq,Nat.reduceEqDiff,Nat.reduceBEq,Nat.reduceAdd,Nat.reduceSub,Nat.reduceMul,Nat.reduceLT,Nat.reduceLeDiff,Nat.reduceBNe,Int.reduceBEq,Int.reduceBNe,Int.reduceLT,Int.reduceLE,Spn.a,Msg.a,Eff.a,t0,t1,t5,h1',h2',decide_true,Int.toNat_natCast,h3']
    refine ⟨by omega,by omega,?_⟩
    rw [← hr]
    simp [UInt8.lt_iff_toNat_lt]
  ·have h2':¬ (j:Int) < (b.size:Int):=by omega
   simp (maxSteps:=9^7) only [go_sem,↓reduceIte,reduceCtorEq,Nat.reduceEqDiff,Nat.reduceBEq,Nat.reduceAdd,Nat.reduceSub,Nat.reduceMul,Nat.reduceLT,Nat.reduceLeDiff,Nat.reduceBNe,Int.reduceBEq,Int.reduceBNe,Int.reduceLT,Int.reduceLE,Spn.a,Msg.a,Eff.a,t0,t1,t5,h1',h2',decide_true,decide_false]
   rw [← hr,show j = b.size by omega]
   rw [show b.data.toList.drop b.size = [] by rw [List.drop_eq_nil_of_le (by omega)],kp.less_nil]
   have:¬ (a.size:Int) < b.size:=by omega
   simp [this]
 ·have h1':¬ (j:Int) < (a.size:Int):=by omega
  simp (maxSteps:=9^7) only [go_sem,↓reduceIte,reduceCtorEq,Nat.reduceEqDiff,Nat.reduceBEq,Nat.reduceAdd,Nat.reduceSub,Nat.reduceMul,Nat.reduceLT,Nat.reduceLeDiff,Nat.reduceBNe,Int.reduceBEq,Int.reduceBNe,Int.reduceLT,Int.reduceLE,Spn.a,Msg.a,Eff.a,t0,t1,t5,h1',decide_false]
  have e:j = a.size:=by omega
  subst e
  rw [← hr,show a.data.toList.drop a.size = [] by rw [List.drop_eq_nil_of_le (by omega)]]
  by_cases h2:a.size < b.size
  ·rw [List.drop_eq_getElem_cons (by omega),kp.nil_less]
   simp; omega
  ·rw [List.drop_eq_nil_of_le (by omega),kp.less_nil]
   simp; omega
/-! ### percolate/percolateref02.Has -/
def ye0:Reg:=⟨[],[⟨.box 3 67 (.t 0),some 2,none,[],[]⟩,⟨.mv (.c (.bool false)),some 4,none,[],[]⟩],[2],[],false⟩
def zyd:List ROp:=[⟨.mv (.t 1),some 5,none,[8,17],[]⟩,⟨.faddr 0 (.t 2),some 6,none,[8,17],[]⟩,⟨.load 1 false (.t 6),some 7,none,[8,17],[]⟩,⟨.callv (.c (.clo 77 [] [])) [(.t 5),(.t 7)],some 8,none,[17],[]⟩,⟨.un .not (.t 8),some 9,none,[17],[]⟩,⟨.mv (.t 9),some 10,none,[17],[]⟩,⟨.faddr 2 (.t 2),some 11,(some (10,true)),[17],[]⟩,⟨.load 1 false (.t 11),some 12,(some (10,true)),[17],[]⟩,⟨.mv (.t 12),some 13,(some (10,true)),[17],[]⟩,⟨.mv (.t 1),some 14,(some (13,false)),[17],[]⟩,⟨.faddr 1 (.t 2),some 15,(some (13,false)),[17],[]⟩,⟨.load 1 false (.t 15),some 16,(some (13,false)),[17],[]⟩,⟨.callv (.c (.clo 77 [] [])) [(.t 14),(.t 16)],some 17,(some (13,false)),[],[]⟩,⟨.pick (.t 13) (.c (.bool true)) (.t 17),some 18,(some (10,true)),[],[]⟩,⟨.pick (.t 10) (.t 18) (.c (.bool false)),some 19,none,[],[]⟩,⟨.mv (.t 19),some 4,none,[],[]⟩]
def ydz:Reg:=⟨[],zyd,[8,17],[],false⟩
def ir_rHas:IR:=(.seq (.reg ye0)
 (.seq (.reg ydz)
 .ret))
def ycv:List RDesc:=[(.tmp 4)]
theorem e_rHas_0:EqR ye0 [⟨.box 3 67 (.t 0),some 2,none,[],[]⟩,⟨.mv (.c (.bool false)),some 4,none,[],[]⟩] [2]:=fun _ _ _=>rfl
theorem e_rHas_1:EqR ydz zyd [8,17]:=fun _ _ _=>rfl
theorem fn_rHas {args:List AV} {r:AV} (ha:args.length.ble Tryz.f59.ntmps = true) (h:run (AFn Tryz.prog) ir_rHas (endQ ycv r) (z0b args)):AFn Tryz.prog 59 args r :=
 AFn.of_code (pv:=false) (hint:=fun _=>[]) (c:=Tryz.f59.body.getD .skip) (by kernel_rfl) (by kernel_rfl) Tryz.func59 (by kernel_rfl) (by kernel_rfl) (by kernel_rfl) (of_decide_eq_true (by kernel_rfl)) (Nat.le_of_ble_eq_true ha) (Nat.le_of_ble_eq_true (by kernel_rfl)) (z0c h)
/-! ### percolate/percolateref02.Empty -/
def ztt:Reg:=⟨[],[⟨.box 3 67 (.t 0),some 1,none,[],[]⟩,⟨.mv (.c (.bool false)),some 2,none,[],[]⟩],[1],[],false⟩
def zce:List ROp:=[⟨.load 3 true (.t 1),some 3,none,[6],[]⟩,⟨.faddr 0 (.t 1),some 4,none,[6],[]⟩,⟨.load 1 false (.t 4),some 5,none,[6],[]⟩,⟨.callv (.c (.clo 59 [] [])) [(.t 3),(.t 5)],some 6,none,[],[]⟩,⟨.un .not (.t 6),some 7,none,[],[]⟩,⟨.mv (.t 7),some 2,none,[],[]⟩]
def zts:Reg:=⟨[],zce,[6],[],false⟩
def y6y:IR:=(.seq (.reg ztt)
 (.seq (.reg zts)
 .ret))
def zqb:List RDesc:=[(.tmp 2)]
theorem e_rEmpty_0:EqR ztt [⟨.box 3 67 (.t 0),some 1,none,[],[]⟩,⟨.mv (.c (.bool false)),some 2,none,[],[]⟩] [1]:=fun _ _ _=>rfl
theorem e_rEmpty_1:EqR zts zce [6]:=fun _ _ _=>rfl
theorem fn_rEmpty {args:List AV} {r:AV} (ha:args.length.ble Tryz.f83.ntmps = true) (h:run (AFn Tryz.prog) y6y (endQ zqb r) (z0b args)):AFn Tryz.prog 83 args r :=
 AFn.of_code (pv:=false) (hint:=fun _=>[]) (c:=Tryz.f83.body.getD .skip) (by kernel_rfl) (by kernel_rfl) Tryz.func83 (by kernel_rfl) (by kernel_rfl) (by kernel_rfl) (of_decide_eq_true (by kernel_rfl)) (Nat.le_of_ble_eq_true ha) (Nat.le_of_ble_eq_true (by kernel_rfl)) (z0c h)
/-! ### percolate/percolateref02.Norm -/
def zi0:List ROp:=[⟨.box 3 67 (.t 0),some 1,none,[2],[]⟩,⟨.alloc 3 67 (.agg [(.str ⟨#[]⟩),(.str ⟨#[]⟩),(.bool false)]),some 2,none,[],[]⟩]
def y31:Reg:=⟨[],zi0,[1,2],[],false⟩
def y30:Reg:=⟨[],[⟨.load 3 true (.t 1),some 3,none,[4],[]⟩,⟨.callv (.c (.clo 83 [] [])) [(.t 3)],some 4,none,[],[]⟩],[4],[],false⟩
def zhz:List ROp:=[⟨.bld [(.str ⟨#[]⟩),(.str ⟨#[]⟩),(.bool false)] [],some 5,none,[],[]⟩,⟨.store 3 (.t 2) (.t 5),none,none,[],[]⟩]
def y2z:Reg:=⟨[],zhz,[],[],false⟩
def y2y:Reg:=⟨[],[⟨.faddr 2 (.t 1),some 6,none,[],[]⟩,⟨.load 1 false (.t 6),some 7,none,[],[]⟩],[],[],false⟩
def y2x:Reg:=⟨[],[⟨.faddr 1 (.t 1),some 8,none,[],[]⟩,⟨.store 1 (.t 8) (.c (.str ⟨#[]⟩)),none,none,[],[]⟩],[],[],false⟩
def y2w:Reg:=⟨[],[⟨.load 3 true (.t 1),some 9,none,[],[]⟩,⟨.store 3 (.t 2) (.t 9),none,none,[],[]⟩],[],[],false⟩
def yfp:IR:=(.seq (.reg y31)
 (.seq (.seq (.reg y30)
 (.cond (.t 4) (.seq (.reg y2z)
 .ret)
 .skip))
 (.seq (.seq (.reg y2y)
 (.cond (.t 7) (.reg y2x)
 .skip))
 (.seq (.reg y2w)
 .ret))))
def y0g:List RDesc:=[(.cell 2 3 true)]
theorem e_rNorm_0:EqR y31 zi0 [1,2]:=fun _ _ _=>rfl
theorem e_rNorm_1:EqR y30 [⟨.load 3 true (.t 1),some 3,none,[4],[]⟩,⟨.callv (.c (.clo 83 [] [])) [(.t 3)],some 4,none,[],[]⟩] [4]:=fun _ _ _=>rfl
theorem e_rNorm_2:EqR y2z zhz []:=fun _ _ _=>rfl
theorem e_rNorm_3:EqR y2y [⟨.faddr 2 (.t 1),some 6,none,[],[]⟩,⟨.load 1 false (.t 6),some 7,none,[],[]⟩] []:=fun _ _ _=>rfl
theorem e_rNorm_4:EqR y2x [⟨.faddr 1 (.t 1),some 8,none,[],[]⟩,⟨.store 1 (.t 8) (.c (.str ⟨#[]⟩)),none,none,[],[]⟩] []:=fun _ _ _=>rfl
theorem e_rNorm_5:EqR y2w [⟨.load 3 true (.t 1),some 9,none,[],[]⟩,⟨.store 3 (.t 2) (.t 9),none,none,[],[]⟩] []:=fun _ _ _=>rfl
theorem fn_rNorm {args:List AV} {r:AV} (ha:args.length.ble Tryz.f61.ntmps = true) (h:run (AFn Tryz.prog) yfp (endQ y0g r) (z0b args)):AFn Tryz.prog 61 args r :=
 AFn.of_code (pv:=false) (hint:=fun _=>[]) (c:=Tryz.f61.body.getD .skip) (by kernel_rfl) (by kernel_rfl) Tryz.func61 (by kernel_rfl) (by kernel_rfl) (by kernel_rfl) (of_decide_eq_true (by kernel_rfl)) (Nat.le_of_ble_eq_true ha) (Nat.le_of_ble_eq_true (by kernel_rfl)) (z0c h)
/-! ### percolate/percolateref02.Meet -/
def zi7:List ROp:=[⟨.box 3 67 (.t 0),some 2,none,[3,4],[]⟩,⟨.box 3 67 (.t 1),some 3,none,[4],[]⟩,⟨.alloc 3 67 (.agg [(.str ⟨#[]⟩),(.str ⟨#[]⟩),(.bool false)]),some 4,none,[],[]⟩]
def y39:Reg:=⟨[],zi7,[2,3,4],[],false⟩
def zi6:List ROp:=[⟨.load 3 true (.t 2),some 6,none,[5],[]⟩,⟨.alloc 3 67 (.agg [(.str ⟨#[]⟩),(.str ⟨#[]⟩),(.bool false)]),some 5,none,[],[]⟩,⟨.store 3 (.t 5) (.t 6),none,none,[],[]⟩]
def y38:Reg:=⟨[],zi6,[5],[],false⟩
def zi5:List ROp:=[⟨.faddr 0 (.t 2),some 7,none,[11],[]⟩,⟨.load 1 false (.t 7),some 8,none,[11],[]⟩,⟨.faddr 0 (.t 3),some 9,none,[11],[]⟩,⟨.load 1 false (.t 9),some 10,none,[11],[]⟩,⟨.callv (.c (.clo 77 [] [])) [(.t 8),(.t 10)],some 11,none,[],[]⟩]
def y37:Reg:=⟨[],zi5,[11],[],false⟩
def zi4:List ROp:=[⟨.faddr 0 (.t 3),some 12,none,[],[]⟩,⟨.load 1 false (.t 12),some 13,none,[],[]⟩,⟨.faddr 0 (.t 5),some 14,none,[],[]⟩,⟨.store 1 (.t 14) (.t 13),none,none,[],[]⟩]
def y36:Reg:=⟨[],zi4,[],[],false⟩
def zi3:List ROp:=[⟨.faddr 2 (.t 3),some 15,none,[26],[]⟩,⟨.load 1 false (.t 15),some 16,none,[26],[]⟩,⟨.un .not (.t 16),some 17,none,[26],[]⟩,⟨.mv (.t 17),some 18,none,[26],[]⟩,⟨.faddr 2 (.t 2),some 19,(some (18,true)),[26],[]⟩,⟨.load 1 false (.t 19),some 20,(some (18,true)),[26],[]⟩,⟨.mv (.t 20),some 21,(some (18,true)),[26],[]⟩,⟨.faddr 1 (.t 3),some 22,(some (21,false)),[26],[]⟩,⟨.load 1 false (.t 22),some 23,(some (21,false)),[26],[]⟩,⟨.faddr 1 (.t 2),some 24,(some (21,false)),[26],[]⟩,⟨.load 1 false (.t 24),some 25,(some (21,false)),[26],[]⟩,⟨.callv (.c (.clo 77 [] [])) [(.t 23),(.t 25)],some 26,(some (21,false)),[],[]⟩,⟨.pick (.t 21) (.c (.bool true)) (.t 26),some 27,(some (18,true)),[],[]⟩,⟨.pick (.t 18) (.t 27) (.c (.bool false)),some 28,none,[],[]⟩]
def y35:Reg:=⟨[],zi3,[26],[],false⟩
def y34:Reg:=⟨[],[⟨.faddr 2 (.t 5),some 29,none,[],[]⟩,⟨.store 1 (.t 29) (.c (.bool false)),none,none,[],[]⟩],[],[],false⟩
def zi2:List ROp:=[⟨.faddr 1 (.t 3),some 30,none,[],[]⟩,⟨.load 1 false (.t 30),some 31,none,[],[]⟩,⟨.faddr 1 (.t 5),some 32,none,[],[]⟩,⟨.store 1 (.t 32) (.t 31),none,none,[],[]⟩]
def y33:Reg:=⟨[],zi2,[],[],false⟩
def zi1:List ROp:=[⟨.load 3 true (.t 5),some 33,none,[34],[]⟩,⟨.callv (.c (.clo 61 [] [])) [(.t 33)],some 34,none,[],[]⟩,⟨.store 3 (.t 4) (.t 34),none,none,[],[]⟩]
def y32:Reg:=⟨[],zi1,[34],[],false⟩
def yfq:IR:=(.seq (.reg y39)
 (.seq (.reg y38)
 (.seq (.seq (.reg y37)
 (.cond (.t 11) (.reg y36)
 .skip))
 (.seq (.seq (.reg y35)
 (.cond (.t 28) (.seq (.reg y34)
 (.reg y33))
 .skip))
 (.seq (.reg y32)
 .ret)))))
def y0h:List RDesc:=[(.cell 4 3 true)]
theorem e_rMeet_0:EqR y39 zi7 [2,3,4]:=fun _ _ _=>rfl
theorem e_rMeet_1:EqR y38 zi6 [5]:=fun _ _ _=>rfl
theorem e_rMeet_2:EqR y37 zi5 [11]:=fun _ _ _=>rfl
theorem e_rMeet_3:EqR y36 zi4 []:=fun _ _ _=>rfl
theorem e_rMeet_4:EqR y35 zi3 [26]:=fun _ _ _=>rfl
theorem e_rMeet_5:EqR y34 [⟨.faddr 2 (.t 5),some 29,none,[],[]⟩,⟨.store 1 (.t 29) (.c (.bool false)),none,none,[],[]⟩] []:=fun _ _ _=>rfl
theorem e_rMeet_6:EqR y33 zi2 []:=fun _ _ _=>rfl
theorem e_rMeet_7:EqR y32 zi1 [34]:=fun _ _ _=>rfl
theorem fn_rMeet {args:List AV} {r:AV} (ha:args.length.ble Tryz.f53.ntmps = true) (h:run (AFn Tryz.prog) yfq (endQ y0h r) (z0b args)):AFn Tryz.prog 53 args r :=
 AFn.of_code (pv:=false) (hint:=fun _=>[]) (c:=Tryz.f53.body.getD .skip) (by kernel_rfl) (by kernel_rfl) Tryz.func53 (by kernel_rfl) (by kernel_rfl) (by kernel_rfl) (of_decide_eq_true (by kernel_rfl)) (Nat.le_of_ble_eq_true ha) (Nat.le_of_ble_eq_true (by kernel_rfl)) (z0c h)
/-! ### percolate/percolateref05.Span -/
def zhw:List ROp:=[⟨.box 6 55 (.t 0),some 1,none,[2],[]⟩,⟨.alloc 3 67 (.agg [(.str ⟨#[]⟩),(.str ⟨#[]⟩),(.bool false)]),some 2,none,[],[]⟩]
def y2r:Reg:=⟨[],zhw,[1,2],[],false⟩
def zhv:List ROp:=[⟨.faddr 1 (.t 1),some 3,none,[],[]⟩,⟨.load 1 false (.t 3),some 4,none,[],[]⟩,⟨.bin .eql (.t 4) (.c (.int .i64 4)),some 5,none,[],[]⟩]
def y2q:Reg:=⟨[],zhv,[],[],false⟩
def zhu:List ROp:=[⟨.faddr 2 (.t 1),some 6,none,[],[]⟩,⟨.load 1 false (.t 6),some 7,none,[],[]⟩,⟨.faddr 3 (.t 1),some 8,none,[],[]⟩,⟨.load 1 false (.t 8),some 9,none,[],[]⟩,⟨.faddr 4 (.t 1),some 10,none,[],[]⟩,⟨.load 1 false (.t 10),some 11,none,[],[]⟩,⟨.bld [(.str ⟨#[]⟩),(.str ⟨#[]⟩),(.bool false)] [⟨0,1,(.t 7)⟩,⟨1,1,(.t 9)⟩,⟨2,1,(.t 11)⟩],some 12,none,[],[]⟩,⟨.store 3 (.t 2) (.t 12),none,none,[],[]⟩]
def y2p:Reg:=⟨[],zhu,[],[],false⟩
def zht:List ROp:=[⟨.faddr 2 (.t 1),some 13,none,[],[]⟩,⟨.load 1 false (.t 13),some 14,none,[],[]⟩,⟨.faddr 2 (.t 1),some 15,none,[],[]⟩,⟨.load 1 false (.t 15),some 16,none,[],[]⟩,⟨.bin .add (.t 16) (.c (.str ⟨#[0]⟩)),some 17,none,[],[]⟩,⟨.bld [(.str ⟨#[]⟩),(.str ⟨#[]⟩),(.bool false)] [⟨0,1,(.t 14)⟩,⟨1,1,(.t 17)⟩],some 18,none,[],[]⟩,⟨.store 3 (.t 2) (.t 18),none,none,[],[]⟩]
def y2o:Reg:=⟨[],zht,[],[],false⟩
def yfn:IR:=(.seq (.reg y2r)
 (.seq (.seq (.reg y2q)
 (.cond (.t 5) (.seq (.reg y2p)
 .ret)
 .skip))
 (.seq (.reg y2o)
 .ret)))
def y0e:List RDesc:=[(.cell 2 3 true)]
theorem e_rSpan_0:EqR y2r zhw [1,2]:=fun _ _ _=>rfl
theorem e_rSpan_1:EqR y2q zhv []:=fun _ _ _=>rfl
theorem e_rSpan_2:EqR y2p zhu []:=fun _ _ _=>rfl
theorem e_rSpan_3:EqR y2o zht []:=fun _ _ _=>rfl
theorem fn_rSpan {args:List AV} {r:AV} (ha:args.length.ble Tryz.f60.ntmps = true) (h:run (AFn Tryz.prog) yfn (endQ y0e r) (z0b args)):AFn Tryz.prog 60 args r :=
 AFn.of_code (pv:=false) (hint:=fun _=>[]) (c:=Tryz.f60.body.getD .skip) (by kernel_rfl) (by kernel_rfl) Tryz.func60 (by kernel_rfl) (by kernel_rfl) (by kernel_rfl) (of_decide_eq_true (by kernel_rfl)) (Nat.le_of_ble_eq_true ha) (Nat.le_of_ble_eq_true (by kernel_rfl)) (z0c h)
attribute [local go_sem ↓] ir_rHas
attribute [local go_sem] ycv e_rHas_0 e_rHas_1 zyd
attribute [local go_sem ↓] y6y
attribute [local go_sem] zqb e_rEmpty_0 e_rEmpty_1 zce
attribute [local go_sem ↓] yfp
attribute [local go_sem] y0g e_rNorm_0 zi0 e_rNorm_1 e_rNorm_2 zhz e_rNorm_3 e_rNorm_4 e_rNorm_5
attribute [local go_sem ↓] yfq
attribute [local go_sem] y0h e_rMeet_0 zi7 e_rMeet_1 zi6 e_rMeet_2 zi5 e_rMeet_3 zi4 e_rMeet_4 zi3 e_rMeet_5 e_rMeet_6 zi2 e_rMeet_7 zi1
attribute [local go_sem ↓] yfn
attribute [local go_sem] y0e e_rSpan_0 zhw e_rSpan_1 zhv e_rSpan_2 zhu e_rSpan_3 zht
def SOk (s:Spn):Prop:=s.lo.size≤9223372036854775807∧s.hi.size≤9223372036854775807
theorem has_lo (s:Spn):(!s.has s.lo) = s.empty:=by
 have:lt s.lo s.lo = false:=kp.less_irrefl _
 simp [Spn.has,Spn.empty,this]
theorem yd3 (s:Spn) (k:ByteArray) (hs:SOk s) (hk:k.size≤9223372036854775807):AFn Tryz.prog 59 [s.a,.str k] (.bool (s.has k)):=by
 refine fn_rHas rfl ?_
 simp (maxSteps:=9^7) only [go_sem,↓reduceIte,reduceCtorEq,Nat.reduceEqDiff,Nat.reduceBEq,Nat.reduceAdd,Nat.reduceSub,Nat.reduceMul,Nat.reduceLT,Nat.reduceLeDiff,Nat.reduceBNe,Int.reduceBEq,Int.reduceBNe,Int.reduceLT,Int.reduceLE,Spn.a,Msg.a,Eff.a]
 (first | refine z01 (z33 k s.lo hk hs.1) ?_ | refine z00 (z33 k s.lo hk hs.1) ?_)
 cases h1:lt k s.lo with
 | true =>
  simp (maxSteps:=9^7) only [go_sem,↓reduceIte,reduceCtorEq,Nat.reduceEqDiff,Nat.reduceBEq,Nat.reduceAdd,Nat.reduceSub,Nat.reduceMul,Nat.reduceLT,Nat.reduceLeDiff,Nat.reduceBNe,Int.reduceBEq,Int.reduceBNe,Int.reduceLT,Int.reduceLE,Spn.a,Msg.a,Eff.a]
  simp [Spn.has,h1]
 | false =>
  cases h2:s.op with
  | true =>
   simp (maxSteps:=9^7) only [go_sem,↓reduceIte,reduceCtorEq,Nat.reduceEqDiff,Nat.reduceBEq,Nat.reduceAdd,Nat.reduceSub,Nat.reduceMul,Nat.reduceLT,Nat.reduceLeDiff,Nat.reduceBNe,Int.reduceBEq,Int.reduceBNe,Int.reduceLT,Int.reduceLE,Spn.a,Msg.a,Eff.a,h2]
   simp [Spn.has,h1,h2]
  | false =>
   simp (maxSteps:=9^7) only [go_sem,↓reduceIte,reduceCtorEq,Nat.reduceEqDiff,Nat.reduceBEq,Nat.reduceAdd,Nat.reduceSub,Nat.reduceMul,Nat.reduceLT,Nat.reduceLeDiff,Nat.reduceBNe,Int.reduceBEq,Int.reduceBNe,Int.reduceLT,Int.reduceLE,Spn.a,Msg.a,Eff.a,h2]
   (first | refine z01 (z33 k s.hi hk hs.2) ?_ | refine z00 (z33 k s.hi hk hs.2) ?_)
   simp (maxSteps:=9^7) only [go_sem,↓reduceIte,reduceCtorEq,Nat.reduceEqDiff,Nat.reduceBEq,Nat.reduceAdd,Nat.reduceSub,Nat.reduceMul,Nat.reduceLT,Nat.reduceLeDiff,Nat.reduceBNe,Int.reduceBEq,Int.reduceBNe,Int.reduceLT,Int.reduceLE,Spn.a,Msg.a,Eff.a,h2]
   simp [Spn.has,h1,h2]
theorem z3s (s:Spn) (hs:SOk s):AFn Tryz.prog 83 [s.a] (.bool s.empty):=by
 refine fn_rEmpty rfl ?_
 simp (maxSteps:=9^7) only [go_sem,↓reduceIte,reduceCtorEq,Nat.reduceEqDiff,Nat.reduceBEq,Nat.reduceAdd,Nat.reduceSub,Nat.reduceMul,Nat.reduceLT,Nat.reduceLeDiff,Nat.reduceBNe,Int.reduceBEq,Int.reduceBNe,Int.reduceLT,Int.reduceLE,Spn.a,Msg.a,Eff.a]
 (first | refine z01 (yd3 s s.lo hs hs.1) ?_ | refine z00 (yd3 s s.lo hs hs.1) ?_)
 simp (maxSteps:=9^7) only [go_sem,↓reduceIte,reduceCtorEq,Nat.reduceEqDiff,Nat.reduceBEq,Nat.reduceAdd,Nat.reduceSub,Nat.reduceMul,Nat.reduceLT,Nat.reduceLeDiff,Nat.reduceBNe,Int.reduceBEq,Int.reduceBNe,Int.reduceLT,Int.reduceLE,Spn.a,Msg.a,Eff.a,has_lo]
theorem z54 (s:Spn) (hs:SOk s):AFn Tryz.prog 61 [s.a] s.norm.a:=by
 refine fn_rNorm rfl ?_
 simp (maxSteps:=9^7) only [go_sem,↓reduceIte,reduceCtorEq,Nat.reduceEqDiff,Nat.reduceBEq,Nat.reduceAdd,Nat.reduceSub,Nat.reduceMul,Nat.reduceLT,Nat.reduceLeDiff,Nat.reduceBNe,Int.reduceBEq,Int.reduceBNe,Int.reduceLT,Int.reduceLE,Spn.a,Msg.a,Eff.a]
 (first | refine z01 (z3s s hs) ?_ | refine z00 (z3s s hs) ?_)
 simp (maxSteps:=9^7) only [go_sem,↓reduceIte,reduceCtorEq,Nat.reduceEqDiff,Nat.reduceBEq,Nat.reduceAdd,Nat.reduceSub,Nat.reduceMul,Nat.reduceLT,Nat.reduceLeDiff,Nat.reduceBNe,Int.reduceBEq,Int.reduceBNe,Int.reduceLT,Int.reduceLE,Spn.a,Msg.a,Eff.a]
 refine ⟨fun h=>?_,fun h=>⟨fun h2=>?_,fun h2=>?_⟩⟩ <;> simp [Spn.norm,Spn.none, *]
def Spn.refCut (a b:Spn):Spn:=⟨maxS a.lo b.lo,if !b.op && (a.op || lt b.hi a.hi) then b.hi else a.hi,if !b.op && (a.op || lt b.hi a.hi) then false else a.op⟩
theorem y90 (a b:Spn):(a.refCut b).norm = a.meet b:=by
 obtain ⟨lo,hi,op⟩:=a
 obtain ⟨lo',hi',op'⟩:=b
 cases op <;> cases op' <;> simp [Spn.refCut,Spn.meet,Spn.cut,Spn.norm,Spn.empty,minS]
theorem y8z (s t:Spn) (hs:SOk s) (ht:SOk t):AFn Tryz.prog 53 [s.a,t.a] (s.meet t).a:=by
 rw [← y90]
 refine fn_rMeet rfl ?_
 simp (maxSteps:=9^7) only [go_sem,↓reduceIte,reduceCtorEq,Nat.reduceEqDiff,Nat.reduceBEq,Nat.reduceAdd,Nat.reduceSub,Nat.reduceMul,Nat.reduceLT,Nat.reduceLeDiff,Nat.reduceBNe,Int.reduceBEq,Int.reduceBNe,Int.reduceLT,Int.reduceLE,Spn.a,Msg.a,Eff.a]
 (first | refine z01 (z33 s.lo t.lo hs.1 ht.1) ?_ | refine z00 (z33 s.lo t.lo hs.1 ht.1) ?_)
 have hM:SOk (s.refCut t):=by
  unfold Spn.refCut maxS SOk
  refine ⟨?_,?_⟩
  ·simp only; split
   ·exact ht.1
   ·exact hs.1
  ·simp only; split
   ·exact ht.2
   ·exact hs.2
 obtain ⟨sl,sh,so⟩:=s
 obtain ⟨tl,th,tp⟩:=t
 simp only
 have e1:lt sl tl = true∨lt sl tl = false:=by cases lt sl tl <;> simp
 have e2:lt th sh = true∨lt th sh = false:=by cases lt th sh <;> simp
 rcases e1 with e1 | e1 <;> rcases e2 with e2 | e2 <;> cases so <;> cases tp <;>
  simp only [Spn.refCut,maxS,e1,e2,Bool.not_false,Bool.not_true,Bool.true_and,Bool.false_and,Bool.or_true,Bool.or_false,Bool.true_or,Bool.false_or,if_true,if_false,Bool.false_eq_true] at hM ⊢ <;>
  (simp (maxSteps:=9^7) only [go_sem,↓reduceIte,reduceCtorEq,Nat.reduceEqDiff,Nat.reduceBEq,Nat.reduceAdd,Nat.reduceSub,Nat.reduceMul,Nat.reduceLT,Nat.reduceLeDiff,Nat.reduceBNe,Int.reduceBEq,Int.reduceBNe,Int.reduceLT,Int.reduceLE,Spn.a,Msg.a,Eff.a,e1,e2]) <;>
  first
   | ((first | refine z01 (z54 ⟨_,_,_⟩ hM) ?_ | refine z00 (z54 ⟨_,_,_⟩ hM) ?_); (simp (maxSteps:=9^7) only [go_sem,↓reduceIte,reduceCtorEq,Nat.reduceEqDiff,Nat.reduceBEq,Nat.reduceAdd,Nat.reduceSub,Nat.reduceMul,Nat.reduceLT,Nat.reduceLeDiff,Nat.reduceBNe,Int.reduceBEq,Int.reduceBNe,Int.reduceLT,Int.reduceLE,Spn.a,Msg.a,Eff.a,e1,e2]); done)
   | ((first | refine z01 (z33 th sh ht.2 hs.2) ?_ | refine z00 (z33 th sh ht.2 hs.2) ?_); (simp (maxSteps:=9^7) only [go_sem,↓reduceIte,reduceCtorEq,Nat.reduceEqDiff,Nat.reduceBEq,Nat.reduceAdd,Nat.reduceSub,Nat.reduceMul,Nat.reduceLT,Nat.reduceLeDiff,Nat.reduceBNe,Int.reduceBEq,Int.reduceBNe,Int.reduceLT,Int.reduceLE,Spn.a,Msg.a,Eff.a,e1,e2]); (first | refine z01 (z54 ⟨_,_,_⟩ hM) ?_ | refine z00 (z54 ⟨_,_,_⟩ hM) ?_); (simp (maxSteps:=9^7) only [go_sem,↓reduceIte,reduceCtorEq,Nat.reduceEqDiff,Nat.reduceBEq,Nat.reduceAdd,Nat.reduceSub,Nat.reduceMul,Nat.reduceLT,Nat.reduceLeDiff,Nat.reduceBNe,Int.reduceBEq,Int.reduceBNe,Int.reduceLT,Int.reduceLE,Spn.a,Msg.a,Eff.a,e1,e2]); done)
theorem zkb (m:Msg) (hk:m.key.size≤9223372036854775806):AFn Tryz.prog 60 [m.a] m.span.a:=by
 refine fn_rSpan rfl ?_
 cases h:(m.kind == 4) with
 | true =>
  have h':m.kind = 4:=by simpa using h
  simp (maxSteps:=9^7) only [go_sem,↓reduceIte,reduceCtorEq,Nat.reduceEqDiff,Nat.reduceBEq,Nat.reduceAdd,Nat.reduceSub,Nat.reduceMul,Nat.reduceLT,Nat.reduceLeDiff,Nat.reduceBNe,Int.reduceBEq,Int.reduceBNe,Int.reduceLT,Int.reduceLE,Spn.a,Msg.a,Eff.a,h]
  simp [Msg.span,h']
 | false =>
  have h':m.kind ≠ 4:=by simpa using h
  simp (maxSteps:=9^7) only [go_sem,↓reduceIte,reduceCtorEq,Nat.reduceEqDiff,Nat.reduceBEq,Nat.reduceAdd,Nat.reduceSub,Nat.reduceMul,Nat.reduceLT,Nat.reduceLeDiff,Nat.reduceBNe,Int.reduceBEq,Int.reduceBNe,Int.reduceLT,Int.reduceLE,Spn.a,Msg.a,Eff.a,h]
  simp [Msg.span,h',z2f]
  first | (show m.key.size + 1≤_; omega) | omega
end
section
/-
 The document's messages on the plain machine: may they be,are they few.
-/
open Go.RowKit
set_option linter.unusedVariables false
set_option linter.unusedSimpArgs false
set_option maxRecDepth 100000
attribute [local go_sem ↓] z11 z0l
abbrev nilS (s:ByteArray):Bool:=s.toList == (ByteArray.mk #[]).toList
def Msg.right (m : Msg) : Bool := decide (1 ≤ m.stamp) && decide (m.key.size ≤ 16) && decide (m.val.size ≤ 16) && decide (m.hi.size ≤ 16) &&
  (if m.kind = 4 then nilS m.val && (!m.op || nilS m.hi) && !m.span.empty
   else nilS m.hi && !m.op && ((m.kind == 1) || (m.kind == 2) || ((m.kind == 3) && nilS m.val)))
theorem zju {m:Msg} {n:Nat} (h1:m.key.size + 1≤9223372036854775807) (h2:m.hi.size≤9223372036854775807):SOk m.span:=by
 unfold Msg.span SOk z2f
 split
 ·exact ⟨by show m.key.size≤_; omega,h2⟩
 ·refine ⟨by show m.key.size≤_; omega,?_⟩
  show (m.key ++ ⟨#[0]⟩).size≤_
  rw [ByteArray.size_append]
  exact h1
/-! ### percolate/percolateref05.Right -/
def zt2:Reg:=⟨[],[⟨.box 6 55 (.t 0),some 1,none,[],[]⟩,⟨.mv (.c (.bool false)),some 2,none,[],[]⟩],[1],[],false⟩
def zc3:List ROp:=[⟨.faddr 0 (.t 1),some 3,none,[],[]⟩,⟨.load 1 false (.t 3),some 4,none,[],[]⟩,⟨.bin .lss (.t 4) (.c (.int .i64 1)),some 5,none,[],[]⟩,⟨.mv (.t 5),some 6,none,[],[]⟩,⟨.faddr 2 (.t 1),some 7,(some (6,false)),[],[]⟩,⟨.load 1 false (.t 7),some 8,(some (6,false)),[],[]⟩,⟨.len true (.t 8),some 9,(some (6,false)),[],[]⟩,⟨.bin .gtr (.t 9) (.c (.int .i64 16)),some 10,(some (6,false)),[],[]⟩,⟨.pick (.t 6) (.c (.bool true)) (.t 10),some 11,none,[],[]⟩,⟨.mv (.t 11),some 12,none,[],[]⟩,⟨.faddr 5 (.t 1),some 13,(some (12,false)),[],[]⟩,⟨.load 1 false (.t 13),some 14,(some (12,false)),[],[]⟩,⟨.len true (.t 14),some 15,(some (12,false)),[],[]⟩,⟨.bin .gtr (.t 15) (.c (.int .i64 16)),some 16,(some (12,false)),[],[]⟩,⟨.pick (.t 12) (.c (.bool true)) (.t 16),some 17,none,[],[]⟩,⟨.mv (.t 17),some 18,none,[],[]⟩,⟨.faddr 3 (.t 1),some 19,(some (18,false)),[],[]⟩,⟨.load 1 false (.t 19),some 20,(some (18,false)),[],[]⟩,⟨.len true (.t 20),some 21,(some (18,false)),[],[]⟩,⟨.bin .gtr (.t 21) (.c (.int .i64 16)),some 22,(some (18,false)),[],[]⟩,⟨.pick (.t 18) (.c (.bool true)) (.t 22),some 23,none,[],[]⟩]
def zt1:Reg:=⟨[],zc3,[],[],false⟩
def zt0:Reg:=⟨[],[⟨.mv (.c (.bool false)),some 2,none,[],[]⟩],[],[],false⟩
def zc2:List ROp:=[⟨.faddr 1 (.t 1),some 24,none,[],[]⟩,⟨.load 1 false (.t 24),some 25,none,[],[]⟩,⟨.bin .eql (.t 25) (.c (.int .i64 4)),some 26,none,[],[]⟩]
def zsz:Reg:=⟨[],zc2,[],[],false⟩
def zc1:List ROp:=[⟨.faddr 5 (.t 1),some 27,none,[42,43],[]⟩,⟨.load 1 false (.t 27),some 28,none,[42,43],[]⟩,⟨.bin .eql (.t 28) (.c (.str ⟨#[]⟩)),some 29,none,[42,43],[]⟩,⟨.mv (.t 29),some 30,none,[42,43],[]⟩,⟨.faddr 4 (.t 1),some 31,(some (30,true)),[42,43],[]⟩,⟨.load 1 false (.t 31),some 32,(some (30,true)),[42,43],[]⟩,⟨.un .not (.t 32),some 33,(some (30,true)),[42,43],[]⟩,⟨.mv (.t 33),some 34,(some (30,true)),[42,43],[]⟩,⟨.faddr 3 (.t 1),some 35,(some (34,false)),[42,43],[]⟩,⟨.load 1 false (.t 35),some 36,(some (34,false)),[42,43],[]⟩,⟨.bin .eql (.t 36) (.c (.str ⟨#[]⟩)),some 37,(some (34,false)),[42,43],[]⟩,⟨.pick (.t 34) (.c (.bool true)) (.t 37),some 38,(some (30,true)),[42,43],[]⟩,⟨.pick (.t 30) (.t 38) (.c (.bool false)),some 39,none,[42,43],[]⟩,⟨.mv (.t 39),some 40,none,[42,43],[]⟩,⟨.load 6 true (.t 1),some 41,(some (40,true)),[42,43],[]⟩,⟨.callv (.c (.clo 60 [] [])) [(.t 41)],some 42,(some (40,true)),[43],[]⟩,⟨.callv (.c (.clo 83 [] [])) [(.t 42)],some 43,(some (40,true)),[],[]⟩,⟨.un .not (.t 43),some 44,(some (40,true)),[],[]⟩,⟨.pick (.t 40) (.t 44) (.c (.bool false)),some 45,none,[],[]⟩,⟨.mv (.t 45),some 2,none,[],[]⟩]
def zsy:Reg:=⟨[],zc1,[42,43],[],false⟩
def zc0:List ROp:=[⟨.faddr 3 (.t 1),some 46,none,[],[]⟩,⟨.load 1 false (.t 46),some 47,none,[],[]⟩,⟨.bin .eql (.t 47) (.c (.str ⟨#[]⟩)),some 48,none,[],[]⟩,⟨.mv (.t 48),some 49,none,[],[]⟩,⟨.faddr 4 (.t 1),some 50,(some (49,true)),[],[]⟩,⟨.load 1 false (.t 50),some 51,(some (49,true)),[],[]⟩,⟨.un .not (.t 51),some 52,(some (49,true)),[],[]⟩,⟨.pick (.t 49) (.t 52) (.c (.bool false)),some 53,none,[],[]⟩,⟨.mv (.t 53),some 54,none,[],[]⟩,⟨.faddr 1 (.t 1),some 55,(some (54,true)),[],[]⟩,⟨.load 1 false (.t 55),some 56,(some (54,true)),[],[]⟩,⟨.bin .eql (.t 56) (.c (.int .i64 1)),some 57,(some (54,true)),[],[]⟩,⟨.mv (.t 57),some 58,(some (54,true)),[],[]⟩,⟨.faddr 1 (.t 1),some 59,(some (58,false)),[],[]⟩,⟨.load 1 false (.t 59),some 60,(some (58,false)),[],[]⟩,⟨.bin .eql (.t 60) (.c (.int .i64 2)),some 61,(some (58,false)),[],[]⟩,⟨.pick (.t 58) (.c (.bool true)) (.t 61),some 62,(some (54,true)),[],[]⟩,⟨.mv (.t 62),some 63,(some (54,true)),[],[]⟩,⟨.faddr 1 (.t 1),some 64,(some (63,false)),[],[]⟩,⟨.load 1 false (.t 64),some 65,(some (63,false)),[],[]⟩,⟨.bin .eql (.t 65) (.c (.int .i64 3)),some 66,(some (63,false)),[],[]⟩,⟨.mv (.t 66),some 67,(some (63,false)),[],[]⟩,⟨.faddr 5 (.t 1),some 68,(some (67,true)),[],[]⟩,⟨.load 1 false (.t 68),some 69,(some (67,true)),[],[]⟩,⟨.bin .eql (.t 69) (.c (.str ⟨#[]⟩)),some 70,(some (67,true)),[],[]⟩,⟨.pick (.t 67) (.t 70) (.c (.bool false)),some 71,(some (63,false)),[],[]⟩,⟨.pick (.t 63) (.c (.bool true)) (.t 71),some 72,(some (54,true)),[],[]⟩,⟨.pick (.t 54) (.t 72) (.c (.bool false)),some 73,none,[],[]⟩,⟨.mv (.t 73),some 2,none,[],[]⟩]
def zsx:Reg:=⟨[],zc0,[],[],false⟩
def znw:IR:=(.seq (.reg zt2)
 (.seq (.seq (.reg zt1)
 (.cond (.t 23) (.seq (.reg zt0)
 .ret)
 .skip))
 (.seq (.seq (.reg zsz)
 (.cond (.t 26) (.seq (.reg zsy)
 .ret)
 .skip))
 (.seq (.reg zsx)
 .ret))))
def zdz:List RDesc:=[(.tmp 2)]
theorem e_rRight_0:EqR zt2 [⟨.box 6 55 (.t 0),some 1,none,[],[]⟩,⟨.mv (.c (.bool false)),some 2,none,[],[]⟩] [1]:=fun _ _ _=>rfl
theorem e_rRight_1:EqR zt1 zc3 []:=fun _ _ _=>rfl
theorem e_rRight_2:EqR zt0 [⟨.mv (.c (.bool false)),some 2,none,[],[]⟩] []:=fun _ _ _=>rfl
theorem e_rRight_3:EqR zsz zc2 []:=fun _ _ _=>rfl
theorem e_rRight_4:EqR zsy zc1 [42,43]:=fun _ _ _=>rfl
theorem e_rRight_5:EqR zsx zc0 []:=fun _ _ _=>rfl
theorem fn_rRight {args:List AV} {r:AV} (ha:args.length.ble Tryz.f94.ntmps = true) (h:run (AFn Tryz.prog) znw (endQ zdz r) (z0b args)):AFn Tryz.prog 94 args r :=
 AFn.of_code (pv:=false) (hint:=fun _=>[]) (c:=Tryz.f94.body.getD .skip) (by kernel_rfl) (by kernel_rfl) Tryz.func94 (by kernel_rfl) (by kernel_rfl) (by kernel_rfl) (of_decide_eq_true (by kernel_rfl)) (Nat.le_of_ble_eq_true ha) (Nat.le_of_ble_eq_true (by kernel_rfl)) (z0c h)
attribute [local go_sem ↓] znw
attribute [local go_sem] zdz e_rRight_0 e_rRight_1 zc3 e_rRight_2 e_rRight_3 zc2 e_rRight_4 zc1 e_rRight_5 zc0
theorem yd2 (m : Msg) (hm : m.key.size + 1 ≤ 9223372036854775807 ∧ m.hi.size ≤ 9223372036854775807) : AFn Tryz.prog 94 [m.a] (.bool m.right) := by
  refine fn_rRight rfl ?_
  by_cases h1 : m.stamp < 1
  · have : ¬ 1 ≤ m.stamp := by omega
    simp (maxSteps := 4000000) only [go_sem, ↓reduceIte, reduceCtorEq, Nat.reduceEqDiff, Nat.reduceBEq, Nat.reduceAdd, Nat.reduceSub, Nat.reduceMul, Nat.reduceLT, Nat.reduceLeDiff, Nat.reduceBNe, Int.reduceBEq, Int.reduceBNe, Int.reduceLT, Int.reduceLE, Spn.a, Msg.a, Eff.a, h1]
    simp [Msg.right, this]
  by_cases h2 : (m.key.size : Int) > 16
  · have : ¬ m.key.size ≤ 16 := by omega
    simp (maxSteps := 4000000) only [go_sem, ↓reduceIte, reduceCtorEq, Nat.reduceEqDiff, Nat.reduceBEq, Nat.reduceAdd, Nat.reduceSub, Nat.reduceMul, Nat.reduceLT, Nat.reduceLeDiff, Nat.reduceBNe, Int.reduceBEq, Int.reduceBNe, Int.reduceLT, Int.reduceLE, Spn.a, Msg.a, Eff.a, h1, h2]
    simp [Msg.right, this]
  by_cases h3 : (m.val.size : Int) > 16
  · have : ¬ m.val.size ≤ 16 := by omega
    simp (maxSteps := 4000000) only [go_sem, ↓reduceIte, reduceCtorEq, Nat.reduceEqDiff, Nat.reduceBEq, Nat.reduceAdd, Nat.reduceSub, Nat.reduceMul, Nat.reduceLT, Nat.reduceLeDiff, Nat.reduceBNe, Int.reduceBEq, Int.reduceBNe, Int.reduceLT, Int.reduceLE, Spn.a, Msg.a, Eff.a, h1, h2, h3]
    simp [Msg.right, this]
  by_cases h4 : (m.hi.size : Int) > 16
  · have : ¬ m.hi.size ≤ 16 := by omega
    simp (maxSteps := 4000000) only [go_sem, ↓reduceIte, reduceCtorEq, Nat.reduceEqDiff, Nat.reduceBEq, Nat.reduceAdd, Nat.reduceSub, Nat.reduceMul, Nat.reduceLT, Nat.reduceLeDiff, Nat.reduceBNe, Int.reduceBEq, Int.reduceBNe, Int.reduceLT, Int.reduceLE, Spn.a, Msg.a, Eff.a, h1, h2, h3, h4]
    simp [Msg.right, this]
  have g1 : 1 ≤ m.stamp := by omega
  have g2 : m.key.size ≤ 16 := by omega
  have g3 : m.val.size ≤ 16 := by omega
  have g4 : m.hi.size ≤ 16 := by omega
  have hr : m.right = (if m.kind = 4 then nilS m.val && (!m.op || nilS m.hi) && !m.span.empty
   else nilS m.hi && !m.op && ((m.kind == 1) || (m.kind == 2) || ((m.kind == 3) && nilS m.val))) := by simp [Msg.right, g1, g2, g3, g4]
  rw [hr]
  cases h : (m.kind == 4) with
  | true =>
    have h' : m.kind = 4 := by simpa using h
    rw [if_pos h']
    have fin : ∀ b, m.span.empty = b → AFn Tryz.prog 83 [m.span.a] (.bool b) := fun b hb => hb ▸ z3s m.span (zju (n := 0) hm.1 hm.2)
    have call : (m.val.toList == (ByteArray.mk #[]).toList) = true → (m.op = false ∨ (m.hi.toList == (ByteArray.mk #[]).toList) = true) → run (AFn Tryz.prog) znw (endQ zdz (.bool (!m.span.empty))) (z0b [m.a]) := by
      intro hv ho
      cases hop : m.op with
      | false =>
        simp (maxSteps := 4000000) only [go_sem, ↓reduceIte, reduceCtorEq, Nat.reduceEqDiff, Nat.reduceBEq, Nat.reduceAdd, Nat.reduceSub, Nat.reduceMul, Nat.reduceLT, Nat.reduceLeDiff, Nat.reduceBNe, Int.reduceBEq, Int.reduceBNe, Int.reduceLT, Int.reduceLE, Spn.a, Msg.a, Eff.a, h1, h2, h3, h4, h, hv, hop]
        have hsp := zkb m (by omega)
        simp only [Msg.a, hop] at hsp
        (first | refine z01 hsp ?_ | refine z00 hsp ?_)
        simp (maxSteps := 4000000) only [go_sem, ↓reduceIte, reduceCtorEq, Nat.reduceEqDiff, Nat.reduceBEq, Nat.reduceAdd, Nat.reduceSub, Nat.reduceMul, Nat.reduceLT, Nat.reduceLeDiff, Nat.reduceBNe, Int.reduceBEq, Int.reduceBNe, Int.reduceLT, Int.reduceLE, Spn.a, Msg.a, Eff.a, h1, h2, h3, h4, h, hv, hop]
        (first | refine z01 (z3s m.span (zju (n := 0) hm.1 hm.2)) ?_ | refine z00 (z3s m.span (zju (n := 0) hm.1 hm.2)) ?_)
        simp (maxSteps := 4000000) only [go_sem, ↓reduceIte, reduceCtorEq, Nat.reduceEqDiff, Nat.reduceBEq, Nat.reduceAdd, Nat.reduceSub, Nat.reduceMul, Nat.reduceLT, Nat.reduceLeDiff, Nat.reduceBNe, Int.reduceBEq, Int.reduceBNe, Int.reduceLT, Int.reduceLE, Spn.a, Msg.a, Eff.a, h1, h2, h3, h4, h, hv, hop]
      | true =>
        have hh : (m.hi.toList == (ByteArray.mk #[]).toList) = true := by
          rcases ho with ho | ho
          · rw [hop] at ho; cases ho
          · exact ho
        simp (maxSteps := 4000000) only [go_sem, ↓reduceIte, reduceCtorEq, Nat.reduceEqDiff, Nat.reduceBEq, Nat.reduceAdd, Nat.reduceSub, Nat.reduceMul, Nat.reduceLT, Nat.reduceLeDiff, Nat.reduceBNe, Int.reduceBEq, Int.reduceBNe, Int.reduceLT, Int.reduceLE, Spn.a, Msg.a, Eff.a, h1, h2, h3, h4, h, hv, hop, hh]
        have hsp := zkb m (by omega)
        simp only [Msg.a, hop] at hsp
        (first | refine z01 hsp ?_ | refine z00 hsp ?_)
        simp (maxSteps := 4000000) only [go_sem, ↓reduceIte, reduceCtorEq, Nat.reduceEqDiff, Nat.reduceBEq, Nat.reduceAdd, Nat.reduceSub, Nat.reduceMul, Nat.reduceLT, Nat.reduceLeDiff, Nat.reduceBNe, Int.reduceBEq, Int.reduceBNe, Int.reduceLT, Int.reduceLE, Spn.a, Msg.a, Eff.a, h1, h2, h3, h4, h, hv, hop, hh]
        (first | refine z01 (z3s m.span (zju (n := 0) hm.1 hm.2)) ?_ | refine z00 (z3s m.span (zju (n := 0) hm.1 hm.2)) ?_)
        simp (maxSteps := 4000000) only [go_sem, ↓reduceIte, reduceCtorEq, Nat.reduceEqDiff, Nat.reduceBEq, Nat.reduceAdd, Nat.reduceSub, Nat.reduceMul, Nat.reduceLT, Nat.reduceLeDiff, Nat.reduceBNe, Int.reduceBEq, Int.reduceBNe, Int.reduceLT, Int.reduceLE, Spn.a, Msg.a, Eff.a, h1, h2, h3, h4, h, hv, hop, hh]
    cases hv : (m.val.toList == (ByteArray.mk #[]).toList) with
    | false =>
      simp (maxSteps := 4000000) only [go_sem, ↓reduceIte, reduceCtorEq, Nat.reduceEqDiff, Nat.reduceBEq, Nat.reduceAdd, Nat.reduceSub, Nat.reduceMul, Nat.reduceLT, Nat.reduceLeDiff, Nat.reduceBNe, Int.reduceBEq, Int.reduceBNe, Int.reduceLT, Int.reduceLE, Spn.a, Msg.a, Eff.a, h1, h2, h3, h4, h, hv]
    | true =>
      cases hop : m.op with
      | false => simpa [hv, hop] using call hv (.inl hop)
      | true =>
        cases hh : (m.hi.toList == (ByteArray.mk #[]).toList) with
        | false => 
          simp (maxSteps := 4000000) only [go_sem, ↓reduceIte, reduceCtorEq, Nat.reduceEqDiff, Nat.reduceBEq, Nat.reduceAdd, Nat.reduceSub, Nat.reduceMul, Nat.reduceLT, Nat.reduceLeDiff, Nat.reduceBNe, Int.reduceBEq, Int.reduceBNe, Int.reduceLT, Int.reduceLE, Spn.a, Msg.a, Eff.a, h1, h2, h3, h4, h, hv, hop, hh]
        | true => simpa [hv, hop, hh] using call hv (.inr hh)
  | false =>
    have h' : m.kind ≠ 4 := by simpa using h
    rw [if_neg h']
    simp (maxSteps := 4000000) only [go_sem, ↓reduceIte, reduceCtorEq, Nat.reduceEqDiff, Nat.reduceBEq, Nat.reduceAdd, Nat.reduceSub, Nat.reduceMul, Nat.reduceLT, Nat.reduceLeDiff, Nat.reduceBNe, Int.reduceBEq, Int.reduceBNe, Int.reduceLT, Int.reduceLE, Spn.a, Msg.a, Eff.a, h1, h2, h3, h4, h]
    refine ⟨fun a => ⟨fun b => ⟨fun c => ⟨fun d => ⟨fun e => ?_, fun e => ?_⟩, fun d => ?_⟩, fun c => ?_⟩, fun b => ?_⟩, fun a => ?_⟩ <;> simp only [nilS, *, Bool.not_false, Bool.not_true, Bool.and_true, Bool.true_and, Bool.and_false, Bool.false_and, Bool.or_true, Bool.true_or, Bool.or_false, Bool.false_or]
/-! ### Few,All -/
def Msg.bulk (m:Msg):Nat:=1 + m.key.size + m.hi.size + m.val.size
/-! ### percolate/percolateref05.Few -/
def z28:List Msg->Bool
 | []=>true
 | m :: l=>m.right && (match l with | []=>true | x :: _=>decide (m.stamp < x.stamp)) && z28 l
/-! ### percolate/percolateref05.All -/
def yeg:Reg:=⟨[],[⟨.mv (.c (.bool false)),some 2,none,[],[]⟩],[],[],false⟩
def yef:Reg:=⟨[],[⟨.mv (.c (.int .i64 0)),some 3,none,[],[]⟩],[],[],false⟩
def zyk:List ROp:=[⟨.mv (.t 3),some 4,none,[],[]⟩,⟨.mv (.t 0),some 5,none,[],[]⟩,⟨.len false (.t 5),some 6,none,[],[]⟩,⟨.bin .lss (.t 4) (.t 6),some 7,none,[],[]⟩]
def yee:Reg:=⟨[],zyk,[],[],false⟩
def zyj:List ROp:=[⟨.bin .leq (.t 24) (.t 30),some 31,(some (19,true)),[],[]⟩,⟨.pick (.t 19) (.t 31) (.c (.bool false)),some 32,(some (16,false)),[],[]⟩,⟨.pick (.t 16) (.c (.bool true)) (.t 32),some 33,none,[],[]⟩]
def zzm:List ROp:=[⟨.mv (.t 0),some 10,none,[14],[]⟩,⟨.mv (.t 3),some 11,none,[14],[]⟩,⟨.iaddr 6 (.t 10) (.t 11),some 12,none,[14],[]⟩,⟨.load 6 true (.t 12),some 13,none,[14],[]⟩,⟨.callv (.c (.clo 94 [] [])) [(.t 13)],some 14,none,[],[]⟩,⟨.un .not (.t 14),some 15,none,[],[]⟩,⟨.mv (.t 15),some 16,none,[],[]⟩,⟨.mv (.t 3),some 17,(some (16,false)),[],[]⟩,⟨.bin .gtr (.t 17) (.c (.int .i64 0)),some 18,(some (16,false)),[],[]⟩,⟨.mv (.t 18),some 19,(some (16,false)),[],[]⟩,⟨.mv (.t 0),some 20,(some (19,true)),[],[]⟩,⟨.mv (.t 3),some 21,(some (19,true)),[],[]⟩,⟨.iaddr 6 (.t 20) (.t 21),some 22,(some (19,true)),[],[]⟩,⟨.faddr 0 (.t 22),some 23,(some (19,true)),[],[]⟩,⟨.load 1 false (.t 23),some 24,(some (19,true)),[],[]⟩,⟨.mv (.t 0),some 25,(some (19,true)),[],[]⟩,⟨.mv (.t 3),some 26,(some (19,true)),[],[]⟩,⟨.bin .sub (.t 26) (.c (.int .i64 1)),some 27,(some (19,true)),[],[]⟩,⟨.iaddr 6 (.t 25) (.t 27),some 28,(some (19,true)),[],[]⟩,⟨.faddr 0 (.t 28),some 29,(some (19,true)),[],[]⟩,⟨.load 1 false (.t 29),some 30,(some (19,true)),[],[]⟩]
def yed:Reg:=⟨zzm,zyj,[14],[],true⟩
def yec:Reg:=⟨[],[⟨.mv (.c (.bool false)),some 2,none,[],[]⟩],[],[],false⟩
def zyi:List ROp:=[⟨.mv (.t 3),some 8,none,[],[]⟩,⟨.bin .add (.t 8) (.c (.int .i64 1)),some 9,none,[],[]⟩,⟨.mv (.t 9),some 3,none,[],[]⟩]
def yeb:Reg:=⟨[],zyi,[],[],false⟩
def y3s:IR:=(.seq (.seq (.reg yee)
 (.cond (.t 7) .skip
 (.exit 0)))
 (.seq (.block 1 (.seq (.reg yed)
 (.cond (.t 33) (.seq (.reg yec)
 .ret)
 .skip)))
 (.reg yeb)))
def yea:Reg:=⟨[],[⟨.mv (.c (.bool true)),some 2,none,[],[]⟩],[],[],false⟩
def ir_rAll:IR:=(.seq (.reg yeg)
 (.seq (.seq (.reg yef)
 (.block 0 (.loop y3s)))
 (.seq (.reg yea)
 .ret)))
def ycx:List RDesc:=[(.tmp 2)]
theorem e_rAll_0:EqR yeg [⟨.mv (.c (.bool false)),some 2,none,[],[]⟩] []:=fun _ _ _=>rfl
theorem e_rAll_1:EqR yef [⟨.mv (.c (.int .i64 0)),some 3,none,[],[]⟩] []:=fun _ _ _=>rfl
theorem e_rAll_2:EqR yee zyk []:=fun _ _ _=>rfl
theorem e_rAll_3 (C:FuncId->List AV->AV->Prop) (σ:St) (K:St->Prop):z0k C yed σ K = z08 C [] zyj zzm (σ.kills [14]) K:=rfl
theorem e_rAll_4:EqR yec [⟨.mv (.c (.bool false)),some 2,none,[],[]⟩] []:=fun _ _ _=>rfl
theorem e_rAll_5:EqR yeb zyi []:=fun _ _ _=>rfl
theorem e_rAll_7:EqR yea [⟨.mv (.c (.bool true)),some 2,none,[],[]⟩] []:=fun _ _ _=>rfl
theorem fn_rAll {args:List AV} {r:AV} (ha:args.length.ble Tryz.f81.ntmps = true) (h:run (AFn Tryz.prog) ir_rAll (endQ ycx r) (z0b args)):AFn Tryz.prog 81 args r :=
 AFn.of_code (pv:=false) (hint:=fun _=>[]) (c:=Tryz.f81.body.getD .skip) (by kernel_rfl) (by kernel_rfl) Tryz.func81 (by kernel_rfl) (by kernel_rfl) (by kernel_rfl) (of_decide_eq_true (by kernel_rfl)) (Nat.le_of_ble_eq_true ha) (Nat.le_of_ble_eq_true (by kernel_rfl)) (z0c h)
attribute [local go_sem ↓] ir_rAll
attribute [local go_sem] ycx e_rAll_0 e_rAll_1 e_rAll_2 zyk e_rAll_3 zyj zzm e_rAll_4 e_rAll_5 zyi e_rAll_7
def zf9 (l:List Msg) (j:Nat):Bool:=z28 (l.drop j) && (j == 0 || match l[j - 1]?,l[j]? with | some a,some b=>decide (a.stamp < b.stamp) | _,_=>true)
def allInv (l:List Msg) (r:Bool) (k:Nat) (σ:St):Prop :=
 ∃ j:Nat,j≤l.length∧k = l.length - j∧σ.T 0 = .sl (l.map Msg.a)∧σ.T 3 = .int .i64 j∧zf9 l j = r
theorem y8f {l:List Msg} {j:Nat} {x:Msg} (hx:l[j]? = some x):zf9 l j = (x.right && (j == 0 || match l[j - 1]? with | some a=>decide (a.stamp < x.stamp) | none=>true) && zf9 l (j + 1)):=by
 have hlt:=(List.getElem?_eq_some_iff.1 hx).1
 have e:l[j] = x:=(List.getElem?_eq_some_iff.1 hx).2
 unfold zf9
 rw [List.drop_eq_getElem_cons hlt,e]
 have h2:(match l.drop (j + 1) with | []=>true | y :: _=>decide (x.stamp < y.stamp)) = (match l[j + 1]? with | some b=>decide (x.stamp < b.stamp) | none=>true):=by
  rcases Nat.lt_or_ge (j + 1) l.length with h | h
  ·rw [List.drop_eq_getElem_cons h,List.getElem?_eq_getElem h]
  ·rw [List.drop_eq_nil_of_le h,List.getElem?_eq_none h]
 simp only [z28,h2,Nat.add_sub_cancel,hx]
 have h3:(j + 1 == 0) = false:=by simp
 rw [h3]
 cases x.right <;> cases (z28 (l.drop (j + 1))) <;> cases hj:l[j + 1]? <;> cases hj2:l[j - 1]? <;> simp <;>
  (rename_i a b; cases h:decide (x.stamp < a.stamp) <;> simp_all)
theorem refAll (l:List Msg) (hl:l.length≤1000000) (hs:∀ m,m ∈ l->m.key.size + 1≤9223372036854775807∧m.hi.size≤9223372036854775807):AFn Tryz.prog 81 [.sl (l.map Msg.a)] (.bool (z28 l)):=by
 refine fn_rAll rfl ?_
 simp (maxSteps:=9^7) only [go_sem,↓reduceIte,reduceCtorEq,Nat.reduceEqDiff,Nat.reduceBEq,Nat.reduceAdd,Nat.reduceSub,Nat.reduceMul,Nat.reduceLT,Nat.reduceLeDiff,Nat.reduceBNe,Int.reduceBEq,Int.reduceBNe,Int.reduceLT,Int.reduceLE,Spn.a,Msg.a,Eff.a]
 refine z0d (allInv l (z28 l)) (k:=l.length) ⟨0,by omega,rfl,?_,?_,?_⟩ ?_
 ·simp (maxSteps:=9^7) only [go_sem,↓reduceIte,reduceCtorEq,Nat.reduceEqDiff,Nat.reduceBEq,Nat.reduceAdd,Nat.reduceSub,Nat.reduceMul,Nat.reduceLT,Nat.reduceLeDiff,Nat.reduceBNe,Int.reduceBEq,Int.reduceBNe,Int.reduceLT,Int.reduceLE,Spn.a,Msg.a,Eff.a]
 ·simp (maxSteps:=9^7) only [go_sem,↓reduceIte,reduceCtorEq,Nat.reduceEqDiff,Nat.reduceBEq,Nat.reduceAdd,Nat.reduceSub,Nat.reduceMul,Nat.reduceLT,Nat.reduceLeDiff,Nat.reduceBNe,Int.reduceBEq,Int.reduceBNe,Int.reduceLT,Int.reduceLE,Spn.a,Msg.a,Eff.a]
  rfl
 ·simp [zf9]
 rintro k σ ⟨j,hj,rfl,t0,t3,hr⟩
 simp only [y3s]
 by_cases hlt:j < l.length
 ·have hlt':(j:Int) < (l.length:Int):=by omega
  obtain ⟨x,hx⟩:∃ x,l[j]? = some x:=⟨_,List.getElem?_eq_getElem hlt⟩
  have hg:∀ (j:Nat) (x:Msg),l[j]? = some x->(l.map Msg.a).getD j .und = .agg [.int .i64 x.stamp,.int .i64 x.kind,.str x.key,.str x.hi,.bool x.op,.str x.val]:=fun j x hx=>by rw [List.getD_eq_getElem?_getD,List.getElem?_map,hx]; rfl
  have hgj:=hg j x hx
  have hw:IntKind.i64.wrap ((j:Int) + 1) = ((j + 1:Nat):Int):=by rw [IntWalk.i64_in _ (by omega)]; rfl
  rw [y8f hx] at hr
  simp (maxSteps:=9^7) only [go_sem,↓reduceIte,reduceCtorEq,Nat.reduceEqDiff,Nat.reduceBEq,Nat.reduceAdd,Nat.reduceSub,Nat.reduceMul,Nat.reduceLT,Nat.reduceLeDiff,Nat.reduceBNe,Int.reduceBEq,Int.reduceBNe,Int.reduceLT,Int.reduceLE,Spn.a,Msg.a,Eff.a,t0,t3,hlt',hgj,List.length_map,Int.toNat_natCast]
  refine ⟨by omega,?_⟩
  (first | refine z01 (yd2 x (hs x (List.mem_of_getElem? hx))) ?_ | refine z00 (yd2 x (hs x (List.mem_of_getElem? hx))) ?_)
  cases hxr:x.right with
  | false =>
   rw [hxr] at hr
   simp only [Bool.false_and] at hr
   simp (maxSteps:=9^7) only [go_sem,↓reduceIte,reduceCtorEq,Nat.reduceEqDiff,Nat.reduceBEq,Nat.reduceAdd,Nat.reduceSub,Nat.reduceMul,Nat.reduceLT,Nat.reduceLeDiff,Nat.reduceBNe,Int.reduceBEq,Int.reduceBNe,Int.reduceLT,Int.reduceLE,Spn.a,Msg.a,Eff.a,t0,t3,hlt']
   exact hr.symm
  | true =>
   rw [hxr] at hr
   simp only [Bool.true_and] at hr
   cases j with
   | zero =>
    simp only [beq_self_eq_true,Bool.true_or,Bool.true_and] at hr
    have hz:¬ ((0:Nat):Int) > 0:=by omega
    simp (maxSteps:=9^7) only [go_sem,↓reduceIte,reduceCtorEq,Nat.reduceEqDiff,Nat.reduceBEq,Nat.reduceAdd,Nat.reduceSub,Nat.reduceMul,Nat.reduceLT,Nat.reduceLeDiff,Nat.reduceBNe,Int.reduceBEq,Int.reduceBNe,Int.reduceLT,Int.reduceLE,Spn.a,Msg.a,Eff.a,t0,t3,hz,hw]
    refine ⟨l.length - (0 + 1),by omega,0 + 1,by omega,rfl,?_,?_,hr⟩ <;>
     (simp (maxSteps:=9^7) only [go_sem,↓reduceIte,reduceCtorEq,Nat.reduceEqDiff,Nat.reduceBEq,Nat.reduceAdd,Nat.reduceSub,Nat.reduceMul,Nat.reduceLT,Nat.reduceLeDiff,Nat.reduceBNe,Int.reduceBEq,Int.reduceBNe,Int.reduceLT,Int.reduceLE,Spn.a,Msg.a,Eff.a,t0,t3,hw])
   | succ i =>
    obtain ⟨y,hy⟩:∃ y,l[i]? = some y:=⟨_,List.getElem?_eq_getElem (by omega)⟩
    have hgi:=hg i y hy
    have hz:((i + 1:Nat):Int) > 0:=by omega
    have hw1:IntKind.i64.wrap (((i + 1:Nat):Int) - 1) = (i:Int):=by rw [IntWalk.i64_in _ (by omega)]; omega
    have hli:(i:Int) < (l.length:Int):=by omega
    have hz2:(i + 1 == 0) = false:=by simp
    rw [hz2,Bool.false_or,Nat.add_sub_cancel,hy] at hr
    simp only at hr
    by_cases hst:x.stamp≤y.stamp
    ·have:¬ y.stamp < x.stamp:=by omega
     simp only [this,decide_false,Bool.false_and] at hr
     simp (maxSteps:=9^7) only [go_sem,↓reduceIte,reduceCtorEq,Nat.reduceEqDiff,Nat.reduceBEq,Nat.reduceAdd,Nat.reduceSub,Nat.reduceMul,Nat.reduceLT,Nat.reduceLeDiff,Nat.reduceBNe,Int.reduceBEq,Int.reduceBNe,Int.reduceLT,Int.reduceLE,Spn.a,Msg.a,Eff.a,t0,t3,hz,hw,hw1,hli,hgi,hgj,hlt',hst,List.length_map,Int.toNat_natCast]
     exact ⟨by omega,by omega,hr.symm⟩
    ·have:y.stamp < x.stamp:=by omega
     simp only [this,decide_true,Bool.true_and] at hr
     simp (maxSteps:=9^7) only [go_sem,↓reduceIte,reduceCtorEq,Nat.reduceEqDiff,Nat.reduceBEq,Nat.reduceAdd,Nat.reduceSub,Nat.reduceMul,Nat.reduceLT,Nat.reduceLeDiff,Nat.reduceBNe,Int.reduceBEq,Int.reduceBNe,Int.reduceLT,Int.reduceLE,Spn.a,Msg.a,Eff.a,t0,t3,hz,hw,hw1,hli,hgi,hgj,hlt',hst,List.length_map,Int.toNat_natCast]
     refine ⟨by omega,by omega,l.length - (i + 1 + 1),by omega,i + 1 + 1,by omega,rfl,?_,?_,hr⟩ <;>
      (simp (maxSteps:=9^7) only [go_sem,↓reduceIte,reduceCtorEq,Nat.reduceEqDiff,Nat.reduceBEq,Nat.reduceAdd,Nat.reduceSub,Nat.reduceMul,Nat.reduceLT,Nat.reduceLeDiff,Nat.reduceBNe,Int.reduceBEq,Int.reduceBNe,Int.reduceLT,Int.reduceLE,Spn.a,Msg.a,Eff.a,t0,t3,hw])
 ·have hlt':¬ (j:Int) < (l.length:Int):=by omega
  simp (maxSteps:=9^7) only [go_sem,↓reduceIte,reduceCtorEq,Nat.reduceEqDiff,Nat.reduceBEq,Nat.reduceAdd,Nat.reduceSub,Nat.reduceMul,Nat.reduceLT,Nat.reduceLeDiff,Nat.reduceBNe,Int.reduceBEq,Int.reduceBNe,Int.reduceLT,Int.reduceLE,Spn.a,Msg.a,Eff.a,t0,t3,hlt',List.length_map]
  rw [← hr]
  unfold zf9
  rw [List.drop_eq_nil_of_le (by omega),List.getElem?_eq_none (by omega:l.length≤j)]
  cases l[j - 1]? <;> simp [z28]
end
section
/-
 The data of the trees: messages,pairs,nodes,latches; and that what came in of their types is such.
-/
open Go.RowKit
set_option linter.unusedVariables false
set_option linter.unusedSimpArgs false
set_option maxRecDepth 100000
theorem z0j {T:Ty} {fs:List Ty} {ds:List AV} (h:TypedC (.st (T :: fs)) ds):∃ c r,ds = c ++ r∧TypedC T c∧TypedC (.st fs) r:=by
 cases h with
 | cons h1 h2=>exact ⟨_,_,rfl,h1,h2⟩
theorem zps {ds:List AV} (h:TypedC (.st []) ds):ds = []:=by cases h; rfl
theorem z0y {ds:List AV} (h:TypedC (.int .i64) ds):∃ n,ds = [.int .i64 n]∧-9223372036854775808≤n∧n≤9223372036854775807:=by
 cases h with
 | int k n h=>exact ⟨n,rfl,bounds_i64 h⟩
theorem z8k {ds:List AV} (h:TypedC .str ds):∃ s,ds = [.str s]∧s.size≤281474976710656:=by
 cases h with
 | str s h=>exact ⟨s,rfl,h⟩
theorem zzq {ds:List AV} (h:TypedC .bool ds):∃ b,ds = [.bool b]:=by
 cases h with
 | bool b=>exact ⟨b,rfl⟩
theorem y8q {α:Type} (f:α->AV) (ok:α->Prop) {T:Ty} {ds:List AV} (h:TypedC (.sl T) ds) (hel:∀ c,TypedC T c->∃ a,zpk T c = f a∧ok a):∃ l:List α,ds = [.sl (l.map f)]∧l.length≤281474976710656∧∀ a,a ∈ l->ok a:=by
 cases h with
 | sl T ls hlen h =>
  have:∃ l:List α,ls.map (zpk T) = l.map f∧l.length = ls.length∧∀ a,a ∈ l->ok a:=by
   clear hlen
   induction ls with
   | nil=>exact ⟨[],rfl,rfl,fun a ha=>by cases ha⟩
   | cons c ls ih =>
    obtain ⟨l,h1,h2,h3⟩:=ih fun x hx=>h x (List.mem_cons_of_mem _ hx)
    obtain ⟨a,ha,hok⟩:=hel c (h c (List.mem_cons_self ..))
    refine ⟨a :: l,by rw [List.map_cons,List.map_cons,h1,ha],by rw [List.length_cons,List.length_cons,h2],fun b hb=>?_⟩
    rcases List.mem_cons.1 hb with rfl | hb
    ·exact hok
    ·exact h3 b hb
  obtain ⟨l,h1,h2,h3⟩:=this
  exact ⟨l,by rw [h1],by omega,h3⟩
structure Msg.ok (x:Msg):Prop where
 stamp:(-9223372036854775808≤x.stamp∧x.stamp≤9223372036854775807)
 kind:(-9223372036854775808≤x.kind∧x.kind≤9223372036854775807)
 key:x.key.size≤281474976710656
 hi:x.hi.size≤281474976710656
 op:True
 val:x.val.size≤281474976710656
def MsgT:Ty:=.st [.int .i64,.int .i64,.str,.str,.bool,.str]
theorem Msg.of {c:List AV} (h:TypedC MsgT c):∃ x:Msg,AV.agg c = x.a∧x.ok:=by
 obtain ⟨c0,r0,rfl,h0,h⟩:=z0j h
 obtain ⟨c1,r1,rfl,h1,h⟩:=z0j h
 obtain ⟨c2,r2,rfl,h2,h⟩:=z0j h
 obtain ⟨c3,r3,rfl,h3,h⟩:=z0j h
 obtain ⟨c4,r4,rfl,h4,h⟩:=z0j h
 obtain ⟨c5,r5,rfl,h5,h⟩:=z0j h
 obtain rfl:=zps h
 obtain ⟨v0,rfl,b0⟩:=z0y h0
 obtain ⟨v1,rfl,b1⟩:=z0y h1
 obtain ⟨v2,rfl,b2⟩:=z8k h2
 obtain ⟨v3,rfl,b3⟩:=z8k h3
 obtain ⟨v4,rfl⟩:=zzq h4
 have b4:=True.intro
 obtain ⟨v5,rfl,b5⟩:=z8k h5
 exact ⟨⟨v0,v1,v2,v3,v4,v5⟩,rfl,⟨b0,b1,b2,b3,b4,b5⟩⟩
structure Par where
 key:ByteArray
 val:ByteArray
def Par.a (x:Par):AV:=.agg [.str x.key,.str x.val]
structure Par.ok (x:Par):Prop where
 key:x.key.size≤281474976710656
 val:x.val.size≤281474976710656
def ParT:Ty:=.st [.str,.str]
theorem Par.of {c:List AV} (h:TypedC ParT c):∃ x:Par,AV.agg c = x.a∧x.ok:=by
 obtain ⟨c0,r0,rfl,h0,h⟩:=z0j h
 obtain ⟨c1,r1,rfl,h1,h⟩:=z0j h
 obtain rfl:=zps h
 obtain ⟨v0,rfl,b0⟩:=z8k h0
 obtain ⟨v1,rfl,b1⟩:=z8k h1
 exact ⟨⟨v0,v1⟩,rfl,⟨b0,b1⟩⟩
structure Nd where
 slot:Int
 level:Int
 pivots:List ByteArray
 kids:List Int
 high:ByteArray
 top:Bool
 right:Int
 seen:Int
 msgs:List Msg
 rows:List Par
def Nd.a (x:Nd):AV:=.agg [.int .i64 x.slot,.int .i64 x.level,.sl (x.pivots.map AV.str),.sl (x.kids.map (AV.int .i64)),.str x.high,.bool x.top,.int .i64 x.right,.int .i64 x.seen,.sl (x.msgs.map Msg.a),.sl (x.rows.map Par.a)]
structure Nd.ok (x:Nd):Prop where
 slot:(-9223372036854775808≤x.slot∧x.slot≤9223372036854775807)
 level:(-9223372036854775808≤x.level∧x.level≤9223372036854775807)
 pivots:(x.pivots.length≤281474976710656∧∀ z,z ∈ x.pivots->z.size≤281474976710656)
 kids:(x.kids.length≤281474976710656∧∀ z,z ∈ x.kids->(-9223372036854775808≤z∧z≤9223372036854775807))
 high:x.high.size≤281474976710656
 top:True
 right:(-9223372036854775808≤x.right∧x.right≤9223372036854775807)
 seen:(-9223372036854775808≤x.seen∧x.seen≤9223372036854775807)
 msgs:(x.msgs.length≤281474976710656∧∀ z,z ∈ x.msgs->z.ok)
 rows:(x.rows.length≤281474976710656∧∀ z,z ∈ x.rows->z.ok)
def NdT:Ty:=.st [.int .i64,.int .i64,.sl (.str),.sl (.int .i64),.str,.bool,.int .i64,.int .i64,.sl MsgT,.sl ParT]
theorem Nd.of {c:List AV} (h:TypedC NdT c):∃ x:Nd,AV.agg c = x.a∧x.ok:=by
 obtain ⟨c0,r0,rfl,h0,h⟩:=z0j h
 obtain ⟨c1,r1,rfl,h1,h⟩:=z0j h
 obtain ⟨c2,r2,rfl,h2,h⟩:=z0j h
 obtain ⟨c3,r3,rfl,h3,h⟩:=z0j h
 obtain ⟨c4,r4,rfl,h4,h⟩:=z0j h
 obtain ⟨c5,r5,rfl,h5,h⟩:=z0j h
 obtain ⟨c6,r6,rfl,h6,h⟩:=z0j h
 obtain ⟨c7,r7,rfl,h7,h⟩:=z0j h
 obtain ⟨c8,r8,rfl,h8,h⟩:=z0j h
 obtain ⟨c9,r9,rfl,h9,h⟩:=z0j h
 obtain rfl:=zps h
 obtain ⟨v0,rfl,b0⟩:=z0y h0
 obtain ⟨v1,rfl,b1⟩:=z0y h1
 obtain ⟨v2,rfl,b2⟩:=y8q AV.str (fun z:ByteArray=>z.size≤281474976710656) h2 (fun c hc=>by obtain ⟨v,rfl,b⟩:=z8k hc; exact ⟨v,rfl,b⟩)
 obtain ⟨v3,rfl,b3⟩:=y8q (AV.int .i64) (fun z:Int=>-9223372036854775808≤z∧z≤9223372036854775807) h3 (fun c hc=>by obtain ⟨v,rfl,b⟩:=z0y hc; exact ⟨v,rfl,b⟩)
 obtain ⟨v4,rfl,b4⟩:=z8k h4
 obtain ⟨v5,rfl⟩:=zzq h5
 have b5:=True.intro
 obtain ⟨v6,rfl,b6⟩:=z0y h6
 obtain ⟨v7,rfl,b7⟩:=z0y h7
 obtain ⟨v8,rfl,b8⟩:=y8q Msg.a Msg.ok h8 (fun c hc=>Msg.of hc)
 obtain ⟨v9,rfl,b9⟩:=y8q Par.a Par.ok h9 (fun c hc=>Par.of hc)
 exact ⟨⟨v0,v1,v2,v3,v4,v5,v6,v7,v8,v9⟩,rfl,⟨b0,b1,b2,b3,b4,b5,b6,b7,b8,b9⟩⟩
structure Hld where
 thread:Int
 slot:Int
 wr:Bool
def Hld.a (x:Hld):AV:=.agg [.int .i64 x.thread,.int .i64 x.slot,.bool x.wr]
structure Hld.ok (x:Hld):Prop where
 thread:(-9223372036854775808≤x.thread∧x.thread≤9223372036854775807)
 slot:(-9223372036854775808≤x.slot∧x.slot≤9223372036854775807)
 wr:True
def HldT:Ty:=.st [.int .i64,.int .i64,.bool]
theorem Hld.of {c:List AV} (h:TypedC HldT c):∃ x:Hld,AV.agg c = x.a∧x.ok:=by
 obtain ⟨c0,r0,rfl,h0,h⟩:=z0j h
 obtain ⟨c1,r1,rfl,h1,h⟩:=z0j h
 obtain ⟨c2,r2,rfl,h2,h⟩:=z0j h
 obtain rfl:=zps h
 obtain ⟨v0,rfl,b0⟩:=z0y h0
 obtain ⟨v1,rfl,b1⟩:=z0y h1
 obtain ⟨v2,rfl⟩:=zzq h2
 have b2:=True.intro
 exact ⟨⟨v0,v1,v2⟩,rfl,⟨b0,b1,b2⟩⟩
structure Cfg where
 fanout:Int
 leaf:Int
 budget:Int
 slots:Int
 restarts:Int
def Cfg.a (x:Cfg):AV:=.agg [.int .i64 x.fanout,.int .i64 x.leaf,.int .i64 x.budget,.int .i64 x.slots,.int .i64 x.restarts]
structure Cfg.ok (x:Cfg):Prop where
 fanout:(-9223372036854775808≤x.fanout∧x.fanout≤9223372036854775807)
 leaf:(-9223372036854775808≤x.leaf∧x.leaf≤9223372036854775807)
 budget:(-9223372036854775808≤x.budget∧x.budget≤9223372036854775807)
 slots:(-9223372036854775808≤x.slots∧x.slots≤9223372036854775807)
 restarts:(-9223372036854775808≤x.restarts∧x.restarts≤9223372036854775807)
def CfgT:Ty:=.st [.int .i64,.int .i64,.int .i64,.int .i64,.int .i64]
theorem Cfg.of {c:List AV} (h:TypedC CfgT c):∃ x:Cfg,AV.agg c = x.a∧x.ok:=by
 obtain ⟨c0,r0,rfl,h0,h⟩:=z0j h
 obtain ⟨c1,r1,rfl,h1,h⟩:=z0j h
 obtain ⟨c2,r2,rfl,h2,h⟩:=z0j h
 obtain ⟨c3,r3,rfl,h3,h⟩:=z0j h
 obtain ⟨c4,r4,rfl,h4,h⟩:=z0j h
 obtain rfl:=zps h
 obtain ⟨v0,rfl,b0⟩:=z0y h0
 obtain ⟨v1,rfl,b1⟩:=z0y h1
 obtain ⟨v2,rfl,b2⟩:=z0y h2
 obtain ⟨v3,rfl,b3⟩:=z0y h3
 obtain ⟨v4,rfl,b4⟩:=z0y h4
 exact ⟨⟨v0,v1,v2,v3,v4⟩,rfl,⟨b0,b1,b2,b3,b4⟩⟩
structure Gau where
 nodes:Int
 leaves:Int
 height:Int
 rows:Int
 msgs:Int
 bytes:Int
 empty:Int
 levels:List Int
 waits:List Int
def Gau.a (x:Gau):AV:=.agg [.int .i64 x.nodes,.int .i64 x.leaves,.int .i64 x.height,.int .i64 x.rows,.int .i64 x.msgs,.int .i64 x.bytes,.int .i64 x.empty,.sl (x.levels.map (AV.int .i64)),.sl (x.waits.map (AV.int .i64))]
structure Gau.ok (x:Gau):Prop where
 nodes:(-9223372036854775808≤x.nodes∧x.nodes≤9223372036854775807)
 leaves:(-9223372036854775808≤x.leaves∧x.leaves≤9223372036854775807)
 height:(-9223372036854775808≤x.height∧x.height≤9223372036854775807)
 rows:(-9223372036854775808≤x.rows∧x.rows≤9223372036854775807)
 msgs:(-9223372036854775808≤x.msgs∧x.msgs≤9223372036854775807)
 bytes:(-9223372036854775808≤x.bytes∧x.bytes≤9223372036854775807)
 empty:(-9223372036854775808≤x.empty∧x.empty≤9223372036854775807)
 levels:(x.levels.length≤281474976710656∧∀ z,z ∈ x.levels->(-9223372036854775808≤z∧z≤9223372036854775807))
 waits:(x.waits.length≤281474976710656∧∀ z,z ∈ x.waits->(-9223372036854775808≤z∧z≤9223372036854775807))
def GauT:Ty:=.st [.int .i64,.int .i64,.int .i64,.int .i64,.int .i64,.int .i64,.int .i64,.sl (.int .i64),.sl (.int .i64)]
theorem Gau.of {c:List AV} (h:TypedC GauT c):∃ x:Gau,AV.agg c = x.a∧x.ok:=by
 obtain ⟨c0,r0,rfl,h0,h⟩:=z0j h
 obtain ⟨c1,r1,rfl,h1,h⟩:=z0j h
 obtain ⟨c2,r2,rfl,h2,h⟩:=z0j h
 obtain ⟨c3,r3,rfl,h3,h⟩:=z0j h
 obtain ⟨c4,r4,rfl,h4,h⟩:=z0j h
 obtain ⟨c5,r5,rfl,h5,h⟩:=z0j h
 obtain ⟨c6,r6,rfl,h6,h⟩:=z0j h
 obtain ⟨c7,r7,rfl,h7,h⟩:=z0j h
 obtain ⟨c8,r8,rfl,h8,h⟩:=z0j h
 obtain rfl:=zps h
 obtain ⟨v0,rfl,b0⟩:=z0y h0
 obtain ⟨v1,rfl,b1⟩:=z0y h1
 obtain ⟨v2,rfl,b2⟩:=z0y h2
 obtain ⟨v3,rfl,b3⟩:=z0y h3
 obtain ⟨v4,rfl,b4⟩:=z0y h4
 obtain ⟨v5,rfl,b5⟩:=z0y h5
 obtain ⟨v6,rfl,b6⟩:=z0y h6
 obtain ⟨v7,rfl,b7⟩:=y8q (AV.int .i64) (fun z:Int=>-9223372036854775808≤z∧z≤9223372036854775807) h7 (fun c hc=>by obtain ⟨v,rfl,b⟩:=z0y hc; exact ⟨v,rfl,b⟩)
 obtain ⟨v8,rfl,b8⟩:=y8q (AV.int .i64) (fun z:Int=>-9223372036854775808≤z∧z≤9223372036854775807) h8 (fun c hc=>by obtain ⟨v,rfl,b⟩:=z0y hc; exact ⟨v,rfl,b⟩)
 exact ⟨⟨v0,v1,v2,v3,v4,v5,v6,v7,v8⟩,rfl,⟨b0,b1,b2,b3,b4,b5,b6,b7,b8⟩⟩
/-- an element's place,a number's next -/
theorem z0o {α:Type} {f:α->AV} {l:List α} {j:Nat} {x:α} (h:l[j]? = some x):(l.map f).getD j .und = f x:=by
 rw [List.getD_eq_getElem?_getD,List.getElem?_map,h]; rfl
theorem z0i {α:Type} {l:List α} {j:Nat} (h:j < l.length):∃ x,l[j]? = some x:=⟨_,List.getElem?_eq_getElem h⟩
theorem z1j {j:Nat} (h:j≤1000000000000000):IntKind.i64.wrap ((j:Int) + 1) = ((j + 1:Nat):Int):=by rw [IntWalk.i64_in _ (by omega)]; rfl
theorem z0h {α:Type} {l:List α} {j:Nat} {x:α} (h:l[j]? = some x):l.drop j = x :: l.drop (j + 1):=by
 obtain ⟨hlt,e⟩:=List.getElem?_eq_some_iff.1 h
 rw [List.drop_eq_getElem_cons hlt,e]
theorem z7d {α:Type} {l:List α} {j:Nat} {x:α} (h:l[j]? = some x):l.take (j + 1) = l.take j ++ [x]:=by
 rw [List.take_add_one,h]; rfl
end
end Go.Proofs.YthpbokjnfloeoaaGreatDoor
