/-
  Part 18 of a proof: WaE, WaI.
-/
import Derived.IntWalk
import Derived.Test.YtlhblpbfhfhlpaaGreatLF17
set_option linter.unusedVariables false
set_option linter.unusedSimpArgs false
set_option maxRecDepth 100000
attribute [local go_sem] reduceCtorEq Nat.reduceEqDiff Nat.reduceBEq Nat.reduceAdd Nat.reduceSub Nat.reduceMul Nat.reduceLT Nat.reduceLeDiff Nat.reduceBNe Int.reduceBEq Int.reduceBNe Int.reduceLT Int.reduceLE
attribute [local go_sem ↓] reduceIte
namespace Go.Proofs.YtlhblpbfhfhlpaaGreat
section
open Go.RowKit
attribute [local go_sem ↓] z18 z0h
def r_iI_0:Reg:=⟨[],[⟨.mv (.c (.int .i64 0)),some 4,none,[],[]⟩],[],[],false⟩
def t_iI_1:List ROp:=[⟨.mv (.t 0),some 6,none,[],[]⟩,⟨.len false (.t 6),some 7,none,[],[]⟩,⟨.mv (.c (.int .i64 0)),some 8,none,[],[]⟩]
def r_iI_1:Reg:=⟨[],t_iI_1,[],[],false⟩
def r_iI_2:Reg:=⟨[],[⟨.bin .lss (.t 8) (.t 7),some 9,none,[],[]⟩],[],[],false⟩
def r_iI_3:Reg:=⟨[],[⟨.mv (.t 8),some 10,none,[],[]⟩,⟨.mv (.t 10),some 5,none,[],[]⟩],[],[],false⟩
def t_iI_4:List ROp:=[⟨.mv (.t 1),some 11,none,[16],[]⟩,⟨.mv (.t 0),some 12,none,[16],[]⟩,⟨.mv (.t 5),some 13,none,[16],[]⟩,⟨.iaddr 1 (.t 12) (.t 13),some 14,none,[16],[]⟩,⟨.load 1 false (.t 14),some 15,none,[16],[]⟩,⟨.callv (.t 11) [(.t 15)],some 16,none,[],[]⟩]
def r_iI_4:Reg:=⟨[],t_iI_4,[16],[],false⟩
def r_iI_5:Reg:=⟨[],[⟨.mv (.t 5),some 17,none,[],[]⟩,⟨.mv (.t 17),some 4,none,[],[]⟩],[],[],false⟩
def r_iI_6:Reg:=⟨[],[⟨.bin .add (.t 8) (.c (.int .i64 1)),some 18,none,[],[]⟩,⟨.mv (.t 18),some 8,none,[],[]⟩],[],[],false⟩
def r_iI_l7:IR:=(.seq (.reg r_iI_2)
 (.seq (.cond (.t 9) .skip
 (.exit 0))
 (.seq (.block 1 (.seq (.reg r_iI_3)
 (.seq (.reg r_iI_4)
 (.cond (.t 16) (.seq (.reg r_iI_5)
 .ret)
 .skip))))
 (.reg r_iI_6))))
def r_iI_8:Reg:=⟨[],[⟨.mv (.c (.int .i64 (-1))),some 4,none,[],[]⟩],[],[],false⟩
def ir_iI:IR:=(.seq (.reg r_iI_0)
 (.seq (.seq (.reg r_iI_1)
 (.block 0 (.loop r_iI_l7)))
 (.seq (.reg r_iI_8)
 .ret)))
def res_iI:List RDesc:=[(.tmp 4)]
theorem e_iI_0:EqR r_iI_0 [⟨.mv (.c (.int .i64 0)),some 4,none,[],[]⟩] []:=fun _ _ _=>rfl
theorem e_iI_1:EqR r_iI_1 t_iI_1 []:=fun _ _ _=>rfl
theorem e_iI_2:EqR r_iI_2 [⟨.bin .lss (.t 8) (.t 7),some 9,none,[],[]⟩] []:=fun _ _ _=>rfl
theorem e_iI_3:EqR r_iI_3 [⟨.mv (.t 8),some 10,none,[],[]⟩,⟨.mv (.t 10),some 5,none,[],[]⟩] []:=fun _ _ _=>rfl
theorem e_iI_4:EqR r_iI_4 t_iI_4 [16]:=fun _ _ _=>rfl
theorem e_iI_5:EqR r_iI_5 [⟨.mv (.t 5),some 17,none,[],[]⟩,⟨.mv (.t 17),some 4,none,[],[]⟩] []:=fun _ _ _=>rfl
theorem e_iI_6:EqR r_iI_6 [⟨.bin .add (.t 8) (.c (.int .i64 1)),some 18,none,[],[]⟩,⟨.mv (.t 18),some 8,none,[],[]⟩] []:=fun _ _ _=>rfl
theorem e_iI_8:EqR r_iI_8 [⟨.mv (.c (.int .i64 (-1))),some 4,none,[],[]⟩] []:=fun _ _ _=>rfl
theorem fnm_iI {args:List AV} {r:AV} {H H':Nat->Option Arr} (ha:args.length.ble Tryz.f52.ntmps = true) (h:run (AFn Tryz.prog) ir_iI (endM res_iI r H') (zkp args H)):MFn Tryz.prog 52 args H r H' :=
 MFn.of_code (pv:=false) (hint:=fun _=>[]) (c:=Tryz.f52.body.getD .skip) (by kernel_rfl) (by kernel_rfl) Tryz.func52 (by kernel_rfl) (by kernel_rfl) (by kernel_rfl) (of_decide_eq_true (by kernel_rfl)) (Nat.le_of_ble_eq_true ha) (Nat.le_of_ble_eq_true (by kernel_rfl)) (z09 h)
def r_dI_0:Reg:=⟨[],[⟨.mknil 1 3,some 4,none,[],[]⟩],[4],[],false⟩
def r_dI_1:List XOp:=[(.op [] ⟨.mv (.t 0),some 8,none,[],[]⟩),(.op [] ⟨.mv (.t 1),some 9,none,[],[]⟩),(.wcall 10 (.c (.clo 52 [] [])) [(.t 8),(.t 9)]),(.op [] ⟨.mv (.t 10),some 5,none,[],[]⟩)]
def r_dI_2:Reg:=⟨[],[⟨.mv (.t 5),some 11,none,[],[]⟩,⟨.bin .eql (.t 11) (.c (.int .i64 (-1))),some 12,none,[],[]⟩],[],[],false⟩
def r_dI_3:Reg:=⟨[],[⟨.mv (.t 0),some 13,none,[],[]⟩,⟨.mv (.t 13),some 4,none,[],[]⟩],[],[],false⟩
def t_dI_4:List ROp:=[⟨.mv (.t 5),some 14,none,[],[]⟩,⟨.bin .add (.t 14) (.c (.int .i64 1)),some 15,none,[],[]⟩,⟨.mv (.t 15),some 6,none,[],[]⟩]
def r_dI_4:Reg:=⟨[],t_dI_4,[],[],false⟩
def t_dI_5:List ROp:=[⟨.mv (.t 6),some 16,none,[],[]⟩,⟨.mv (.t 0),some 17,none,[],[]⟩,⟨.len false (.t 17),some 18,none,[],[]⟩,⟨.bin .lss (.t 16) (.t 18),some 19,none,[],[]⟩]
def r_dI_5:Reg:=⟨[],t_dI_5,[],[],false⟩
def t_dI_6:List ROp:=[⟨.mv (.t 0),some 22,none,[],[]⟩,⟨.mv (.t 6),some 23,none,[],[]⟩,⟨.iaddr 1 (.t 22) (.t 23),some 24,none,[],[]⟩,⟨.load 1 false (.t 24),some 25,none,[],[]⟩,⟨.mv (.t 25),some 7,none,[],[]⟩]
def r_dI_6:Reg:=⟨[],t_dI_6,[],[],false⟩
def t_dI_7:List ROp:=[⟨.mv (.t 1),some 26,none,[28],[]⟩,⟨.mv (.t 7),some 27,none,[28],[]⟩,⟨.callv (.t 26) [(.t 27)],some 28,none,[],[]⟩,⟨.un .not (.t 28),some 29,none,[],[]⟩]
def r_dI_7:Reg:=⟨[],t_dI_7,[28],[],false⟩
def t_dI_8:List ROp:=[⟨.mv (.t 0),some 30,none,[],[]⟩,⟨.mv (.t 5),some 31,none,[],[]⟩,⟨.mv (.t 7),some 32,none,[],[]⟩,⟨.iaddr 1 (.t 30) (.t 31),some 33,none,[],[]⟩,⟨.store 1 (.t 33) (.t 32),none,none,[],[]⟩]
def r_dI_8:Reg:=⟨[],t_dI_8,[],[],false⟩
def t_dI_9:List ROp:=[⟨.mv (.t 5),some 34,none,[],[]⟩,⟨.bin .add (.t 34) (.c (.int .i64 1)),some 35,none,[],[]⟩,⟨.mv (.t 35),some 5,none,[],[]⟩]
def r_dI_9:Reg:=⟨[],t_dI_9,[],[],false⟩
def y0b:List ROp:=[⟨.mv (.t 6),some 20,none,[],[]⟩,⟨.bin .add (.t 20) (.c (.int .i64 1)),some 21,none,[],[]⟩,⟨.mv (.t 21),some 6,none,[],[]⟩]
def r_dI_10:Reg:=⟨[],y0b,[],[],false⟩
def y67:IR:=(.seq (.seq (.reg r_dI_5)
 (.cond (.t 19) .skip
 (.exit 0)))
 (.seq (.block 1 (.seq (.reg r_dI_6)
 (.seq (.reg r_dI_7)
 (.cond (.t 29) (.seq (.reg r_dI_8)
 (.reg r_dI_9))
 .skip))))
 (.reg r_dI_10)))
def y0a:List ROp:=[⟨.mv (.t 0),some 36,none,[],[]⟩,⟨.mv (.t 5),some 37,none,[],[]⟩,⟨.slc true 1 (.t 36) (some (.t 37)) none,some 38,none,[],[]⟩,⟨.copy 1 (.t 38) (.c (.int .i64 0)),none,none,[],[]⟩]
def r_dI_12:Reg:=⟨[],y0a,[],[],false⟩
def y09:List ROp:=[⟨.mv (.t 0),some 39,none,[],[]⟩,⟨.mv (.t 5),some 40,none,[],[]⟩,⟨.slc true 1 (.t 39) none (some (.t 40)),some 41,none,[],[]⟩,⟨.mv (.t 41),some 4,none,[],[]⟩]
def r_dI_13:Reg:=⟨[],y09,[],[],false⟩
def ir_dI (P:Program):IR:=(.seq (.reg r_dI_0)
 (.seq (.regx P r_dI_1)
 (.seq (.seq (.reg r_dI_2)
 (.cond (.t 12) (.seq (.reg r_dI_3)
 .ret)
 .skip))
 (.seq (.seq (.reg r_dI_4)
 (.block 0 (.loop y67)))
 (.seq (.reg r_dI_12)
 (.seq (.reg r_dI_13)
 .ret))))))
def res_dI:List RDesc:=[(.tmp 4)]
theorem e_dI_0:EqR r_dI_0 [⟨.mknil 1 3,some 4,none,[],[]⟩] [4]:=fun _ _ _=>rfl
theorem e_dI_2:EqR r_dI_2 [⟨.mv (.t 5),some 11,none,[],[]⟩,⟨.bin .eql (.t 11) (.c (.int .i64 (-1))),some 12,none,[],[]⟩] []:=fun _ _ _=>rfl
theorem e_dI_3:EqR r_dI_3 [⟨.mv (.t 0),some 13,none,[],[]⟩,⟨.mv (.t 13),some 4,none,[],[]⟩] []:=fun _ _ _=>rfl
theorem e_dI_4:EqR r_dI_4 t_dI_4 []:=fun _ _ _=>rfl
theorem e_dI_5:EqR r_dI_5 t_dI_5 []:=fun _ _ _=>rfl
theorem e_dI_6:EqR r_dI_6 t_dI_6 []:=fun _ _ _=>rfl
theorem e_dI_7:EqR r_dI_7 t_dI_7 [28]:=fun _ _ _=>rfl
theorem e_dI_8:EqR r_dI_8 t_dI_8 []:=fun _ _ _=>rfl
theorem e_dI_9:EqR r_dI_9 t_dI_9 []:=fun _ _ _=>rfl
theorem e_dI_10:EqR r_dI_10 y0b []:=fun _ _ _=>rfl
theorem e_dI_12:EqR r_dI_12 y0a []:=fun _ _ _=>rfl
theorem e_dI_13:EqR r_dI_13 y09 []:=fun _ _ _=>rfl
theorem fnm_dI {args:List AV} {r:AV} {H H':Nat->Option Arr} (ha:args.length.ble Tryz.f26.ntmps = true) (h:run (AFn Tryz.prog) (ir_dI Tryz.prog) (endM res_dI r H') (zkp args H)):MFn Tryz.prog 26 args H r H' :=
 MFn.of_code (pv:=true) (hint:=fun i=>if [1].contains i then [1] else []) (c:=Tryz.f26.body.getD .skip) (by kernel_rfl) (by kernel_rfl) Tryz.func26 (by kernel_rfl) (by kernel_rfl) (by kernel_rfl) (of_decide_eq_true (by kernel_rfl)) (Nat.le_of_ble_eq_true ha) (Nat.le_of_ble_eq_true (by kernel_rfl)) (z09 h)
attribute [local go_sem ↓] ir_iI
attribute [local go_sem] res_iI e_iI_0 e_iI_1 t_iI_1 e_iI_2 e_iI_3 e_iI_4 t_iI_4 e_iI_5 e_iI_6 e_iI_8
attribute [local go_sem ↓] ir_dI
attribute [local go_sem] res_dI e_dI_0 e_dI_2 e_dI_3 e_dI_4 t_dI_4 e_dI_5 t_dI_5 e_dI_6 t_dI_6 e_dI_7 t_dI_7 e_dI_8 t_dI_8 e_dI_9 t_dI_9 e_dI_10 y0b e_dI_12 y0a e_dI_13 y09 r_dI_1
theorem zsp {j:Int} (h:-1000000000000000≤j∧j≤1000000000000000):IntKind.i64.wrap j = j:=IntWalk.i64_in _ (by omega)
theorem atI {l:List Int} {j:Nat} {x:Int} (h:l[j]? = some x):(l.map (AV.int .i64)).getD j .und = .int .i64 x:=by
 rw [List.getD_eq_getElem?_getD,List.getElem?_map,h]; rfl
def ObjI (X:List Int):Option Arr:=some ⟨1,3,X.map (AV.int .i64),0⟩
def onlyI (H0 H:Nat->Option Arr) (r:Nat) (X:List Int):Prop:=(∀ q,q ≠ r->H (q + 1000) = H0 q)∧H (r + 1000) = ObjI X
structure Tst where
 f:FuncId
 c:List AV
 p:Int->Bool
def Tst.has (s:Tst) (n:Int):Bool:=s.p n
structure Tst.ok (s:Tst):Prop where
 h:∀ n:Int,AFn Tryz.prog s.f (.int .i64 n :: s.c) (.bool (s.p n))
def clI (s:Tst):AV:=.clo s.f [] s.c
def idxI (s:Tst) (l:List Int):Int:=match l.findIdx? (fun x=>s.has x) with
 | some k=>(k:Int)
 | none=>-1
theorem idxI_none {s:Tst} {l:List Int} (h:∀ x,x ∈ l.take l.length->s.has x = false):idxI s l = -1:=by
 unfold idxI
 rw [List.findIdx?_eq_none_iff.2 (fun x hx=>h x (by rw [List.take_length]; exact hx))]
theorem idxI_some {s:Tst} {l:List Int} {i:Nat} {x:Int} (h:∀ x,x ∈ l.take i->s.has x = false) (hx:l[i]? = some x) (hp:s.has x = true):idxI s l = (i:Int):=by
 unfold idxI
 have hi:=(List.getElem?_eq_some_iff.1 hx).1
 have e:l.findIdx? (fun x=>s.has x) = some i:=by
  rw [List.findIdx?_eq_some_iff_getElem]
  refine ⟨hi,by rw [(List.getElem?_eq_some_iff.1 hx).2]; exact hp,fun j hj=>?_⟩
  rw [h _ (List.mem_iff_getElem?.2 ⟨j,by rw [List.getElem?_take,if_pos hj]; exact List.getElem?_eq_getElem (by omega)⟩)]
  simp
 rw [e]
def iII (s:Tst) (H:Nat->Option Arr) (r:Nat) (l:List Int) (m:Nat) (σ:St):Prop :=
 ∃ i:Nat,i≤l.length∧m = l.length - i∧σ.T 0 = .rs (r + 1000) 0 l.length∧σ.T 1 = clI s∧σ.T 7 = .int .i64 l.length∧σ.T 8 = .int .i64 i∧onlyI H σ.H r l∧∀ x,x ∈ l.take i->s.has x = false
set_option maxHeartbeats 4000000 in
theorem iI_ok (s:Tst) (hs0:s.ok) (H:Nat->Option Arr) (r:Nat) (l:List Int) (hl:l.length≤1000000) (hr:H r = ObjI l) :
  MFn Tryz.prog 52 [.rs r 0 l.length,clI s] H (.int .i64 (idxI s l)) H:=by
 refine fnm_iI rfl ?_
 have hs:(H r).isSome = true:=by rw [hr]; rfl
 simp (maxSteps:=9^7) only [go_sem,evW,retM,clI,sh,hs]
 refine z06 (iII s H r l) (k:=l.length) ⟨0,Nat.zero_le _,rfl,?_,?_,?_,?_,?_,?_⟩ ?_
 iterate 4 focus ((simp (maxSteps:=9^7) only [go_sem,evW,retM,clI,sh]) <;> rfl)
 ·refine ⟨fun q hq=>?_,?_⟩
  iterate 2 focus ((simp (maxSteps:=9^7) only [go_sem,evW,retM,clI,hr]) <;> rfl)
 ·intro x hx; simp at hx
 rintro k σ ⟨i,hi,rfl,t0,t1,t7,t8,hH,hno⟩
 simp only [r_iI_l7]
 have hfin:∀ q,σ.H (q + 1000) = H q:=fun q=>by
  by_cases e:q = r
  ·rw [e,hH.2,hr]
  ·exact hH.1 q e
 by_cases hlt:i < l.length
 case neg =>
  have hlt':¬ (i:Int) < (l.length:Int):=by omega
  have e:i = l.length:=by omega
  subst e
  have e2:=idxI_none hno
  rw [e2]
  simp (maxSteps:=9^7) only [go_sem,evW,retM,clI,t7,t8,hlt']
  exact hfin
 have hlt':(i:Int) < (l.length:Int):=by omega
 obtain ⟨x,hx⟩:∃ x,l[i]? = some x:=⟨_,List.getElem?_eq_getElem hlt⟩
 have hge:=atI hx
 have hX2:=hH.2
 have c:AFn Tryz.prog s.f (.int .i64 x :: s.c) (.bool (s.has x)):=hs0.h x
 unfold ObjI at hX2
 have z0:(0:Int)≤(i:Int):=Int.natCast_nonneg _
 have r16:(r + 1000 == 16) = false:=by simp
 have r16':¬ r + 1000 = 16:=by omega
 have wd:IntKind.i64.wrap ((i:Int) + 1) = ((i + 1:Nat):Int):=by rw [zsp (by omega)]; rfl
 cases hp:s.has x with
 | true =>
  have e2:=idxI_some hno hx hp
  rw [e2]
  rw [hp] at c
  (repeat (first | simp (maxSteps:=9^7) only [go_sem,evW,retM,clI,t0,t1,t7,t8,hlt',hlt,hge,hX2,z0,r16,r16',clI,Int.toNat_natCast,List.length_map] | refine z01 (c) ?_ | refine z00 (c) ?_ | refine And.intro (by omega) ?_ | refine And.intro (fun d hd=>by (repeat (rcases hd with rfl | hd; · exact ⟨rfl,rfl⟩)); cases hd) ?_))
  exact hfin
 | false =>
  rw [hp] at c
  (repeat (first | simp (maxSteps:=9^7) only [go_sem,evW,retM,clI,t0,t1,t7,t8,hlt',hlt,hge,hX2,z0,r16,r16',clI,wd,Int.toNat_natCast,List.length_map] | refine z01 (c) ?_ | refine z00 (c) ?_ | refine And.intro (by omega) ?_ | refine And.intro (fun d hd=>by (repeat (rcases hd with rfl | hd; · exact ⟨rfl,rfl⟩)); cases hd) ?_))
  refine ⟨l.length - (i + 1),by omega,i + 1,hlt,rfl,?_,?_,?_,?_,?_,?_⟩
  iterate 4 focus ((simp (maxSteps:=9^7) only [go_sem,evW,retM,clI,t0,t1,t7,t8,wd]) <;> rfl)
  ·refine ⟨fun q hq=>?_,?_⟩
   ·have q16:¬ q + 1000 = 16:=by omega
    have:=hH.1 q hq
    simp (maxSteps:=9^7) only [go_sem,evW,retM,clI,q16,this]
   ·have:=hH.2
    simp (maxSteps:=9^7) only [go_sem,evW,retM,clI,r16',this]
  ·intro y hy
   rw [List.take_add_one,hx] at hy
   rcases List.mem_append.1 hy with h | h
   ·exact hno y h
   ·simp at h; rw [h]; exact hp
def z5d (s:Tst) (l:List Int):List Int:=l.filter fun x=>!s.has x
theorem zbu {s:Tst} {l:List Int} {j:Nat} {x:Int} (hx:l[j]? = some x):z5d s (l.take (j + 1)) = if s.has x then z5d s (l.take j) else z5d s (l.take j) ++ [x]:=by
 unfold z5d
 rw [List.take_add_one,hx,List.filter_append]
 cases h:s.has x <;> simp [h]
theorem zpl {s:Tst} {l:List Int} (h:∀ x,x ∈ l->s.has x = false):z5d s l = l:=by
 unfold z5d
 rw [List.filter_eq_self]
 intro x hx
 rw [h x hx]; rfl
structure Kept1 (s:Tst) (l X:List Int) (i j:Nat):Prop where
 len:X.length = l.length
 ij:i < j
 jl:j≤l.length
 head:X.take i = z5d s (l.take j)
 tail:X.drop j = l.drop j
theorem Kept1.start {s:Tst} {l:List Int} {i:Nat} {x:Int} (h:∀ x,x ∈ l.take i->s.has x = false) (hx:l[i]? = some x) (hp:s.has x = true):Kept1 s l l i (i + 1) :=
 ⟨rfl,by omega,(List.getElem?_eq_some_iff.1 hx).1,by rw [zbu hx,if_pos hp,zpl h],rfl⟩
theorem Kept1.at_ {s:Tst} {l X:List Int} {i j:Nat} (h:Kept1 s l X i j):X[j]? = l[j]?:=by
 have:=congrArg (fun z=>z[0]?) h.tail
 simpa [List.getElem?_drop] using this
theorem Kept1.skip {s:Tst} {l X:List Int} {i j:Nat} (h:Kept1 s l X i j) {x:Int} (hx:l[j]? = some x) (hp:s.has x = true):Kept1 s l X i (j + 1) :=
 ⟨h.len,by have:=h.ij; omega,(List.getElem?_eq_some_iff.1 hx).1,by rw [zbu hx,if_pos hp]; exact h.head,by
  have:=congrArg (List.drop 1) h.tail
  simpa [List.drop_drop] using this⟩
theorem Kept1.keep {s:Tst} {l X:List Int} {i j:Nat} (h:Kept1 s l X i j) {x:Int} (hx:l[j]? = some x) (hp:s.has x = false):Kept1 s l (X.set i x) (i + 1) (j + 1):=by
 have hj:=(List.getElem?_eq_some_iff.1 hx).1
 have hij:=h.ij
 have hl:=h.len
 refine ⟨by rw [List.length_set]; exact hl,by omega,hj,?_,?_⟩
 ·rw [zbu hx,if_neg (by rw [hp]; simp),← h.head,List.take_add_one,List.take_set_of_le (Nat.le_refl _),List.getElem?_set_self (by omega)]
  rfl
 ·rw [List.drop_set_of_lt (by omega)]
  have:=congrArg (List.drop 1) h.tail
  simpa [List.drop_drop] using this
def dII (s:Tst) (H:Nat->Option Arr) (r:Nat) (l:List Int) (m:Nat) (σ:St):Prop :=
 ∃ (i j:Nat) (X:List Int),Kept1 s l X i j∧m = l.length - j∧σ.T 0 = .rs (r + 1000) 0 l.length∧σ.T 1 = clI s∧σ.T 5 = .int .i64 i∧σ.T 6 = .int .i64 j∧onlyI H σ.H r X
def nulI2:AV:=.int .i64 0
set_option maxHeartbeats 8000000 in
theorem dI_ok (s:Tst) (hs0:s.ok) (H:Nat->Option Arr) (r:Nat) (l:List Int) (hl:l.length≤1000000) (hr:H r = ObjI l) :
  ∃ H',MFn Tryz.prog 26 [.rs r 0 l.length,clI s] H (.sl ((z5d s l).map (AV.int .i64))) H':=by
 have hs:(H r).isSome = true:=by rw [hr]; rfl
 cases hI:l.findIdx? (fun x=>s.has x) with
 | none =>
  have e1:idxI s l = -1:=by unfold idxI; rw [hI]
  have e2:z5d s l = l:=zpl (fun x hx=>List.findIdx?_eq_none_iff.1 hI x hx)
  rw [e2]
  refine ⟨upd H r (some ⟨1,3,l.map (AV.int .i64),l.length⟩),fnm_dI rfl ?_⟩
  simp (maxSteps:=9^7) only [go_sem,evW,retM,clI,sh,hs]
  refine zrw (iI_ok s hs0 _ (r + 1000) l hl ?_) ?_
  ·simp (maxSteps:=9^7) only [go_sem,evW,retM,clI,hr]
  rw [e1]
  simp (maxSteps:=9^7) only [go_sem,evW,retM,clI,hs,hr,ObjI]
  refine ⟨(List.take_of_length_le (by rw [List.length_map]; exact Nat.le_refl _)).symm,fun q=>?_⟩
  rw [List.length_map]
 | some k =>
  obtain ⟨hk,hp,hno⟩:=List.findIdx?_eq_some_iff_getElem.1 hI
  obtain ⟨x,hx⟩:∃ x,l[k]? = some x:=⟨_,List.getElem?_eq_getElem hk⟩
  rw [(List.getElem?_eq_some_iff.1 hx).2] at hp
  have hno':∀ y,y ∈ l.take k->s.has y = false:=by
   intro y hy
   obtain ⟨j,hj⟩:=List.mem_iff_getElem?.1 hy
   rw [List.getElem?_take] at hj
   split at hj
   ·rename_i hjk
    have:=hno j hjk
    rw [(List.getElem?_eq_some_iff.1 hj).2] at this
    simpa using this
   ·cases hj
  have e1:idxI s l = (k:Int):=by unfold idxI; rw [hI]
  have hne:((k:Int) == -1) = false:=beq_eq_false_iff_ne.2 (by omega)
  have w1:IntKind.i64.wrap ((k:Int) + 1) = ((k + 1:Nat):Int):=by rw [zsp (by omega)]; rfl
  refine ⟨upd H r (some ⟨1,3,(z5d s l).map (AV.int .i64) ++ List.replicate (l.length - (z5d s l).length) nulI2,l.length⟩),fnm_dI rfl ?_⟩
  simp (maxSteps:=9^7) only [go_sem,evW,retM,clI,sh,hs]
  refine zrw (iI_ok s hs0 _ (r + 1000) l hl ?_) ?_
  ·simp (maxSteps:=9^7) only [go_sem,evW,retM,clI,hr]
  rw [e1]
  simp (maxSteps:=9^7) only [go_sem,evW,retM,clI,hs,hne,w1]
  refine z06 (dII s H r l) (k:=l.length - (k + 1)) ⟨k,k + 1,l,Kept1.start hno' hx hp,rfl,?_,?_,?_,?_,?_⟩ ?_
  iterate 4 focus ((simp (maxSteps:=9^7) only [go_sem,evW,retM,clI,sh,w1]) <;> rfl)
  ·refine ⟨fun q hq=>?_,?_⟩
   iterate 2 focus ((simp (maxSteps:=9^7) only [go_sem,evW,retM,clI,hr]) <;> rfl)
  clear hx hp hno hno' e1 hne w1 hI hk
  rintro m σ ⟨i,j,X,hK,rfl,t0,t1,t5,t6,hH⟩
  simp only [y67]
  have hX2:=hH.2
  unfold ObjI at hX2
  have hij:=hK.ij
  have hjl:=hK.jl
  have hXl:=hK.len
  have z0:∀ x:Nat,(0:Int)≤(x:Int):=fun x=>Int.natCast_nonneg x
  by_cases hlt:j < l.length
  case neg =>
   have hlt':¬ (j:Int) < (l.length:Int):=by omega
   have e:j = l.length:=by omega
   subst e
   have hkeep:X.take i = z5d s l:=by rw [hK.head,List.take_length]
   have hkl:(z5d s l).length = i:=by rw [← hkeep,List.length_take]; omega
   have hi1:(i:Int)≤(l.length:Int):=by omega
   have hi2:i≤l.length:=by omega
   simp (maxSteps:=9^7) only [go_sem,evW,retM,clI,t0,t5,t6,hlt',hX2,z0,hi1,hi2,Int.toNat_natCast,List.length_map,hXl]
   have e0:(X.map (AV.int .i64)).take i = (z5d s l).map (AV.int .i64):=by rw [← List.map_take,hkeep]
   have e1:(X.map (AV.int .i64)).drop (i + (l.length - i)) = []:=List.drop_eq_nil_of_le (by rw [List.length_map]; omega)
   have e2:((z5d s l).map (AV.int .i64)).length = i:=by rw [List.length_map,hkl]
   rw [e0,e1,List.append_nil]
   refine ⟨by rw [Nat.sub_zero,List.take_append_of_le_length (by omega),List.take_of_length_le (by omega)],fun q=>?_⟩
   by_cases hq:q = r
   ·rw [if_pos hq,if_pos hq,hkl,List.length_append,e2,List.length_replicate,show i + (l.length - i) = l.length by omega]
    rfl
   ·rw [if_neg hq,if_neg hq,if_neg hq]
    exact hH.1 q hq
  have hlt':(j:Int) < (l.length:Int):=by omega
  obtain ⟨x,hx⟩:∃ x,l[j]? = some x:=⟨_,List.getElem?_eq_getElem hlt⟩
  obtain ⟨y,hy⟩:∃ y,X[i]? = some y:=⟨_,List.getElem?_eq_getElem (by omega)⟩
  have hge:=atI (hK.at_.trans hx)
  have hgi:=atI hy
  have hset:(X.map (AV.int .i64)).set i (.int .i64 x) = (X.set i x).map (AV.int .i64):=List.map_set.symm
  have c:AFn Tryz.prog s.f (.int .i64 x :: s.c) (.bool (s.has x)):=hs0.h x
  have hi':i < l.length:=by omega
  have hii:(i:Int) < (l.length:Int):=by omega
  have r28:(r + 1000 == 28) = false:=by simp
  have r28':¬ r + 1000 = 28:=by omega
  have r7:(r + 1000 == 7) = false:=by simp
  have r7':¬ r + 1000 = 7:=by omega
  have wj:IntKind.i64.wrap ((j:Int) + 1) = ((j + 1:Nat):Int):=by rw [zsp (by omega)]; rfl
  have wi:IntKind.i64.wrap ((i:Int) + 1) = ((i + 1:Nat):Int):=by rw [zsp (by omega)]; rfl
  cases hp:s.has x with
  | true =>
   rw [hp] at c
   (repeat (first | simp (maxSteps:=9^7) only [go_sem,evW,retM,clI,t0,t1,t5,t6,hlt',hlt,hge,hX2,hXl,z0,r28,r28',r7,r7',wj,Int.toNat_natCast,List.length_map] | refine z01 (c) ?_ | refine z00 (c) ?_ | refine And.intro (by omega) ?_ | refine And.intro (fun d hd=>by (repeat (rcases hd with rfl | hd; · exact ⟨rfl,rfl⟩)); cases hd) ?_))
   refine ⟨l.length - (j + 1),by omega,i,j + 1,X,hK.skip hx hp,rfl,?_,?_,?_,?_,?_⟩
   iterate 4 focus ((simp (maxSteps:=9^7) only [go_sem,evW,retM,clI,t0,t1,t5,t6,wj]) <;> rfl)
   ·refine ⟨fun q hq=>?_,?_⟩
    ·have q28:¬ q + 1000 = 28:=by omega
     have q7:¬ q + 1000 = 7:=by omega
     have:=hH.1 q hq
     simp (maxSteps:=9^7) only [go_sem,evW,retM,clI,q28,q7,this]
    ·have:=hH.2
     simp (maxSteps:=9^7) only [go_sem,evW,retM,clI,r28',r7',this]
  | false =>
   rw [hp] at c
   (repeat (first | simp (maxSteps:=9^7) only [go_sem,evW,retM,clI,t0,t1,t5,t6,hlt',hlt,hge,hgi,hset,hi',hii,hX2,hXl,z0,r28,r28',r7,r7',wj,wi,Int.toNat_natCast,List.length_map] | refine z01 (c) ?_ | refine z00 (c) ?_ | refine And.intro (by omega) ?_ | refine And.intro (fun d hd=>by (repeat (rcases hd with rfl | hd; · exact ⟨rfl,rfl⟩)); cases hd) ?_))
   refine ⟨l.length - (j + 1),by omega,i + 1,j + 1,X.set i x,hK.keep hx hp,rfl,?_,?_,?_,?_,?_⟩
   iterate 4 focus ((simp (maxSteps:=9^7) only [go_sem,evW,retM,clI,t0,t1,t5,wi,t6,wj]) <;> rfl)
   ·refine ⟨fun q hq=>?_,?_⟩
    ·have q28:¬ q + 1000 = 28:=by omega
     have q7:¬ q + 1000 = 7:=by omega
     have qr:¬ q = r:=hq
     have:=hH.1 q hq
     simp (maxSteps:=9^7) only [go_sem,evW,retM,clI,q28,q7,qr,this]
    ·unfold ObjI
     simp (maxSteps:=9^7) only [go_sem,evW,retM,clI,r28',r7',hX2,hset]
end
section
open Go.RowKit
attribute [local go_sem ↓] z18 z0h
def y6i:Reg:=⟨[],[⟨.mknil 1 3,some 2,none,[],[]⟩],[2],[],false⟩
def y6h:Reg:=⟨[],[⟨.mv (.t 0),some 3,none,[],[]⟩,⟨.nileq false (.t 3),some 4,none,[],[]⟩],[],[],false⟩
def y6g:Reg:=⟨[],[⟨.mknil 1 3,some 2,none,[],[]⟩],[2],[],false⟩
def zrd:List ROp:=[⟨.bsl 1 3 [],some 5,none,[],[]⟩,⟨.mv (.t 0),some 6,none,[],[]⟩,⟨.append 1 3 8 (.t 5) (.t 6),some 7,none,[],[]⟩,⟨.mv (.t 7),some 2,none,[],[]⟩]
def y6f:Reg:=⟨[],zrd,[5],[],false⟩
def ir_clI0:IR:=(.seq (.reg y6i)
 (.seq (.seq (.reg y6h)
 (.cond (.t 4) (.seq (.reg y6g)
 .ret)
 .skip))
 (.seq (.reg y6f)
 .ret)))
def y4g:List RDesc:=[(.tmp 2)]
theorem e_clI0_0:EqR y6i [⟨.mknil 1 3,some 2,none,[],[]⟩] [2]:=fun _ _ _=>rfl
theorem e_clI0_1:EqR y6h [⟨.mv (.t 0),some 3,none,[],[]⟩,⟨.nileq false (.t 3),some 4,none,[],[]⟩] []:=fun _ _ _=>rfl
theorem e_clI0_2:EqR y6g [⟨.mknil 1 3,some 2,none,[],[]⟩] [2]:=fun _ _ _=>rfl
theorem e_clI0_3:EqR y6f zrd [5]:=fun _ _ _=>rfl
theorem fn_clI0 {args:List AV} {r:AV} (ha:args.length.ble Tryz.f55.ntmps = true) (h:run (AFn Tryz.prog) ir_clI0 (endQ y4g r) (z0b args)):AFn Tryz.prog 55 args r :=
 AFn.of_code (pv:=false) (hint:=fun _=>[]) (c:=Tryz.f55.body.getD .skip) (by kernel_rfl) (by kernel_rfl) Tryz.func55 (by kernel_rfl) (by kernel_rfl) (by kernel_rfl) (of_decide_eq_true (by kernel_rfl)) (Nat.le_of_ble_eq_true ha) (Nat.le_of_ble_eq_true (by kernel_rfl)) (z09 h)
def r_rch_0:Reg:=⟨[],[⟨.mv (.c (.cst (.map none))),some 4,none,[],[]⟩],[],[],false⟩
def r_rch_1:List XOp:=[(.mkmap 8 52),(.op [] ⟨.mv (.t 8),some 5,none,[],[]⟩)]
def r_rch_2:List XOp:=[(.op [] ⟨.mv (.t 0),some 9,none,[],[]⟩),(.op [] ⟨.mv (.t 1),some 10,none,[],[]⟩),(.mlook 11 false (.t 9) (.t 10) (.sl []) none),(.op [12] ⟨.callv (.c (.clo 55 [] [])) [(.t 11)],some 12,none,[],[]⟩),(.op [] ⟨.mv (.t 12),some 6,none,[],[]⟩)]
def zzk:List ROp:=[⟨.mv (.t 6),some 13,none,[],[]⟩,⟨.len false (.t 13),some 14,none,[],[]⟩,⟨.bin .gtr (.t 14) (.c (.int .i64 0)),some 15,none,[],[]⟩]
def r_rch_3:Reg:=⟨[],zzk,[],[],false⟩
def zzj:List ROp:=[⟨.mv (.t 6),some 16,none,[],[]⟩,⟨.mv (.t 6),some 17,none,[],[]⟩,⟨.len false (.t 17),some 18,none,[],[]⟩,⟨.bin .sub (.t 18) (.c (.int .i64 1)),some 19,none,[],[]⟩,⟨.iaddr 1 (.t 16) (.t 19),some 20,none,[],[]⟩,⟨.load 1 false (.t 20),some 21,none,[],[]⟩,⟨.mv (.t 21),some 7,none,[],[]⟩]
def r_rch_4:Reg:=⟨[],zzj,[],[],false⟩
def zzi:List ROp:=[⟨.mv (.t 6),some 22,none,[],[]⟩,⟨.mv (.t 6),some 23,none,[],[]⟩,⟨.len false (.t 23),some 24,none,[],[]⟩,⟨.bin .sub (.t 24) (.c (.int .i64 1)),some 25,none,[],[]⟩,⟨.slc false 1 (.t 22) none (some (.t 25)),some 26,none,[],[]⟩,⟨.mv (.t 26),some 6,none,[],[]⟩]
def r_rch_5:Reg:=⟨[],zzi,[],[],false⟩
def r_rch_6:List XOp:=[(.op [] ⟨.mv (.t 5),some 27,none,[],[]⟩),(.op [] ⟨.mv (.t 7),some 28,none,[],[]⟩),(.mlook 29 false (.t 27) (.t 28) (.bool false) none),(.op [] ⟨.un .not (.t 29),some 30,none,[],[]⟩)]
def r_rch_7:List XOp:=[(.op [] ⟨.mv (.t 5),some 31,none,[],[]⟩),(.op [] ⟨.mv (.t 7),some 32,none,[],[]⟩),(.mupd (.t 31) (.t 32) (.c (.bool true)))]
def r_rch_8:List XOp:=[(.op [] ⟨.mv (.t 6),some 33,none,[],[]⟩),(.op [] ⟨.mv (.t 0),some 34,none,[],[]⟩),(.op [] ⟨.mv (.t 7),some 35,none,[],[]⟩),(.mlook 36 false (.t 34) (.t 35) (.sl []) none),(.op [] ⟨.append 1 3 8 (.t 33) (.t 36),some 37,none,[],[]⟩),(.op [] ⟨.mv (.t 37),some 6,none,[],[]⟩)]
def y4m (P:Program):IR:=(.seq (.seq (.reg r_rch_3)
 (.cond (.t 15) .skip
 (.exit 0)))
 (.block 1 (.seq (.reg r_rch_4)
 (.seq (.reg r_rch_5)
 (.seq (.regx P r_rch_6)
 (.cond (.t 30) (.seq (.regx P r_rch_7)
 (.regx P r_rch_8))
 .skip))))))
def y4n:Reg:=⟨[],[⟨.mv (.t 5),some 38,none,[],[]⟩,⟨.mv (.t 38),some 4,none,[],[]⟩],[],[],false⟩
def ir_rch (P:Program):IR:=(.seq (.reg r_rch_0)
 (.seq (.regx P r_rch_1)
 (.seq (.regx P r_rch_2)
 (.seq (.block 0 (.loop (y4m P)))
 (.seq (.reg y4n)
 .ret)))))
def res_rch:List RDesc:=[(.tmp 4)]
theorem e_rch_0:EqR r_rch_0 [⟨.mv (.c (.cst (.map none))),some 4,none,[],[]⟩] []:=fun _ _ _=>rfl
theorem e_rch_3:EqR r_rch_3 zzk []:=fun _ _ _=>rfl
theorem e_rch_4:EqR r_rch_4 zzj []:=fun _ _ _=>rfl
theorem e_rch_5:EqR r_rch_5 zzi []:=fun _ _ _=>rfl
theorem e_rch_10:EqR y4n [⟨.mv (.t 5),some 38,none,[],[]⟩,⟨.mv (.t 38),some 4,none,[],[]⟩] []:=fun _ _ _=>rfl
theorem fn_rch {args:List AV} {r:AV} (ha:args.length.ble Tryz.f30.ntmps = true) (h:run (AFn Tryz.prog) (ir_rch Tryz.prog) (endQ res_rch r) (z0b args)):AFn Tryz.prog 30 args r :=
 AFn.of_code (pv:=false) (hint:=fun _=>[]) (c:=Tryz.f30.body.getD .skip) (by kernel_rfl) (by kernel_rfl) Tryz.func30 (by kernel_rfl) (by kernel_rfl) (by kernel_rfl) (of_decide_eq_true (by kernel_rfl)) (Nat.le_of_ble_eq_true ha) (Nat.le_of_ble_eq_true (by kernel_rfl)) (z09 h)
attribute [local go_sem ↓] ir_clI0
attribute [local go_sem] y4g e_clI0_0 e_clI0_1 e_clI0_2 e_clI0_3 zrd
attribute [local go_sem ↓] ir_rch
attribute [local go_sem] res_rch e_rch_0 e_rch_3 zzk e_rch_4 zzj e_rch_5 zzi e_rch_10 r_rch_1 r_rch_2 r_rch_6 r_rch_7 r_rch_8
theorem clI0_ok (l:List Int) (hl:l.length≤1000000):AFn Tryz.prog 55 [.sl (l.map (AV.int .i64))] (.own 1 3 (l.map (AV.int .i64))):=by
 refine fn_clI0 rfl ?_
 have h2:∀ d,d ∈ l.map (AV.int .i64)->d.cells.length = 1∧d.cells.all AV.one = true:=fun d hd=>by
  obtain ⟨x,_,rfl⟩:=List.mem_map.1 hd; exact ⟨rfl,rfl⟩
 simp (maxSteps:=9^7) only [go_sem,evM,z07.eq_1,z07.eq_2,ents.eq_1,ents.eq_2,mpOk,kI,mpR,remT,remp,z8c,List.length_map]
 refine ⟨fun h=>?_,⟨by omega,by omega⟩,h2⟩
 cases l with
 | nil=>rfl
 | cons x l=>cases h
def dfsF (l:List Edge):Nat->List Int->List Int->List Int
 | 0,seen,_=>seen
 | k + 1,seen,todo=>match todo.getLast? with
  | none=>seen
  | some n=>if n ∈ seen then dfsF l k seen todo.dropLast else dfsF l k (seen ++ [n]) (todo.dropLast ++ outs l n)
def zri (l:List Edge) (a:Int):List Int:=dfsF l (dfsM l [] (outs l a) + 1) [] (outs l a)
theorem y87 {l:List Edge} {k:Nat} {seen:List Int}:dfsF l (k + 1) seen [] = seen:=rfl
theorem z96 {l:List Edge} {k:Nat} {seen t:List Int} {n:Int} (hn:n ∈ seen):dfsF l (k + 1) seen (t ++ [n]) = dfsF l k seen t:=by
 rw [dfsF]; simp [hn]
theorem z97 {l:List Edge} {k:Nat} {seen t:List Int} {n:Int} (hn:n ∉ seen):dfsF l (k + 1) seen (t ++ [n]) = dfsF l k (seen ++ [n]) (t ++ outs l n):=by
 rw [dfsF]; simp [hn]
theorem zcc {l:List Edge}:∀ (j i:Nat) (seen todo:List Int),dfsM l seen todo < j->dfsM l seen todo < i->dfsF l j seen todo = dfsF l i seen todo
 | 0,_,_,_,h,_=>absurd h (Nat.not_lt_zero _)
 | _,0,_,_,_,h=>absurd h (Nat.not_lt_zero _)
 | j + 1,i + 1,seen,todo,h1,h2=>by
  rcases List.eq_nil_or_concat todo with e | ⟨t,n,e⟩
  ·subst e; rfl
  ·rw [List.concat_eq_append] at e
   subst e
   by_cases hn:n ∈ seen
   ·have hs:=zdu (l:=l) (n:=n) (seen:=seen) (t:=t)
    rw [z96 hn,z96 hn]
    exact zcc j i seen t (by omega) (by omega)
   ·have hs:=zsb (l:=l) (t:=t) hn
    rw [z97 hn,z97 hn]
    exact zcc j i _ _ (by omega) (by omega)
theorem zt4 {s:List Int} {n:Int}:lkV false (.bool false) (lkp (zg2 s) n) = .bool (decide (n ∈ s)):=by
 rw [y6w]
 by_cases h:n ∈ s
 ·rw [if_pos h]; simp [lkV,h]
 ·rw [if_neg h]; simp [lkV,h]
theorem wrapM (j:Nat) (h:j≤100000000):IntKind.i64.wrap (((j + 1:Nat):Int) - 1) = (j:Int):=by rw [zsp (by omega)]; omega
def rchI (l:List Edge) (a:Int) (R:List Int) (m:Nat) (σ:St):Prop :=
 ∃ seen todo junk:List Int,Dfs l a seen todo∧m = dfsM l seen todo∧(∀ j,m < j->dfsF l j seen todo = R)∧σ.T 0 = .mv (avE (grL l))∧σ.T 5 = .mp 8 (zg2 seen)∧(σ.H 8).isSome = true ∧
  σ.T 6 = .rs 12 0 todo.length∧σ.H 12 = some ⟨1,3,(todo ++ junk).map (AV.int .i64),0⟩∧todo.length + (l.filter fun e=>!seen.contains e.1).length≤1000000
set_option maxHeartbeats 8000000 in
theorem rch_ok (l:List Edge) (a:Int) (hl:l.length≤400000):AFn Tryz.prog 30 [.mv (avE (grL l)),.int .i64 a] (.mv (zg2 (zri l a))):=by
 refine fn_rch rfl ?_
 have hol:(outs l a).length≤l.length:=by unfold outs; rw [List.length_map]; exact List.length_filter_le _ _
 have c1:=clI0_ok (outs l a) (by omega)
 have hlk:lkV false (.sl []) (lkp (avE (grL l)) a) = z8c (outs l a):=by rw [y6v,(zjp l).look]
 (repeat (first | simp (maxSteps:=9^7) only [go_sem,evM,z07.eq_1,z07.eq_2,ents.eq_1,ents.eq_2,mpOk,kI,mpR,remT,remp,z8c,hlk,List.length_map] | refine z01 (c1) ?_ | refine z00 (c1) ?_ | refine And.intro (by omega) ?_ | refine And.intro (fun d hd=>by (repeat (rcases hd with rfl | hd; · exact ⟨rfl,rfl⟩)); cases hd) ?_))
 refine z06 (rchI l a (zri l a)) (k:=dfsM l [] (outs l a)) ⟨[],outs l a,[],Dfs.start l a,rfl,fun j hj=>zcc _ _ _ _ hj (Nat.lt_succ_self _),?_,?_,?_,?_,?_,?_⟩ ?_
 iterate 5 focus ((simp (maxSteps:=9^7) only [go_sem,evM,z07.eq_1,z07.eq_2,ents.eq_1,ents.eq_2,mpOk,kI,mpR,remT,remp,z8c,List.append_nil]) <;> rfl)
 ·have:=List.length_filter_le (fun e:Edge=>!([]:List Int).contains e.1) l
  omega
 rintro m σ ⟨seen,todo,junk,hD,rfl,hR,t0,t5,h8,t6,h12,hfit⟩
 simp only [y4m]
 obtain ⟨R,hRR⟩:∃ R,zri l a = R:=⟨_,rfl⟩
 rw [hRR] at hR ⊢
 rcases List.eq_nil_or_concat todo with e | ⟨t,n,e⟩
 ·subst e
  have hr:=hR _ (Nat.lt_succ_self _)
  rw [y87] at hr
  subst hr
  have z1:¬ (0:Int) < ((0:Nat):Int):=by decide
  simp only [List.length_nil] at t6
  simp (maxSteps:=9^7) only [go_sem,evM,z07.eq_1,z07.eq_2,ents.eq_1,ents.eq_2,mpOk,kI,mpR,remT,remp,z8c,t5,h8,t6,h12,z1]
 rw [List.concat_eq_append] at e
 subst e
 have hol:(outs l n).length≤l.length:=by unfold outs; rw [List.length_map]; exact List.length_filter_le _ _
 have hlk:lkV false (.sl []) (lkp (avE (grL l)) n) = z8c (outs l n):=by rw [y6v,(zjp l).look]
 have hsk:lkV false (.bool false) (lkp (zg2 seen) n) = .bool (decide (n ∈ seen)):=zt4
 obtain ⟨q,hq⟩:∃ q,t.length = q:=⟨_,rfl⟩
 have hql:(t ++ [n]).length = q + 1:=by rw [List.length_append,hq]; rfl
 rw [hql] at t6 hfit
 have gz:(0:Int) < ((q + 1:Nat):Int):=by omega
 have hw:=wrapM q (by omega)
 have hge:((t ++ [n] ++ junk).map (AV.int .i64)).getD q .und = .int .i64 n:=atI (by rw [List.append_assoc,List.getElem?_append_right (by omega),hq,Nat.sub_self]; rfl)
 have hcl:q < ((t ++ [n] ++ junk).map (AV.int .i64)).length:=by simp; omega
 have hqi:(q:Int) < ((q + 1:Nat):Int):=by omega
 have z0:(0:Int)≤(q:Int):=Int.natCast_nonneg _
 have hq1:q≤q + 1:=by omega
 cases hn:decide (n ∈ seen) with
 | true =>
  have hn':n ∈ seen:=by simpa using hn
  rw [hn] at hsk
  simp (maxSteps:=9^7) only [go_sem,evM,z07.eq_1,z07.eq_2,ents.eq_1,ents.eq_2,mpOk,kI,mpR,remT,remp,z8c,t0,t5,h8,t6,h12,gz,hw,hge,hcl,hqi,z0,hq1,hsk,Int.toNat_natCast]
  (repeat refine And.intro (by omega) ?_)
  refine ⟨dfsM l seen t,zdu,seen,t,[n] ++ junk,hD.skip hn',rfl,fun j hj=>?_,?_,?_,?_,?_,?_,?_⟩
  ·rw [← hR (j + 1) (by have:=zdu (l:=l) (n:=n) (seen:=seen) (t:=t); unfold dfsM at *; simp only [List.length_append,List.length_cons,List.length_nil] at *; omega),z96 hn']
  iterate 5 focus ((simp (maxSteps:=9^7) only [go_sem,evM,z07.eq_1,z07.eq_2,ents.eq_1,ents.eq_2,mpOk,kI,mpR,remT,remp,z8c,t0,t5,h8,hq,h12,List.append_assoc]) <;> rfl)
  ·omega
 | false =>
  have hn':n ∉ seen:=by simpa using hn
  rw [hn] at hsk
  have hup:=y41 hn'
  simp (maxSteps:=9^7) only [go_sem,evM,z07.eq_1,z07.eq_2,ents.eq_1,ents.eq_2,mpOk,kI,mpR,remT,remp,z8c,t0,t5,h8,t6,h12,gz,hw,hge,hcl,hqi,z0,hq1,hsk,hlk,hup,Int.toNat_natCast]
  have hless:=zsb (l:=l) (n:=n) (seen:=seen) (t:=t) hn'
  have hlen2:(t ++ outs l n).length = q + (outs l n).length:=by rw [List.length_append,hq]
  have htk:((t ++ [n] ++ junk).map (AV.int .i64)).take q ++ (outs l n).map (AV.int .i64) = ((t ++ outs l n) ++ []).map (AV.int .i64):=by
   rw [← List.map_take,List.append_assoc,List.take_append_of_le_length (by omega),List.take_of_length_le (by omega),List.append_nil,List.map_append]
  refine ⟨⟨by rw [List.length_map]; omega,fun d hd=>?_⟩,dfsM l (seen ++ [n]) (t ++ outs l n),hless,seen ++ [n],t ++ outs l n,[],hD.mark hn',rfl,fun j hj=>?_,?_,?_,?_,?_,?_,?_⟩
  ·obtain ⟨x,_,rfl⟩:=List.mem_map.1 hd; exact ⟨rfl,rfl⟩
  ·rw [← hR (j + 1) (by
    have h9:=dfs_eq (l:=l) (t:=t) hn'
    omega),z97 hn']
  iterate 5 focus ((simp (maxSteps:=9^7) only [go_sem,evM,z07.eq_1,z07.eq_2,ents.eq_1,ents.eq_2,mpOk,kI,mpR,remT,remp,z8c,t0,t5,h8,hlen2,List.length_map,h12,htk,Nat.zero_add]) <;> rfl)
  ·unfold dfsM at hless
   simp only [List.length_append,List.length_cons,List.length_nil] at hless ⊢
   omega
theorem mem_seenL {l:List Edge} {a b:Int}:b ∈ zri l a ↔ TC l a b:=by
 have key:∀ (j:Nat) (seen todo:List Int),Dfs l a seen todo->dfsM l seen todo < j->∀ b,b ∈ dfsF l j seen todo ↔ TC l a b:=by
  intro j
  induction j with
  | zero=>intro seen todo _ h; exact absurd h (Nat.not_lt_zero _)
  | succ j ih =>
   intro seen todo hD hj
   rcases List.eq_nil_or_concat todo with e | ⟨t,n,e⟩
   ·subst e
    rw [y87]
    exact hD.done
   ·rw [List.concat_eq_append] at e
    subst e
    by_cases hn:n ∈ seen
    ·have hs:=zdu (l:=l) (n:=n) (seen:=seen) (t:=t)
     rw [z96 hn]
     exact ih _ _ (hD.skip hn) (by omega)
    ·have hs:=zsb (l:=l) (t:=t) hn
     rw [z97 hn]
     exact ih _ _ (hD.mark hn) (by omega)
 exact key _ _ _ (Dfs.start l a) (Nat.lt_succ_self _) b
end
end Go.Proofs.YtlhblpbfhfhlpaaGreat
