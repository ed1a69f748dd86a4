/-
  Part 17 of a proof: ShL, ShQ, ShT, ShU, ShV, ShW, ShX, ShY, ShZ.
-/
import Derived.RangeFuncNested
import Derived.RangeFuncLeaves
import Derived.Shelf.Abstract
import Derived.WalkKit
import Derived.OwnWalkIn
import Derived.TacticsInMore
import Derived.LoopNIn
import Derived.LoopIn
import Derived.Maps.OwnIn
import Derived.Maps.AppendAt
import Derived.RangeFuncBox
import Derived.Deep.AppendLies
import Derived.Deep.RegionHeldLaw
import Derived.Deep.CutRange
import Derived.Test.YtkfciapeikkmfaaDoorST16
set_option linter.unusedVariables false
set_option linter.unusedSimpArgs false
set_option maxRecDepth 100000
namespace Go.Proofs.YtkfciapeikkmfaaDoor
section
open Go.RowKit
attribute [local go_sem ↓] z1m z0h
def zof:Reg:=⟨[],[⟨.box 5 37 (.t 0),some 3,none,[],[]⟩,⟨.mv (.c (.bool false)),some 6,none,[],[]⟩],[3],[],false⟩
def za8:List ROp:=[⟨.load 5 true (.t 3),some 12,none,[14],[]⟩,⟨.mv (.t 1),some 13,none,[14],[]⟩,⟨.callv (.c (.clo 10 [] [])) [(.t 12),(.t 13),(.c (.int .i64 40))],some 14,none,[],[]⟩,⟨.un .not (.t 14),some 15,none,[],[]⟩]
def zoe:Reg:=⟨[],za8,[14],[],false⟩
def zod:Reg:=⟨[],[⟨.callv (.c (.clo 7 [] [])) [],some 16,none,[],[]⟩,⟨.mv (.t 16),some 6,none,[],[]⟩],[16],[],false⟩
def za7:List ROp:=[⟨.mv (.t 1),some 18,none,[19],[]⟩,⟨.callv (.c (.clo 11 [] [])) [(.t 18),(.c (.int .i64 0))],some 19,none,[],[]⟩,⟨.mv (.t 19),some 17,none,[],[]⟩,⟨.ext 0 (.t 17),some 20,none,[],[]⟩,⟨.ext 1 (.t 17),some 21,none,[],[]⟩,⟨.mv (.t 20),some 7,none,[],[]⟩,⟨.mv (.t 21),some 8,none,[],[]⟩]
def zoc:Reg:=⟨[],za7,[19],[],false⟩
def zob:Reg:=⟨[],[⟨.mv (.c (.str ⟨#[]⟩)),some 9,none,[],[]⟩],[],[],false⟩
def za6:List ROp:=[⟨.mv (.t 7),some 22,none,[],[]⟩,⟨.len false (.t 22),some 23,none,[],[]⟩,⟨.mv (.c (.int .i64 0)),some 24,none,[],[]⟩]
def zoa:Reg:=⟨[],za6,[],[],false⟩
def zo9:Reg:=⟨[],[⟨.bin .lss (.t 24) (.t 23),some 25,none,[],[]⟩],[],[],false⟩
def za5:List ROp:=[⟨.iaddr 14 (.t 22) (.t 24),some 26,none,[11],[]⟩,⟨.load 14 true (.t 26),some 27,none,[11],[]⟩,⟨.alloc 14 43 (.agg [(.int .i64 0),(.int .i64 0),(.sl []),(.sl []),(.str ⟨#[]⟩),(.bool false),(.int .i64 0),(.int .i64 0),(.sl []),(.sl []),(.str ⟨#[]⟩),(.str ⟨#[]⟩),(.bool false),(.sl [])]),some 11,none,[],[]⟩,⟨.store 14 (.t 11) (.t 27),none,none,[],[]⟩]
def zo8:Reg:=⟨[],za5,[11],[],false⟩
def za4:List ROp:=[⟨.faddr 0 (.t 11),some 28,none,[],[]⟩,⟨.faddr 1 (.t 28),some 29,none,[],[]⟩,⟨.load 1 false (.t 29),some 30,none,[],[]⟩,⟨.mv (.t 2),some 31,none,[],[]⟩,⟨.bin .neq (.t 30) (.t 31),some 32,none,[],[]⟩]
def zo7:Reg:=⟨[],za4,[],[],false⟩
def zo6:Reg:=⟨[],[⟨.mv (.t 9),some 33,none,[],[]⟩,⟨.bin .neq (.t 33) (.c (.str ⟨#[]⟩)),some 34,none,[],[]⟩],[],[],false⟩
def z7g:List ROp:=[⟨.mv (.t 9),some 35,none,[],[]⟩,⟨.bin .add (.t 35) (.c (.str ⟨#[32]⟩)),some 36,none,[],[]⟩,⟨.mv (.t 36),some 9,none,[],[]⟩]
def zin:Reg:=⟨[],z7g,[],[],false⟩
def z7f:List ROp:=[⟨.mv (.t 9),some 37,none,[41],[]⟩,⟨.faddr 0 (.t 11),some 38,none,[41],[]⟩,⟨.faddr 0 (.t 38),some 39,none,[41],[]⟩,⟨.load 1 false (.t 39),some 40,none,[41],[]⟩,⟨.callv (.c (.clo 12 [] [])) [(.t 40)],some 41,none,[],[]⟩,⟨.bin .add (.t 41) (.c (.str ⟨#[58]⟩)),some 42,none,[],[]⟩,⟨.bin .add (.t 37) (.t 42),some 43,none,[],[]⟩,⟨.mv (.t 43),some 9,none,[],[]⟩]
def zim:Reg:=⟨[],z7f,[41],[],false⟩
def z7e:List ROp:=[⟨.faddr 0 (.t 11),some 44,none,[],[]⟩,⟨.faddr 5 (.t 44),some 45,none,[],[]⟩,⟨.load 1 false (.t 45),some 46,none,[],[]⟩]
def zil:Reg:=⟨[],z7e,[],[],false⟩
def z7d:List ROp:=[⟨.mv (.t 9),some 47,none,[],[]⟩,⟨.bin .add (.t 47) (.c (.str ⟨#[42]⟩)),some 48,none,[],[]⟩,⟨.mv (.t 48),some 9,none,[],[]⟩]
def zik:Reg:=⟨[],z7d,[],[],false⟩
def z7c:List ROp:=[⟨.mv (.t 9),some 49,none,[53],[]⟩,⟨.faddr 0 (.t 11),some 50,none,[53],[]⟩,⟨.faddr 4 (.t 50),some 51,none,[53],[]⟩,⟨.load 1 false (.t 51),some 52,none,[53],[]⟩,⟨.callv (.c (.clo 13 [] [])) [(.t 52)],some 53,none,[],[]⟩,⟨.bin .add (.t 49) (.t 53),some 54,none,[],[]⟩,⟨.mv (.t 54),some 9,none,[],[]⟩]
def zij:Reg:=⟨[],z7c,[53],[],false⟩
def zii:Reg:=⟨[],[⟨.bin .add (.t 24) (.c (.int .i64 1)),some 55,none,[],[]⟩,⟨.mv (.t 55),some 24,none,[],[]⟩],[],[],false⟩
def ze5:IR:=(.seq (.reg zo9)
 (.seq (.cond (.t 25) .skip
 (.exit 0))
 (.seq (.block 1 (.seq (.reg zo8)
 (.seq (.seq (.reg zo7)
 (.cond (.t 32) (.exit 1)
 .skip))
 (.seq (.seq (.reg zo6)
 (.cond (.t 34) (.reg zin)
 .skip))
 (.seq (.reg zim)
 (.seq (.reg zil)
 (.cond (.t 46) (.reg zik)
 (.reg zij))))))))
 (.reg zii))))
def z7b:List ROp:=[⟨.mv (.t 1),some 56,none,[57,59,60,64,69],[]⟩,⟨.callv (.c (.clo 15 [] [])) [(.t 56)],some 57,none,[59,60,64,69],[]⟩,⟨.mv (.t 7),some 58,none,[59,60,64,69],[]⟩,⟨.callv (.c (.clo 16 [] [])) [(.t 58),(.c (.int .i64 0)),(.c (.int .i64 0))],some 59,none,[60,64,69],[]⟩,⟨.callv (.c (.clo 14 [] [])) [(.t 57),(.t 59)],some 60,none,[64,69],[]⟩,⟨.mv (.t 60),some 61,none,[64,69],[]⟩,⟨.mv (.t 1),some 62,(some (61,true)),[64,69],[]⟩,⟨.mv (.t 2),some 63,(some (61,true)),[64,69],[]⟩,⟨.callv (.c (.clo 17 [] [])) [(.t 62),(.t 63)],some 64,(some (61,true)),[69],[]⟩,⟨.mv (.t 9),some 65,(some (61,true)),[69],[]⟩,⟨.bin .eql (.t 64) (.t 65),some 66,(some (61,true)),[69],[]⟩,⟨.pick (.t 61) (.t 66) (.c (.bool false)),some 67,none,[69],[]⟩,⟨.mv (.t 67),some 68,none,[69],[]⟩,⟨.callv (.c (.clo 7 [] [])) [],some 69,(some (68,true)),[],[]⟩,⟨.pick (.t 68) (.t 69) (.c (.bool false)),some 70,none,[],[]⟩,⟨.mv (.t 70),some 6,none,[],[]⟩]
def zih:Reg:=⟨[],z7b,[57,59,60,64,69],[],false⟩
def y12:IR:=(.seq (.reg zof)
 (.seq (.seq (.reg zoe)
 (.cond (.t 15) (.seq (.reg zod)
 .ret)
 .skip))
 (.seq (.reg zoc)
 (.seq (.reg zob)
 (.seq (.seq (.reg zoa)
 (.block 0 (.loop ze5)))
 (.seq (.reg zih)
 .ret))))))
def znn:List RDesc:=[(.tmp 6)]
theorem e_treesL_0:EqR zof [⟨.box 5 37 (.t 0),some 3,none,[],[]⟩,⟨.mv (.c (.bool false)),some 6,none,[],[]⟩] [3]:=fun _ _ _=>rfl
theorem e_treesL_1:EqR zoe za8 [14]:=fun _ _ _=>rfl
theorem e_treesL_2:EqR zod [⟨.callv (.c (.clo 7 [] [])) [],some 16,none,[],[]⟩,⟨.mv (.t 16),some 6,none,[],[]⟩] [16]:=fun _ _ _=>rfl
theorem e_treesL_3:EqR zoc za7 [19]:=fun _ _ _=>rfl
theorem e_treesL_4:EqR zob [⟨.mv (.c (.str ⟨#[]⟩)),some 9,none,[],[]⟩] []:=fun _ _ _=>rfl
theorem e_treesL_5:EqR zoa za6 []:=fun _ _ _=>rfl
theorem e_treesL_6:EqR zo9 [⟨.bin .lss (.t 24) (.t 23),some 25,none,[],[]⟩] []:=fun _ _ _=>rfl
theorem e_treesL_7:EqR zo8 za5 [11]:=fun _ _ _=>rfl
theorem e_treesL_8:EqR zo7 za4 []:=fun _ _ _=>rfl
theorem e_treesL_9:EqR zo6 [⟨.mv (.t 9),some 33,none,[],[]⟩,⟨.bin .neq (.t 33) (.c (.str ⟨#[]⟩)),some 34,none,[],[]⟩] []:=fun _ _ _=>rfl
theorem y47:EqR zin z7g []:=fun _ _ _=>rfl
theorem y46:EqR zim z7f [41]:=fun _ _ _=>rfl
theorem y45:EqR zil z7e []:=fun _ _ _=>rfl
theorem y44:EqR zik z7d []:=fun _ _ _=>rfl
theorem y43:EqR zij z7c [53]:=fun _ _ _=>rfl
theorem y42:EqR zii [⟨.bin .add (.t 24) (.c (.int .i64 1)),some 55,none,[],[]⟩,⟨.mv (.t 55),some 24,none,[],[]⟩] []:=fun _ _ _=>rfl
theorem y41:EqR zih z7b [57,59,60,64,69]:=fun _ _ _=>rfl
theorem fn_treesL {args:List AV} {r:AV} (ha:args.length.ble Tryd.f4.ntmps = true) (h:run (AFn Tryd.prog) y12 (endQ znn r) (z0a args)):AFn Tryd.prog 4 args r :=
 AFn.of_code (pv:=false) (hint:=fun _=>[]) (c:=Tryd.f4.body.getD .skip) (by kernel_rfl) (by kernel_rfl) Tryd.func4 (by kernel_rfl) (by kernel_rfl) (by kernel_rfl) (of_decide_eq_true (by kernel_rfl)) (Nat.le_of_ble_eq_true ha) (Nat.le_of_ble_eq_true (by kernel_rfl)) (z0b h)
attribute [local go_sem ↓] y12
attribute [local go_sem] znn e_treesL_0 e_treesL_1 za8 e_treesL_2 e_treesL_3 za7 e_treesL_4 e_treesL_5 za6 e_treesL_6 e_treesL_7 za5 e_treesL_8 za4 e_treesL_9 y47 z7g y46 z7f y45 z7e y44 z7d y43 z7c y42 y41 z7b
def lvW (level:Int) (S:List Seat):List ByteArray:=(S.filter fun x=>decide (x.n.level = level)).map fun x=>levW x.n
def lvJ (level:Int) (S:List Seat):ByteArray:=z8u (lvW level S) (⟨#[32]⟩:ByteArray)
theorem lvW_next {level:Int} {S:List Seat} {i:Nat} {x:Seat} (h:S[i]? = some x):lvW level (S.take (i + 1)) = lvW level (S.take i) ++ (if x.n.level = level then [levW x.n] else []):=by
 unfold lvW
 rw [za3 h,List.filter_append,List.map_append]
 by_cases q:x.n.level = level
 ·simp [q]
 ·simp [q]
theorem levW_pos (n:Nd):0 < (levW n).size:=by
 unfold levW
 have e:(⟨#[58]⟩:ByteArray).size = 1:=rfl
 simp only [ByteArray.size_append,e]; omega
theorem joinB_pos {x:ByteArray} {l:List ByteArray} {s:ByteArray} (h:0 < x.size):0 < (z8u (x :: l) s).size:=by
 have e:(z8u (x :: l) s).size = (Lib.join ((x :: l).map (·.data.toList)) s.data.toList).length:=rfl
 rw [e,List.map_cons,Lib.join_cons,List.length_append]
 have:x.data.toList.length = x.size:=by rw [Array.length_toList]; rfl
 omega
theorem lvW_cases (level:Int) (S:List Seat):lvW level S = []∨0 < (lvJ level S).size:=by
 unfold lvJ
 cases e:lvW level S with
 | nil=>exact .inl rfl
 | cons w r =>
  refine .inr (joinB_pos ?_)
  have:w ∈ lvW level S:=by rw [e]; exact List.mem_cons_self ..
  unfold lvW at this
  obtain ⟨x,_,rfl⟩:=List.mem_map.1 this
  exact levW_pos x.n
theorem lvW_mem {level:Int} {S:List Seat} {w:ByteArray} (h:w ∈ lvW level S):∃ x,x ∈ S∧w = levW x.n:=by
 unfold lvW at h
 obtain ⟨x,hx,rfl⟩:=List.mem_map.1 h
 exact ⟨x,(List.mem_filter.1 hx).1,rfl⟩
theorem lvJ_size (level:Int) (S:List Seat) (hl:S.length≤200) (h:∀ x,x ∈ S->(-9223372036854775808≤x.n.slot∧x.n.slot≤9223372036854775807)∧x.n.high.size≤2000):(lvJ level S).size≤200 * 6101:=by
 have hb:=ztg (⟨#[32]⟩:ByteArray) 6101 (lvW level S) (fun y hy=>by
  obtain ⟨x,hx,rfl⟩:=lvW_mem hy
  have:=y0v x.n (h x hx).1 (h x hx).2
  show _ + 1≤_
  omega)
 have hn:(lvW level S).length≤200:=by
  unfold lvW
  rw [List.length_map]
  have:=List.length_filter_le (fun x:Seat=>decide (x.n.level = level)) S
  omega
 have:=Nat.mul_le_mul_right 6101 hn
 unfold lvJ
 omega
def tlInv (l:List Nd) (S:List Seat) (level:Int) (k:Nat) (σ:St):Prop :=
 ∃ i:Nat,i≤S.length∧k = S.length - i∧σ.T 1 = .sl (l.map Nd.a)∧σ.T 2 = .int .i64 level∧σ.T 7 = .sl (S.map Seat.a)∧σ.T 22 = .sl (S.map Seat.a)∧σ.T 23 = .int .i64 S.length∧σ.T 24 = .int .i64 i∧σ.T 9 = .str (lvJ level (S.take i))
set_option maxHeartbeats 4000000 in
theorem y2n (aw:AFn Tryd.prog 7 [] (.bool true)) (c:Cfg) (l:List Nd) (level:Int) (B:Bool) (S:List Seat) (T:List ByteArray)
  (k1:AFn Tryd.prog 10 [c.a,.sl (l.map Nd.a),.int .i64 40] (.bool B))
  (k2:B = true->AFn Tryd.prog 11 [.sl (l.map Nd.a),.int .i64 0] (.tup [.sl (S.map Seat.a),.bool true]))
  (k3:B = true->AFn Tryd.prog 15 [.sl (l.map Nd.a)] (.sl (T.map .str)))
  (k4:B = true->AFn Tryd.prog 16 [.sl (S.map Seat.a),.int .i64 0,.int .i64 0] (.own 1 9 (T.map .str)))
  (k5:B = true->AFn Tryd.prog 17 [.sl (l.map Nd.a),.int .i64 level] (.str (lvJ level S)))
  (hS:B = true->S.length≤200∧∀ x,x ∈ S->(-9223372036854775808≤x.n.slot∧x.n.slot≤9223372036854775807)∧x.n.high.size≤2000) (hT:B = true->T.length≤1000000) :
  AFn Tryd.prog 4 [c.a,.sl (l.map Nd.a),.int .i64 level] (.bool true):=by
 refine fn_treesL rfl ?_
 simp only [Cfg.a] at k1
 cases B with
 | false=>(repeat (first | simp (maxSteps:=9^7) only [go_sem,↓reduceIte,reduceCtorEq,Nat.reduceEqDiff,Nat.reduceBEq,Nat.reduceAdd,Nat.reduceSub,Nat.reduceMul,Nat.reduceLT,Nat.reduceLeDiff,Nat.reduceBNe,Int.reduceBEq,Int.reduceBNe,Int.reduceLT,Int.reduceLE,Cfg.a,Spn.a,Msg.a,Par.a,Nd.a,Seat.a] | refine z01 (k1) ?_ | refine z00 (k1) ?_ | refine z01 (aw) ?_ | refine z00 (aw) ?_ | refine And.intro (by omega) ?_ | refine And.intro (fun d hd=>by (repeat (rcases hd with rfl | hd; · exact ⟨rfl,rfl⟩)); cases hd) ?_))
 | true =>
  have k2:=k2 rfl
  have k3:=k3 rfl
  have k4:=k4 rfl
  have k5:=k5 rfl
  obtain ⟨hl,hx0⟩:=hS rfl
  have hT:=hT rfl
  (repeat (first | simp (maxSteps:=9^7) only [go_sem,↓reduceIte,reduceCtorEq,Nat.reduceEqDiff,Nat.reduceBEq,Nat.reduceAdd,Nat.reduceSub,Nat.reduceMul,Nat.reduceLT,Nat.reduceLeDiff,Nat.reduceBNe,Int.reduceBEq,Int.reduceBNe,Int.reduceLT,Int.reduceLE,Cfg.a,Spn.a,Msg.a,Par.a,Nd.a,Seat.a,List.length_map] | refine z01 (k1) ?_ | refine z00 (k1) ?_ | refine z01 (k2) ?_ | refine z00 (k2) ?_ | refine And.intro (by omega) ?_ | refine And.intro (fun d hd=>by (repeat (rcases hd with rfl | hd; · exact ⟨rfl,rfl⟩)); cases hd) ?_))
  refine z08 (tlInv l S level) (k:=S.length) ⟨0,by omega,rfl,?_,?_,?_,?_,?_,?_,?_⟩ ?_ <;> try (simp (maxSteps:=9^7) only [go_sem,↓reduceIte,reduceCtorEq,Nat.reduceEqDiff,Nat.reduceBEq,Nat.reduceAdd,Nat.reduceSub,Nat.reduceMul,Nat.reduceLT,Nat.reduceLeDiff,Nat.reduceBNe,Int.reduceBEq,Int.reduceBNe,Int.reduceLT,Int.reduceLE,Cfg.a,Spn.a,Msg.a,Par.a,Nd.a,Seat.a,List.length_map])
  ·rfl
  ·rfl
  rintro k σ ⟨i,hi,rfl,t1,t2,t7,t22,t23,t24,t9⟩
  simp only [ze5]
  have hsz:=lvJ_size level (S.take i) (by rw [List.length_take]; omega) fun x hx=>hx0 x (List.mem_of_mem_take hx)
  by_cases hlt:i < S.length
  ·have hlt':(i:Int) < (S.length:Int):=by omega
   obtain ⟨x,hx⟩:=z0f hlt
   have hgi:=z0j (f:=Seat.a) hx
   simp only [Seat.a] at hgi
   have hw:=z1j (j:=i) (by omega)
   have hn:=lvW_next (level:=level) hx
   obtain ⟨b1,b2⟩:=hx0 x (List.mem_of_getElem? hx)
   by_cases hv:x.n.level = level
   case neg =>
    have hv':(x.n.level != level) = true:=by simp [bne,hv]
    rw [if_neg hv,List.append_nil] at hn
    have hj:lvJ level (S.take (i + 1)) = lvJ level (S.take i):=by unfold lvJ; rw [hn]
    simp (maxSteps:=9^7) only [go_sem,↓reduceIte,reduceCtorEq,Nat.reduceEqDiff,Nat.reduceBEq,Nat.reduceAdd,Nat.reduceSub,Nat.reduceMul,Nat.reduceLT,Nat.reduceLeDiff,Nat.reduceBNe,Int.reduceBEq,Int.reduceBNe,Int.reduceLT,Int.reduceLE,Cfg.a,Spn.a,Msg.a,Par.a,Nd.a,Seat.a,t1,t2,t7,t22,t23,t24,t9,hlt',hgi,hv',List.length_map,Int.toNat_natCast]
    (repeat refine And.intro (by omega) ?_)
    refine ⟨S.length - (i + 1),by omega,i + 1,by omega,rfl,?_,?_,?_,?_,?_,?_,?_⟩ <;> (simp (maxSteps:=9^7) only [go_sem,↓reduceIte,reduceCtorEq,Nat.reduceEqDiff,Nat.reduceBEq,Nat.reduceAdd,Nat.reduceSub,Nat.reduceMul,Nat.reduceLT,Nat.reduceLeDiff,Nat.reduceBNe,Int.reduceBEq,Int.reduceBNe,Int.reduceLT,Int.reduceLE,Cfg.a,Spn.a,Msg.a,Par.a,Nd.a,Seat.a,t1,t2,t7,t22,t23,t24,t9,hw,hj])
   have hv':(x.n.level != level) = false:=by simp [bne,hv]
   rw [if_pos hv] at hn
   have c1:=zl7 x.n.slot b1
   have c2:=z3s x.n.high (by omega)
   have q1:=z13 x.n.slot b1.1 b1.2
   have q2:=z0k x.n.high
   have e1:(⟨#[32]⟩:ByteArray).size = 1:=rfl
   have e2:(⟨#[58]⟩:ByteArray).size = 1:=rfl
   have e3:(⟨#[42]⟩:ByteArray).size = 1:=rfl
   rcases lvW_cases level (S.take i) with h0 | h0
   ·have hj0:lvJ level (S.take i) = (⟨#[]⟩:ByteArray):=by unfold lvJ; rw [h0]; rfl
    rw [hj0] at t9
    have hb:((⟨#[]⟩:ByteArray).toList != (⟨#[]⟩:ByteArray).toList) = false:=bne_self_eq_false _
    have ez:(⟨#[]⟩:ByteArray).size = 0:=rfl
    have hj:(⟨#[]⟩:ByteArray) ++ (decS x.n.slot ++ (⟨#[58]⟩:ByteArray)) ++ endW x.n = lvJ level (S.take (i + 1)):=by
     unfold lvJ
     rw [hn,h0,List.nil_append,joinB1]
     apply z4a
     simp only [levW,ByteArray.data_append,Array.toList_append,List.append_assoc]
     rfl
    unfold endW at hj
    cases ht:x.n.top with
    | true =>
     rw [if_pos ht] at hj
     rw [ht] at hgi
     (repeat (first | simp (maxSteps:=9^7) only [go_sem,↓reduceIte,reduceCtorEq,Nat.reduceEqDiff,Nat.reduceBEq,Nat.reduceAdd,Nat.reduceSub,Nat.reduceMul,Nat.reduceLT,Nat.reduceLeDiff,Nat.reduceBNe,Int.reduceBEq,Int.reduceBNe,Int.reduceLT,Int.reduceLE,Cfg.a,Spn.a,Msg.a,Par.a,Nd.a,Seat.a,t1,t2,t7,t22,t23,t24,t9,hlt',hgi,hv',hb,hj,e1,e2,e3,ez,ByteArray.size_append,List.length_map,Int.toNat_natCast] | refine z01 (c1) ?_ | refine z00 (c1) ?_ | refine And.intro (by omega) ?_ | refine And.intro (fun d hd=>by (repeat (rcases hd with rfl | hd; · exact ⟨rfl,rfl⟩)); cases hd) ?_))
     refine ⟨S.length - (i + 1),by omega,i + 1,by omega,rfl,?_,?_,?_,?_,?_,?_,?_⟩ <;> (simp (maxSteps:=9^7) only [go_sem,↓reduceIte,reduceCtorEq,Nat.reduceEqDiff,Nat.reduceBEq,Nat.reduceAdd,Nat.reduceSub,Nat.reduceMul,Nat.reduceLT,Nat.reduceLeDiff,Nat.reduceBNe,Int.reduceBEq,Int.reduceBNe,Int.reduceLT,Int.reduceLE,Cfg.a,Spn.a,Msg.a,Par.a,Nd.a,Seat.a,t1,t2,t7,t22,t23,t24,t9,hw])
    | false =>
     rw [if_neg (by rw [ht]; decide)] at hj
     rw [ht] at hgi
     (repeat (first | simp (maxSteps:=9^7) only [go_sem,↓reduceIte,reduceCtorEq,Nat.reduceEqDiff,Nat.reduceBEq,Nat.reduceAdd,Nat.reduceSub,Nat.reduceMul,Nat.reduceLT,Nat.reduceLeDiff,Nat.reduceBNe,Int.reduceBEq,Int.reduceBNe,Int.reduceLT,Int.reduceLE,Cfg.a,Spn.a,Msg.a,Par.a,Nd.a,Seat.a,t1,t2,t7,t22,t23,t24,t9,hlt',hgi,hv',hb,hj,e1,e2,e3,ez,ByteArray.size_append,List.length_map,Int.toNat_natCast] | refine z01 (c1) ?_ | refine z00 (c1) ?_ | refine z01 (c2) ?_ | refine z00 (c2) ?_ | refine And.intro (by omega) ?_ | refine And.intro (fun d hd=>by (repeat (rcases hd with rfl | hd; · exact ⟨rfl,rfl⟩)); cases hd) ?_))
     refine ⟨S.length - (i + 1),by omega,i + 1,by omega,rfl,?_,?_,?_,?_,?_,?_,?_⟩ <;> (simp (maxSteps:=9^7) only [go_sem,↓reduceIte,reduceCtorEq,Nat.reduceEqDiff,Nat.reduceBEq,Nat.reduceAdd,Nat.reduceSub,Nat.reduceMul,Nat.reduceLT,Nat.reduceLeDiff,Nat.reduceBNe,Int.reduceBEq,Int.reduceBNe,Int.reduceLT,Int.reduceLE,Cfg.a,Spn.a,Msg.a,Par.a,Nd.a,Seat.a,t1,t2,t7,t22,t23,t24,t9,hw])
   ·have hb:((lvJ level (S.take i)).toList != (⟨#[]⟩:ByteArray).toList) = true:=by
     rw [bne,z9z,decide_eq_false (by omega)]; rfl
    have hb':((lvJ level (S.take i)).toList == (⟨#[]⟩:ByteArray).toList) = false:=by
     rw [z9z,decide_eq_false (by omega)]
    have hne:lvW level (S.take i) ≠ []:=fun q=>by
     unfold lvJ at h0
     rw [q] at h0
     exact absurd h0 (by decide)
    have hj:lvJ level (S.take i) ++ (⟨#[32]⟩:ByteArray) ++ (decS x.n.slot ++ (⟨#[58]⟩:ByteArray)) ++ endW x.n = lvJ level (S.take (i + 1)):=by
     unfold lvJ
     rw [hn,y0z _ _ _ hne]
     apply z4a
     simp only [levW,ByteArray.data_append,Array.toList_append,List.append_assoc]
    unfold endW at hj
    generalize lvJ level (S.take i) = J at *
    cases ht:x.n.top with
    | true =>
     rw [if_pos ht] at hj
     rw [ht] at hgi
     (repeat (first | simp (maxSteps:=9^7) only [go_sem,↓reduceIte,reduceCtorEq,Nat.reduceEqDiff,Nat.reduceBEq,Nat.reduceAdd,Nat.reduceSub,Nat.reduceMul,Nat.reduceLT,Nat.reduceLeDiff,Nat.reduceBNe,Int.reduceBEq,Int.reduceBNe,Int.reduceLT,Int.reduceLE,Cfg.a,Spn.a,Msg.a,Par.a,Nd.a,Seat.a,t1,t2,t7,t22,t23,t24,t9,hlt',hgi,hv',hb,hb',hj,e1,e2,e3,ByteArray.size_append,List.length_map,Int.toNat_natCast] | refine z01 (c1) ?_ | refine z00 (c1) ?_ | refine And.intro (by omega) ?_ | refine And.intro (fun d hd=>by (repeat (rcases hd with rfl | hd; · exact ⟨rfl,rfl⟩)); cases hd) ?_))
     refine ⟨S.length - (i + 1),by omega,i + 1,by omega,rfl,?_,?_,?_,?_,?_,?_,?_⟩ <;> (simp (maxSteps:=9^7) only [go_sem,↓reduceIte,reduceCtorEq,Nat.reduceEqDiff,Nat.reduceBEq,Nat.reduceAdd,Nat.reduceSub,Nat.reduceMul,Nat.reduceLT,Nat.reduceLeDiff,Nat.reduceBNe,Int.reduceBEq,Int.reduceBNe,Int.reduceLT,Int.reduceLE,Cfg.a,Spn.a,Msg.a,Par.a,Nd.a,Seat.a,t1,t2,t7,t22,t23,t24,t9,hw])
    | false =>
     rw [if_neg (by rw [ht]; decide)] at hj
     rw [ht] at hgi
     (repeat (first | simp (maxSteps:=9^7) only [go_sem,↓reduceIte,reduceCtorEq,Nat.reduceEqDiff,Nat.reduceBEq,Nat.reduceAdd,Nat.reduceSub,Nat.reduceMul,Nat.reduceLT,Nat.reduceLeDiff,Nat.reduceBNe,Int.reduceBEq,Int.reduceBNe,Int.reduceLT,Int.reduceLE,Cfg.a,Spn.a,Msg.a,Par.a,Nd.a,Seat.a,t1,t2,t7,t22,t23,t24,t9,hlt',hgi,hv',hb,hb',hj,e1,e2,e3,ByteArray.size_append,List.length_map,Int.toNat_natCast] | refine z01 (c1) ?_ | refine z00 (c1) ?_ | refine z01 (c2) ?_ | refine z00 (c2) ?_ | refine And.intro (by omega) ?_ | refine And.intro (fun d hd=>by (repeat (rcases hd with rfl | hd; · exact ⟨rfl,rfl⟩)); cases hd) ?_))
     refine ⟨S.length - (i + 1),by omega,i + 1,by omega,rfl,?_,?_,?_,?_,?_,?_,?_⟩ <;> (simp (maxSteps:=9^7) only [go_sem,↓reduceIte,reduceCtorEq,Nat.reduceEqDiff,Nat.reduceBEq,Nat.reduceAdd,Nat.reduceSub,Nat.reduceMul,Nat.reduceLT,Nat.reduceLeDiff,Nat.reduceBNe,Int.reduceBEq,Int.reduceBNe,Int.reduceLT,Int.reduceLE,Cfg.a,Spn.a,Msg.a,Par.a,Nd.a,Seat.a,t1,t2,t7,t22,t23,t24,t9,hw])
  ·have hlt':¬ (i:Int) < (S.length:Int):=by omega
   obtain rfl:i = S.length:=by omega
   rw [List.take_length] at t9
   have c9:=zw1 T hT
   have htT:List.take T.length (T.map AV.str) = T.map AV.str:=List.take_of_length_le (by simp)
   generalize lvJ level S = J at *
   (repeat (first | simp (maxSteps:=9^7) only [go_sem,↓reduceIte,reduceCtorEq,Nat.reduceEqDiff,Nat.reduceBEq,Nat.reduceAdd,Nat.reduceSub,Nat.reduceMul,Nat.reduceLT,Nat.reduceLeDiff,Nat.reduceBNe,Int.reduceBEq,Int.reduceBNe,Int.reduceLT,Int.reduceLE,Cfg.a,Spn.a,Msg.a,Par.a,Nd.a,Seat.a,t1,t2,t7,t22,t23,t24,t9,hlt',htT,List.length_map,beq_self_eq_true] | refine z01 (k3) ?_ | refine z00 (k3) ?_ | refine z01 (k4) ?_ | refine z00 (k4) ?_ | refine z01 (c9) ?_ | refine z00 (c9) ?_ | refine z01 (k5) ?_ | refine z00 (k5) ?_ | refine z01 (aw) ?_ | refine z00 (aw) ?_ | refine And.intro (by omega) ?_ | refine And.intro (fun d hd=>by (repeat (rcases hd with rfl | hd; · exact ⟨rfl,rfl⟩)); cases hd) ?_))
end
section
open Go.RowKit
theorem Whole.low {l:List Nd} {S:List Seat} (W:Whole l S) {r:Nd} (hr:ndAt l 0 = some r):r.level < S.length:=by
 obtain ⟨z,R,hS,hz,_,hz2⟩:=W.root
 have ezr:z.n = r:=by rw [hr] at hz2; exact (Option.some.inj hz2).symm
 have hzS:z ∈ S:=by rw [hS]; exact List.mem_cons_self ..
 have hz0:=W.seats.lev z hzS
 rw [ezr] at hz0
 have hn:((List.range (r.level.toNat + 1)).map fun m:Nat=>r.level - (m:Int)).Nodup:=by
  refine List.Pairwise.map _ (fun a b hab=>?_) List.nodup_range
  intro e
  exact hab (by omega)
 have:=zfd hn (m:=S.map fun x=>x.n.level) fun v hv=>by
  obtain ⟨m,hm,rfl⟩:=List.mem_map.1 hv
  have:=List.mem_range.1 hm
  obtain ⟨A,x,B,e,_,hx,_⟩:=zfi W.seats hS W.bfs W.falls W.kids m (by rw [ezr]; omega)
  rw [ezr] at hx
  exact List.mem_map.2 ⟨x,by rw [e]; simp,hx⟩
 rw [List.length_map,List.length_map,List.length_range] at this
 omega
theorem z4q {c:Cfg} {l:List Nd} {most:Int} (h:z5j c l most = true) (on:∀ x,x ∈ l->x.ok):(∀ n,n ∈ l->n.Lt)∧(z1l l 0).2 = true:=by
 unfold z5j at h
 rw [Bool.and_eq_true,Bool.and_eq_true,Bool.and_eq_true,Bool.and_eq_true] at h
 obtain ⟨⟨⟨⟨_,hne⟩,hL⟩,hq⟩,hS⟩:=h
 unfold zlr at hL
 rw [Bool.and_eq_true,decide_eq_true_eq,List.all_eq_true] at hL
 unfold ze3 at hS
 rw [Bool.and_eq_true,Bool.and_eq_true,Bool.and_eq_true,Bool.and_eq_true] at hS
 exact ⟨fun n hn=>lt_of (on n hn) (hL.2 n hn),hS.1.1.1.1⟩
def allS:Spn:=⟨nul0,nul0,true⟩
theorem treesL_law (aw:AFn Tryd.prog 7 [] (.bool true)) (c:Cfg) (l:List Nd) (level:Int) (on:∀ x,x ∈ l->x.ok) (hl:l.length≤281474976710656)
  (cT:∀ S,Whole l S->(∀ n,n ∈ l->n.Lt)->(∀ x,x ∈ S->x.s.le 2000)->AFn Tryd.prog 15 [.sl (l.map Nd.a)] (.sl ((z4g l l.length 0 allS 0).map .str)))
  (cC:∀ S r,Whole l S->ndAt l 0 = some r->AFn Tryd.prog 37 [.sl (l.map Nd.a),.int .i64 level] (.own 1 3 (((z2n l r level).map fun n=>n.slot).map (AV.int .i64)))) :
  AFn Tryd.prog 4 [c.a,.sl (l.map Nd.a),.int .i64 level] (.bool true):=by
 have k1:=tree_ok c l 40 (by omega) on hl
 obtain ⟨S,hS⟩:∃ S,(z1l l 0).1 = S:=⟨_,rfl⟩
 have hW:z5j c l 40 = true->Whole l S:=fun h=>by rw [← hS]; exact zvr (by omega) h
 have hsz:z5j c l 40 = true->∀ x,x ∈ S->SeatOk x (2000 * S.length):=fun h x hx=>by
  have:=(zi3 (hW h).few (z4q h on).1 0).1
  rw [hS] at this
  obtain ⟨i,hi⟩:=List.mem_iff_getElem?.1 hx
  exact (this i x hi).mono (Nat.mul_le_mul_left _ (Nat.le_of_lt (List.getElem?_eq_some_iff.1 hi).1))
 have hslot:z5j c l 40 = true->∀ x,x ∈ S->-9223372036854775808≤x.n.slot∧x.n.slot≤9223372036854775807:=fun h x hx=>by
  have W:=hW h
  have:=(z0v W.ord (W.seats.node x hx)).2.2
  have:=W.few
  omega
 have hthin:z5j c l 40 = true->∀ x,x ∈ S->x.n.Thin∧x.s.lo.size≤2000∧x.s.hi.size≤2000:=fun h x hx=>by
  have o:=hsz h x hx
  exact ⟨⟨hslot h x hx,o.lt.nkid,o.lt.nrow,fun p hp=>(o.lt.rows p hp).1,o.lt.nmsg⟩,o.s.1,o.s.2⟩
 have hrt:z5j c l 40 = true->∃ z,z ∈ S∧z.n.slot = 0∧z.s = allS∧ndAt l 0 = some z.n:=fun h=>by
  obtain ⟨z,R,e,h1,h2,h3⟩:=(hW h).root
  exact ⟨z,by rw [e]; exact List.mem_cons_self ..,h1,h2,h3⟩
 refine y2n aw c l level (z5j c l 40) S (z3c S l.length 0 0) k1 (fun h=>?_) (fun h=>?_) (fun h=>?_) (fun h=>?_) (fun h=>?_) (fun h=>?_)
 ·have k:=y6k l 0 (hW h).few (z4q h on).1
  rw [hS,(z4q h on).2] at k
  exact k
 ·obtain ⟨z,hz,h1,h2,h3⟩:=hrt h
  have e:=za2 (hW h).seats l.length 0 z hz
  rw [h1,h2] at e
  rw [e]
  exact cT S (hW h) (z4q h on).1 fun x hx=>(hsz h x hx).s
 ·obtain ⟨z,hz,h1,h2,h3⟩:=hrt h
  have W:=hW h
  have hlow:=W.low h3
  have hd:=deep_of W.seats l.length z hz (by rw [← W.len]; exact hlow)
  have hle:=zu7 W.seats l.length 0 z hz
  rw [h1] at hd hle
  have:=W.few
  have:=W.len
  exact y81 S (by omega) (hthin h) l.length 0 0 hd (by omega) (by omega) (by omega)
 ·obtain ⟨z,hz,h1,h2,h3⟩:=hrt h
  have W:=hW h
  have hc:=chain_law W level h3
  have cc:=cC S z.n W h3
  rw [hc] at cc
  have:=W.few
  have:=W.len
  have hfl:=List.length_filter_le (fun y:Seat=>decide (y.n.level = level)) S
  have k:=y8e l W.ord W.few level ((S.filter fun y=>decide (y.n.level = level)).map fun y=>y.n) (by rw [List.length_map]; omega) (fun n hn=>by
   obtain ⟨x,hx,rfl⟩:=List.mem_map.1 hn
   have hxS:=(List.mem_filter.1 hx).1
   exact ⟨W.seats.node x hxS,hslot h x hxS,(hsz h x hxS).lt.high⟩) cc
  unfold lvJ lvW
  rw [List.map_map] at k
  exact k
 ·have W:=hW h
  have:=W.few
  have:=W.len
  exact ⟨by omega,fun x hx=>⟨hslot h x hx,(hsz h x hx).lt.high⟩⟩
 ·obtain ⟨z,hz,h1,h2,h3⟩:=hrt h
  have W:=hW h
  have hle:=zu7 W.seats l.length 0 z hz
  rw [h1] at hle
  have:=W.few
  have:=W.len
  omega
end
section
open Go.RowKit Go.Shelf Go.MapKept
attribute [local go_sem] Oper.semAt_some
def ndC (n:Nd) (c:Array Value):Prop:=∃ (A2 A3 A8 A9:Option Addr) (l2 k2 l3 k3 l8 k8 l9 k9:Nat),c = #[.int .i64 n.slot,.int .i64 n.level,.slice A2 l2 k2,.slice A3 l3 k3,.string n.high,.bool n.top,.int .i64 n.right,.int .i64 n.seen,.slice A8 l8 k8,.slice A9 l9 k9]
abbrev Nv:={ x:Array Value × Int // ∃ n:Nd,n.slot = x.2∧ndC n x.1 }
def encN (x:Nv):Array Value:=#[.agg x.1.1]
def zf4 (Bo:Nat) (W:World) (k:Nat):Prop:=∃ o l c,W.cell? ⟨Bo,0,none⟩ = some (.slice (some ⟨k,o,none⟩) l c)
structure KpN (Bo:Nat) (W W':World):Prop where
 below:Below Bo W W'
 same:∀ k o,W.heap[k]? = some o->(o.isCells = true∨o.isWalk = true)->k ≠ Bo->¬ zf4 Bo W k->W'.heap[k]? = some o
 row:∀ k,zf4 Bo W' k->zf4 Bo W k∨W.heap.size≤k
theorem y9g {W:World} {a:Addr} {v:Value} (o:Obj) (h:W.cell? a = some v):(W.alloc o).cell? a = some v:=cell_kept h (World.grownBy_alloc W o none) (fun r e=>by cases e)
structure ItW (Bo B:Nat) (W W':World):Prop where
 os:W'.os = W.os
 tape:W'.tape = W.tape
 output:W'.output = W.output
 size:W.heap.size≤W'.heap.size
 same:∀ k,k < W.heap.size->(k < B∨zf4 Bo W k)->W'.heap[k]? = W.heap[k]?
theorem set_row {W:World} {b j:Nat} {cs:Array Value} {t:TypeId} {fz:Nat × Nat} (u:Value) (h:W.heap[b]? = some (.cells cs t fz)):(W.setCell ⟨b,j,none⟩ u).heap[b]? = some (.cells (cs.setIfInBounds j u) t fz):=by
 simp [World.setCell,Array.getElem?_modify,h]
structure Wrote (b:Nat) (W W':World):Prop where
 oth:∀ k,k ≠ b->W'.heap[k]? = W.heap[k]?
 size:W'.heap.size = W.heap.size
 os:W'.os = W.os
 tape:W'.tape = W.tape
 output:W'.output = W.output
theorem Wrote.refl (b:Nat) (W:World):Wrote b W W:=⟨fun _ _=>rfl,rfl,rfl,rfl,rfl⟩
theorem Wrote.set {b:Nat} {W W':World} (h:Wrote b W W') (j:Nat) (u:Value):Wrote b W (W'.setCell ⟨b,j,none⟩ u) :=
 ⟨fun k hk=>(Below.heap_setCell _ _ _ _ hk).trans (h.oth k hk),by rw [← h.size]; simp [World.setCell],h.os,h.tape,h.output⟩
theorem Wrote.trans {b:Nat} {A B C:World} (h:Wrote b A B) (k:Wrote b B C):Wrote b A C:=⟨fun j hj=>(k.oth j hj).trans (h.oth j hj),k.size.trans h.size,k.os.trans h.os,k.tape.trans h.tape,k.output.trans h.output⟩
theorem z4c {W:World} {b:Nat} (j:Nat) {cs:Array Value} {t:TypeId} {fz:Nat × Nat} (u:Value) (h:W.heap[b]? = some (.cells cs t fz)) :
  ∃ W':World,W.setCell ⟨b,j,none⟩ u = W'∧W'.heap[b]? = some (.cells (cs.setIfInBounds j u) t fz)∧Wrote b W W':=⟨_,rfl,set_row u h,(Wrote.refl b W).set j u⟩
theorem set_ten {W:World} {b:Nat} {c0 c1 c2 c3 c4 c5 c6 c7 c8 c9:Value} {t:TypeId} {fz:Nat × Nat} (h:W.heap[b]? = some (.cells #[c0,c1,c2,c3,c4,c5,c6,c7,c8,c9] t fz)) (v0 v1 v2 v3 v4 v5 v6 v7 v8 v9:Value) :
  ∃ W':World,(((((((((W.setCell ⟨b,0,none⟩ v0).setCell ⟨b,1,none⟩ v1).setCell ⟨b,2,none⟩ v2).setCell ⟨b,3,none⟩ v3).setCell ⟨b,4,none⟩ v4).setCell ⟨b,5,none⟩ v5).setCell ⟨b,6,none⟩ v6).setCell ⟨b,7,none⟩ v7).setCell ⟨b,8,none⟩ v8).setCell ⟨b,9,none⟩ v9 = W' ∧
   W'.heap[b]? = some (.cells #[v0,v1,v2,v3,v4,v5,v6,v7,v8,v9] t fz)∧Wrote b W W':=by
 obtain ⟨W0,e0,h0,r0⟩:=z4c 0 v0 h
 rw [e0]
 obtain ⟨W1,e1,h1,r1⟩:=z4c 1 v1 h0
 rw [e1]
 obtain ⟨W2,e2,h2,r2⟩:=z4c 2 v2 h1
 rw [e2]
 obtain ⟨W3,e3,h3,r3⟩:=z4c 3 v3 h2
 rw [e3]
 obtain ⟨W4,e4,h4,r4⟩:=z4c 4 v4 h3
 rw [e4]
 obtain ⟨W5,e5,h5,r5⟩:=z4c 5 v5 h4
 rw [e5]
 obtain ⟨W6,e6,h6,r6⟩:=z4c 6 v6 h5
 rw [e6]
 obtain ⟨W7,e7,h7,r7⟩:=z4c 7 v7 h6
 rw [e7]
 obtain ⟨W8,e8,h8,r8⟩:=z4c 8 v8 h7
 rw [e8]
 obtain ⟨W9,e9,h9,r9⟩:=z4c 9 v9 h8
 rw [e9]
 simp only [List.setIfInBounds_toArray,List.set_cons_zero,List.set_cons_succ] at h9
 exact ⟨W9,rfl,h9,((((((((r0.trans r1).trans r2).trans r3).trans r4).trans r5).trans r6).trans r7).trans r8).trans r9⟩
theorem cells_of {W:World} {b o:Nat} {v:Value} (h:W.cell? ⟨b,o,none⟩ = some v):∃ ob,W.heap[b]? = some ob∧ob.isCells = true:=by
 unfold World.cell? at h
 split at h
 ·rename_i c e f hb
  exact ⟨_,hb,rfl⟩
 ·cases h
def wideN (w:World):Nat->Nat->Prop:=fun b _=>b < w.heap.size
theorem VR.wideN {Pr:Nat->Nat->Prop} {w:World} {d:AV} {v:Value} (h:VR Pr w d v):VR (wideN w) w d v :=
 h.kept ⟨Nat.le_refl _,fun _ _ hb _=>hb,fun _ _ _ _=>rfl,fun _ _ _ _ _ e=>e⟩
theorem VR.belowN {w w':World} {d:AV} {v:Value} (h:VR (Go.Proofs.YtkfciapeikkmfaaDoor.wideN w) w d v) (hB:Below w.heap.size w w'):VR (Go.Proofs.YtkfciapeikkmfaaDoor.wideN w') w' d v :=
 h.kept ⟨hB.size,fun _ _ hb _=>Nat.lt_of_lt_of_le hb hB.size,fun b o hb _=>hB.cell (p:=⟨b,o,none⟩) hb,fun b ms c hb _ e=>(hB.block b hb).trans e⟩
theorem bs_calls (l:List Nd) (h:z3y l) (hl:l.length≤200) {w:World} (hG:Glob w) {A:Option Addr} {len cap:Nat} (hv:VR (wideN w) w (.sl (l.map Nd.a)) (.slice A len cap)) :
  Calls Tryd.prog 72 #[.slice A len cap] w fun e w'=>∃ v,e = .returned v∧Below w.heap.size w w'∧VR (wideN w') w' (.mv (z1p l)) v:=by
 refine ((bySlot_ok l h hl).calls w (wideN w) [.slice A len cap] hG (fun _ _ h=>h) rfl (fun j d v h1 h2=>by
  match j with
  | 0=>cases h1; cases h2; exact hv
  | j + 1=>simp at h1)).mono ?_
 rintro e w' ⟨v,rfl,hB,hR⟩
 exact ⟨v,rfl,hB,VR.wideN hR⟩
theorem y86 {Pr:Nat->Nat->Prop} {w:World} {n:Nd} {v:Value} (h:VR Pr w n.a v):∃ c,v = .agg c∧ndC n c:=by
 unfold Nd.a at h
 cases h with
 | agg _ cs hl hc =>
  match cs,hl with
  | [v0,v1,v2,v3,v4,v5,v6,v7,v8,v9],_ =>
   have h0:=hc 0 _ v0 rfl rfl
   have h1:=hc 1 _ v1 rfl rfl
   have h2:=hc 2 _ v2 rfl rfl
   have h3:=hc 3 _ v3 rfl rfl
   have h4:=hc 4 _ v4 rfl rfl
   have h5:=hc 5 _ v5 rfl rfl
   have h6:=hc 6 _ v6 rfl rfl
   have h7:=hc 7 _ v7 rfl rfl
   have h8:=hc 8 _ v8 rfl rfl
   have h9:=hc 9 _ v9 rfl rfl
   cases h0; cases h1; cases h4; cases h5; cases h6; cases h7; cases h2; cases h3; cases h8; cases h9
   exact ⟨_,rfl,_,_,_,_,_,_,_,_,_,_,_,_,rfl⟩
theorem mvLook {w:World} {l:List Nd} (hl:z3y l) {m:Value} (h:VR (wideN w) w (.mv (z1p l)) m):∃ g ms c,m = .map (some g)∧g < w.heap.size∧w.heap[g]? = some (.map ms c) ∧
  ∀ k:Int,(ndAt l k = none∧Instr.findNow (.int .i64) (.int .i64 k) ms.toList 0 = some none)∨∃ n j c,ndAt l k = some n∧Instr.findNow (.int .i64) (.int .i64 k) ms.toList 0 = some (some (j,.agg c))∧ndC n c:=by
 cases h with
 | mv _ g ms c hg hp hb hl2 hst hk hv2 =>
  refine ⟨g,ms,c,rfl,hg,hb,fun k=>?_⟩
  have hm:MapR (wideN w) w (z1p l) ms c:=⟨hst,hl2,hk,hv2⟩
  have hlk:=zfe hl k
  rcases hm.lookup k with ⟨l1,l2,_⟩ | ⟨j,e,m,l1,l2,l3,l4,l5,l6,_⟩
  ·rw [l1] at hlk
   cases hn:ndAt l k with
   | none=>exact .inl ⟨rfl,l2⟩
   | some n=>rw [hn] at hlk; cases hlk
  ·rw [l1] at hlk
   cases hn:ndAt l k with
   | none=>rw [hn] at hlk; cases hlk
   | some n =>
    rw [hn] at hlk
    have he:e.2 = n.a:=Option.some.inj hlk
    rw [he] at l6
    obtain ⟨c,hc1,hc2⟩:=y86 l6
    rw [hc1] at l5
    exact .inr ⟨n,j,c,rfl,l5,hc2⟩
theorem fi_calls (l:List Nd) (h:Lvl l) (level:Int) (r:Nd) (h0:ndAt l 0 = some r) {N:Nd} (hN:z4e l (r.level - lowL level).toNat r = N) {w:World} (hG:Glob w) {m:Value} (hv:VR (wideN w) w (.mv (z1p l)) m) :
  Calls Tryd.prog 73 #[m,.int .i64 level] w fun e w'=>∃ c:Array Value,e = .returned (.tuple #[.agg c,.bool (decide (N.level = level))])∧Below w.heap.size w w'∧ndC N c:=by
 have hf:=first_ok l h level r h0
 rw [hN] at hf
 refine (hf.calls w (wideN w) [m,.int .i64 level] hG (fun _ _ h=>h) rfl (fun j d v h1 h2=>by
  match j with
  | 0=>cases h1; cases h2; exact hv
  | 1=>cases h1; cases h2; exact .int _ _
  | j + 2=>simp at h1)).mono ?_
 rintro e w' ⟨v,rfl,hB,hR⟩
 have hR':=VR.wideN hR
 cases hR' with
 | tup _ vs hl hc =>
  match vs,hl with
  | [x,y],_ =>
   have hx:=hc 0 _ x rfl rfl
   have hy:=hc 1 _ y rfl rfl
   cases hy
   obtain ⟨c,rfl,h⟩:=y86 hx
   exact ⟨c,rfl,hB,h⟩
theorem look_no {g:Nat} {ms:Array MapEntry} {c:Nat} {k:Int} {W:World} (hb:W.heap[g]? = some (.map ms c)) (hf:Instr.findNow (.int .i64) (.int .i64 k) ms.toList 0 = some none) :
  (Instr.lookup 71 (.map (some g)) (.int .i64 k) true).run Tryd.prog W = .ok (.tuple #[.agg #[.int .i64 0,.int .i64 0,.slice none 0 0,.slice none 0 0,.string ⟨#[]⟩,.bool false,.int .i64 0,.int .i64 0,.slice none 0 0,.slice none 0 0],.bool false]) W:=by
 have ht:Tryd.prog.underlying 71 = some (.map 3 27):=by kernel_rfl
 have hkt:Tryd.prog.underlying 3 = some (.int .i64):=by kernel_rfl
 have hz:(Tryd.prog.info? 27).map (·.zero) = some (some (.agg #[.int .i64 0,.int .i64 0,.slice none 0 0,.slice none 0 0,.string ⟨#[]⟩,.bool false,.int .i64 0,.int .i64 0,.slice none 0 0,.slice none 0 0])):=by kernel_rfl
 obtain ⟨i,hi,hz⟩:=Option.map_eq_some_iff.1 hz
 have hK:IsKey (.int .i64) (.int .i64 k):=rfl
 simp [Instr.lookup,run_underlying ht,Go.MapKept.run_getObj_map hb,run_checkKey hkt hK,run_findKey hkt hf,zeroValue,typeInfo,hi,hz]
theorem look_yes {g:Nat} {ms:Array MapEntry} {c j:Nat} {k:Int} {v:Value} {W:World} (hb:W.heap[g]? = some (.map ms c)) (hf:Instr.findNow (.int .i64) (.int .i64 k) ms.toList 0 = some (some (j,v))) :
  (Instr.lookup 71 (.map (some g)) (.int .i64 k) true).run Tryd.prog W = .ok (.tuple #[v,.bool true]) W:=by
 have ht:Tryd.prog.underlying 71 = some (.map 3 27):=by kernel_rfl
 have hkt:Tryd.prog.underlying 3 = some (.int .i64):=by kernel_rfl
 have hK:IsKey (.int .i64) (.int .i64 k):=rfl
 simp [Instr.lookup,run_underlying ht,Go.MapKept.run_getObj_map hb,run_checkKey hkt hK,run_findKey hkt hf]
set_option maxHeartbeats 2000000 in
theorem nodes1_in (l:List Nd) (hL:Lvl l) (level:Int) (r:Nd) (h0:ndAt l 0 = some r) (ll Bo B1 B2:Nat) (J Jx:List Nv->World->Prop) (A:Option Addr) (len cap:Nat) (w0 W:World) (hW:Below w0.heap.size w0 W)
  (hB:Bo < w0.heap.size) (hB1:B1 < w0.heap.size) (hB2:B2 < w0.heap.size) (hn1:B1 ≠ Bo) (hn2:B2 ≠ Bo) (hG:Glob w0)
  (hv:VR (wideN w0) w0 (.sl (l.map Nd.a)) (.slice A len cap)) (c1:w0.cell? ⟨B1,0,none⟩ = some (.slice A len cap)) (c2:w0.cell? ⟨B2,0,none⟩ = some (.int .i64 level)) (hrow:w0.cell? ⟨Bo,0,none⟩ = some (.slice none 0 0))
  (hJ:∀ s A B',J s A->W.heap.size≤A.heap.size->ItW Bo W.heap.size A B'->J s B')
  (hY:∀ pre x W1,J pre W1->pre.length < l.length->YieldAt Fence.wide 3 Tryd.prog ll (encN x) W1 fun e W' =>
   (e = .returned (.bool true)∧J (pre ++ [x]) W'∧KpN Bo W1 W')∨(e = .returned (.bool false)∧Jx (pre ++ [x]) W'))
  (hJ0:J [] W) :
  CallsIn Fence.wide 4 Tryd.prog 71 #[.func (.yield ll) #[] #[],.pointer (some ⟨B1,0,none⟩),.pointer (some ⟨B2,0,none⟩)] W fun e W'=>(∃ v,e = .returned v)∧((∃ xs:List Nv,xs.map (·.1.2) = (z2n l r level).map (·.slot)∧J xs W')∨(∃ pre,Jx pre W')):=by
 have d1:W.cell? ⟨B1,0,none⟩ = some (.slice A len cap):=(hW.cell (p:=⟨B1,0,none⟩) hB1).trans c1
 have d2:W.cell? ⟨B2,0,none⟩ = some (.int .i64 level):=(hW.cell (p:=⟨B2,0,none⟩) hB2).trans c2
 refine callsIn_of_wp Tryd.func71 rfl trivial ?_ rfl
 simp only [Tryd.ntmps71,List.size_toArray,List.length_cons,List.length_nil,Nat.reduceAdd,Nat.reduceSub,Array.replicate_succ,Array.replicate_zero,List.push_toArray,List.append_toArray,List.nil_append,List.cons_append]
 have hG1:Glob W:=Glob.below hG hW
 have hv1:VR (wideN W) W (.sl (l.map Nd.a)) (.slice A len cap):=VR.belowN hv hW
 obtain ⟨N,hN⟩:∃ N,z4e l (r.level - lowL level).toNat r = N:=⟨_,rfl⟩
 gi_wp2_with (first
  | (refine ⟨trivial,?_⟩; gi_at_call 72; refine (callsIn_wide.2 (bs_calls l hL.ord hL.len hG1 hv1)).mono ?_; rintro e w1 ⟨m,rfl,hBa,hm⟩; have e2:=(hBa.cell (p:=⟨B2,0,none⟩) (Nat.lt_of_lt_of_le hB2 hW.size)).trans d2)
  | (refine ⟨trivial,?_⟩; gi_at_call 73; refine (callsIn_wide.2 (fi_calls l hL level r h0 hN (Glob.below hG1 hBa) hm)).mono ?_; rintro e w2 ⟨c,rfl,hBb,A2,A3,A8,A9,l2,k2,l3,k3,l8,k8,l9,k9,rfl⟩; have e3:=fun o=>y9g (v:=.slice A len cap) o ((hBb.cell (p:=⟨B1,0,none⟩) (Nat.lt_of_lt_of_le (Nat.lt_of_lt_of_le hB1 hW.size) hBa.size)).trans ((hBa.cell (p:=⟨B1,0,none⟩) (Nat.lt_of_lt_of_le hB1 hW.size)).trans d1))))
 have hlen0:len = l.length:=by cases hv; simp
 subst hlen0
 obtain ⟨g,ms,mc,rfl,hg1,hgm,hlk⟩:=mvLook hL.ord hm
 gi_loopw [6,7] (fun ok left wr=>∃ (b:Bool) (f:Nat) (n:Nd) (c:Array Value) (pre:List Nv),ok = .bool b∧left = .int .i64 f∧ndC n c∧wr.heap[w2.heap.size]? = some (.cells c 27 (0,0))∧J pre wr∧pre.length + f = l.length ∧
   pre.map (·.1.2) ++ (if b then (z6j l level f n).map (·.slot) else []) = (z2n l r level).map (·.slot) ∧
   (∀ k o,k < w2.heap.size->k ≠ Bo->w2.heap[k]? = some o->(o.isCells = true∨o.isWalk = true)->wr.heap[k]? = some o)∧(∀ k,zf4 Bo wr k->w2.heap.size < k)∧w2.heap.size < wr.heap.size)
  (fun ok left wr=>(intOf left).toNat)
 case atStart =>
  have hWB:Below W.heap.size W (w2.alloc (.cells #[.int .i64 N.slot,.int .i64 N.level,.slice A2 l2 k2,.slice A3 l3 k3,.string N.high,.bool N.top,.int .i64 N.right,.int .i64 N.seen,.slice A8 l8 k8,.slice A9 l9 k9] 27)) :=
   (hBa.trans (hBb.mono hBa.size)).alloc (Nat.le_trans hBa.size hBb.size) _
  refine ⟨_,l.length,N,_,[],rfl,rfl,⟨A2,A3,A8,A9,l2,k2,l3,k3,l8,k8,l9,k9,rfl⟩,(heap_alloc w2 _).1,?_,by simp,?_,fun k o hk _ ho _=>(Below.heap_alloc w2 _ k hk).trans ho,?_,by simp⟩
  ·exact hJ [] W _ hJ0 (Nat.le_refl _) ⟨hWB.os,hWB.tape,hWB.output,hWB.size,fun k hk _=>hWB.block k hk⟩
  ·unfold z2n
   rw [hN]
   by_cases e:N.level = level
   ·simp [e]
   ·simp [e]
  ·rintro k ⟨o,l',c',hk⟩
   rw [hWB.cell (p:=⟨Bo,0,none⟩) (Nat.lt_of_lt_of_le hB hW.size),hW.cell (p:=⟨Bo,0,none⟩) hB,hrow] at hk
   cases hk
 case round =>
  obtain ⟨b,f,n,c,pre,rfl,rfl,hc,hbx,hJr,hlen,htg,hks,hrw,hsz⟩:=hrel
  cases b with
  | false =>
   gi_wp2
   refine ⟨fun _ h=>(by cases h),?_⟩
   gi_wp2
   go_end0
   exact ⟨⟨_,rfl⟩,.inl ⟨pre,by simpa using htg,hJr⟩⟩
  | true =>
   obtain ⟨A2,A3,A8,A9,l2,k2,l3,k3,l8,k8,l9,k9,rfl⟩:=hc
   have cl:wr.cell? ⟨w2.heap.size,1,none⟩ = some (.int .i64 n.level):=by rw [z04 hbx]; rfl
   rw [if_pos rfl] at htg
   have c2':wr.cell? ⟨B2,0,none⟩ = some (.int .i64 level):=by
    have d3:w2.cell? ⟨B2,0,none⟩ = some (.int .i64 level):=(hBb.cell (p:=⟨B2,0,none⟩) (Nat.lt_of_lt_of_le (Nat.lt_of_lt_of_le hB2 hW.size) hBa.size)).trans e2
    obtain ⟨ob,o1,o2⟩:=cells_of d3
    have hB2':B2 < w2.heap.size:=Nat.lt_of_lt_of_le (Nat.lt_of_lt_of_le (Nat.lt_of_lt_of_le hB2 hW.size) hBa.size) hBb.size
    rw [← d3]
    exact World.cell?_of_block (w:=w2) ((hks B2 ob hB2' hn2 o1 (.inl o2)).trans o1.symm)
   by_cases hf:f = 0
   ·subst hf
    gi_wp2
    refine ⟨fun _ h=>(by cases h),?_⟩
    gi_wp2
    go_end0
    exact ⟨⟨_,rfl⟩,.inl ⟨pre,by rw [z6j] at htg; simpa using htg,hJr⟩⟩
   have hf':(0:Int) < (f:Int):=by omega
   by_cases he:n.level = level
   ·have he':(n.level == level) = true:=by simp [he]
    obtain ⟨fn,tmps,assign,body,hy,hR⟩:=hY pre ⟨(#[.int .i64 n.slot,.int .i64 level,.slice A2 l2 k2,.slice A3 l3 k3,.string n.high,.bool n.top,.int .i64 n.right,.int .i64 n.seen,.slice A8 l8 k8,.slice A9 l9 k9],n.slot),{ n with level:=level },rfl,A2,A3,A8,A9,l2,k2,l3,k3,l8,k8,l9,k9,rfl⟩ wr hJr (by omega)
    simp only [encN] at hy
    have z0:wr.cell? ⟨w2.heap.size,0,none⟩ = some (.int .i64 n.slot):=by rw [z04 hbx]; rfl
    have z2:wr.cell? ⟨w2.heap.size,2,none⟩ = some (.slice A2 l2 k2):=by rw [z04 hbx]; rfl
    have z3:wr.cell? ⟨w2.heap.size,3,none⟩ = some (.slice A3 l3 k3):=by rw [z04 hbx]; rfl
    have z4:wr.cell? ⟨w2.heap.size,4,none⟩ = some (.string n.high):=by rw [z04 hbx]; rfl
    have z5:wr.cell? ⟨w2.heap.size,5,none⟩ = some (.bool n.top):=by rw [z04 hbx]; rfl
    have z6:wr.cell? ⟨w2.heap.size,6,none⟩ = some (.int .i64 n.right):=by rw [z04 hbx]; rfl
    have z7:wr.cell? ⟨w2.heap.size,7,none⟩ = some (.int .i64 n.seen):=by rw [z04 hbx]; rfl
    have z8:wr.cell? ⟨w2.heap.size,8,none⟩ = some (.slice A8 l8 k8):=by rw [z04 hbx]; rfl
    have z9:wr.cell? ⟨w2.heap.size,9,none⟩ = some (.slice A9 l9 k9):=by rw [z04 hbx]; rfl
    gi_wp2
    refine hR.mono ?_
    rintro e W' (⟨rfl,hJ',hk⟩ | ⟨rfl,hJx'⟩)
    ·have hnr:∀ k,k≤w2.heap.size->¬ zf4 Bo wr k:=fun k hk1 hk2=>by have:=hrw k hk2; omega
     have hBo2:Bo < w2.heap.size:=Nat.lt_of_lt_of_le (Nat.lt_of_lt_of_le (Nat.lt_of_lt_of_le hB hW.size) hBa.size) hBb.size
     have hbx':=hk.same _ _ hbx (.inl rfl) (by omega) (hnr _ (Nat.le_refl _))
     have y0:W'.cell? ⟨w2.heap.size,0,none⟩ = some (.int .i64 n.slot):=by rw [z04 hbx']; rfl
     have y1:W'.cell? ⟨w2.heap.size,1,none⟩ = some (.int .i64 n.level):=by rw [z04 hbx']; rfl
     have y2:W'.cell? ⟨w2.heap.size,2,none⟩ = some (.slice A2 l2 k2):=by rw [z04 hbx']; rfl
     have y3:W'.cell? ⟨w2.heap.size,3,none⟩ = some (.slice A3 l3 k3):=by rw [z04 hbx']; rfl
     have y4:W'.cell? ⟨w2.heap.size,4,none⟩ = some (.string n.high):=by rw [z04 hbx']; rfl
     have y5:W'.cell? ⟨w2.heap.size,5,none⟩ = some (.bool n.top):=by rw [z04 hbx']; rfl
     have y6:W'.cell? ⟨w2.heap.size,6,none⟩ = some (.int .i64 n.right):=by rw [z04 hbx']; rfl
     have y7:W'.cell? ⟨w2.heap.size,7,none⟩ = some (.int .i64 n.seen):=by rw [z04 hbx']; rfl
     have y8:W'.cell? ⟨w2.heap.size,8,none⟩ = some (.slice A8 l8 k8):=by rw [z04 hbx']; rfl
     have y9:W'.cell? ⟨w2.heap.size,9,none⟩ = some (.slice A9 l9 k9):=by rw [z04 hbx']; rfl
     have f0:W'.frozen? ⟨w2.heap.size,0,none⟩ = false:=by simp [World.frozen?,hbx']
     have f1:W'.frozen? ⟨w2.heap.size,1,none⟩ = false:=by simp [World.frozen?,hbx']
     have f2:W'.frozen? ⟨w2.heap.size,2,none⟩ = false:=by simp [World.frozen?,hbx']
     have f3:W'.frozen? ⟨w2.heap.size,3,none⟩ = false:=by simp [World.frozen?,hbx']
     have f4:W'.frozen? ⟨w2.heap.size,4,none⟩ = false:=by simp [World.frozen?,hbx']
     have f5:W'.frozen? ⟨w2.heap.size,5,none⟩ = false:=by simp [World.frozen?,hbx']
     have f6:W'.frozen? ⟨w2.heap.size,6,none⟩ = false:=by simp [World.frozen?,hbx']
     have f7:W'.frozen? ⟨w2.heap.size,7,none⟩ = false:=by simp [World.frozen?,hbx']
     have f8:W'.frozen? ⟨w2.heap.size,8,none⟩ = false:=by simp [World.frozen?,hbx']
     have f9:W'.frozen? ⟨w2.heap.size,9,none⟩ = false:=by simp [World.frozen?,hbx']
     have hgm2:w2.heap[g]? = some (.map ms mc):=(hBb.block g hg1).trans hgm
     have hg2:g < w2.heap.size:=Nat.lt_of_lt_of_le hg1 hBb.size
     have hgo:g ≠ Bo:=fun e=>by
      have e1:w1.cell? ⟨Bo,0,none⟩ = some (.slice none 0 0):=(hBa.cell (p:=⟨Bo,0,none⟩) (Nat.lt_of_lt_of_le hB hW.size)).trans ((hW.cell (p:=⟨Bo,0,none⟩) hB).trans hrow)
      rw [← e] at e1
      simp [World.cell?,hgm] at e1
     have hgr:=hks g _ hg2 hgo hgm2 (.inr rfl)
     have hgm':=hk.same _ _ hgr (.inr rfl) hgo (hnr _ (Nat.le_of_lt hg2))
     have nrow:∀ k,k≤w2.heap.size->¬ zf4 Bo W' k:=fun k hk1 hk2=>by
      rcases hk.row k hk2 with h | h
      ·exact hnr k hk1 h
      ·omega
     have hszW:W.heap.size≤W'.heap.size:=Nat.le_trans (Nat.le_trans (Nat.le_trans hBa.size hBb.size) (Nat.le_of_lt hsz)) hk.below.size
     have hsz1:W.heap.size≤w2.heap.size:=Nat.le_trans hBa.size hBb.size
     have hsz2:w2.heap.size < W'.heap.size:=Nat.lt_of_lt_of_le hsz hk.below.size
     have hll:=hL.len
     rcases hlk n.right with ⟨q1,q2⟩ | ⟨n',j,c',q1,q2,q3⟩
     ·have hL:=look_no hgm' q2
      gi_wp2
      obtain ⟨W2,hW2,hb2,hwr⟩:=set_ten hbx' (.int .i64 0) (.int .i64 0) (.slice none 0 0) (.slice none 0 0) (.string ⟨#[]⟩) (.bool false) (.int .i64 0) (.int .i64 0) (.slice none 0 0) (.slice none 0 0)
      rw [hW2]
      have hs2:=hwr.oth
      have hz2:=hwr.size
      have hItW:ItW Bo W.heap.size W' W2:=⟨hwr.os,hwr.tape,hwr.output,Nat.le_of_eq hz2.symm,fun k hk1 hk2=>hs2 k fun e=>by
       rcases hk2 with hk2 | hk2
       ·omega
       ·exact nrow k (by omega) hk2⟩
      have hbo:∀ k,zf4 Bo W2 k->zf4 Bo W' k:=fun k ⟨o,a,b,h⟩=>⟨o,a,b,by rw [← h]; exact (World.cell?_of_block (w:=W') (hs2 Bo (by omega))).symm⟩
      have hw:(f:Int) - 1 = ((f - 1:Nat):Int):=by omega
      go_roundw
      case rel =>
       refine ⟨false,f - 1,⟨0,0,[],[],⟨#[]⟩,false,0,0,[],[]⟩,_,_,rfl,by rw [hw],⟨none,none,none,none,0,0,0,0,0,0,0,0,rfl⟩,hb2,hJ _ _ _ hJ' hszW hItW,by simp; omega,?_,fun k o hk1 hk2 hk3 hk4=>?_,fun k hk1=>?_,by omega⟩
       ·rw [List.map_append,List.append_assoc,← htg]
        congr 1
        obtain ⟨f',rfl⟩:∃ f',f = f' + 1:=⟨f - 1,by omega⟩
        rw [z6j,if_pos he,q1]
        simp
       ·rw [hs2 k (by omega)]
        exact hk.same _ _ (hks k o hk1 hk2 hk3 hk4) hk4 hk2 (hnr k (Nat.le_of_lt hk1))
       ·exact Nat.lt_of_not_le fun hle=>nrow k hle (hbo k hk1)
      case measure =>
       rw [hw]
       simp [intOf]
       omega
     ·obtain ⟨A2',A3',A8',A9',l2',k2',l3',k3',l8',k8',l9',k9',rfl⟩:=q3
      have hL:=look_yes hgm' q2
      gi_wp2
      obtain ⟨W2,hW2,hb2,hwr⟩:=set_ten hbx' (.int .i64 n'.slot) (.int .i64 n'.level) (.slice A2' l2' k2') (.slice A3' l3' k3') (.string n'.high) (.bool n'.top) (.int .i64 n'.right) (.int .i64 n'.seen) (.slice A8' l8' k8') (.slice A9' l9' k9')
      rw [hW2]
      have hs2:=hwr.oth
      have hz2:=hwr.size
      have hItW:ItW Bo W.heap.size W' W2:=⟨hwr.os,hwr.tape,hwr.output,Nat.le_of_eq hz2.symm,fun k hk1 hk2=>hs2 k fun e=>by
       rcases hk2 with hk2 | hk2
       ·omega
       ·exact nrow k (by omega) hk2⟩
      have hbo:∀ k,zf4 Bo W2 k->zf4 Bo W' k:=fun k ⟨o,a,b,h⟩=>⟨o,a,b,by rw [← h]; exact (World.cell?_of_block (w:=W') (hs2 Bo (by omega))).symm⟩
      have hw:(f:Int) - 1 = ((f - 1:Nat):Int):=by omega
      go_roundw
      case rel =>
       refine ⟨true,f - 1,n',_,_,rfl,by rw [hw],⟨A2',A3',A8',A9',l2',k2',l3',k3',l8',k8',l9',k9',rfl⟩,hb2,hJ _ _ _ hJ' hszW hItW,by simp; omega,?_,fun k o hk1 hk2 hk3 hk4=>?_,fun k hk1=>?_,by omega⟩
       ·rw [List.map_append,List.append_assoc,← htg]
        congr 1
        obtain ⟨f',rfl⟩:∃ f',f = f' + 1:=⟨f - 1,by omega⟩
        rw [z6j,if_pos he,q1]
        simp
       ·rw [hs2 k (by omega)]
        exact hk.same _ _ (hks k o hk1 hk2 hk3 hk4) hk4 hk2 (hnr k (Nat.le_of_lt hk1))
       ·exact Nat.lt_of_not_le fun hle=>nrow k hle (hbo k hk1)
      case measure =>
       rw [hw]
       simp [intOf]
       omega
    ·gi_wp2
     go_end0
     exact ⟨⟨_,rfl⟩,.inr ⟨_,hJx'⟩⟩
   ·have he':(n.level == level) = false:=by simp [he]
    gi_wp2
    refine ⟨fun _ h=>(by cases h),?_⟩
    gi_wp2
    go_end0
    refine ⟨⟨_,rfl⟩,.inl ⟨pre,?_,hJr⟩⟩
    have e:z6j l level f n = []:=by
     cases f with
     | zero=>rfl
     | succ f=>rw [z6j,if_neg he]
    rw [e] at htg
    simpa using htg
end
section
open Go.RowKit Go.Shelf Go.MapKept
attribute [local go_sem] Oper.semAt_some
theorem ItW.mono {Bo B B':Nat} {W W':World} (h:ItW Bo B W W') (hB:B'≤B):ItW Bo B' W W' :=
 ⟨h.os,h.tape,h.output,h.size,fun k hk hr=>h.same k hk (hr.imp (fun h=>Nat.lt_of_lt_of_le h hB) id)⟩
theorem KpN.trans {Bo:Nat} {A B C:World} (h:KpN Bo A B) (k:KpN Bo B C):KpN Bo A C:=by
 refine ⟨h.below.trans k.below,fun j o hj ho hne hr=>k.same j o (h.same j o hj ho hne hr) ho hne fun hr'=>?_,fun j hj=>?_⟩
 ·rcases h.row j hr' with q | q
  ·exact hr q
  ·have:=(Array.getElem?_eq_some_iff.1 hj).1; omega
 ·rcases k.row j hj with q | q
  ·exact h.row j q
  ·exact .inr (Nat.le_trans h.below.size q)
theorem KpN.put {Bo:Nat} (W:World) (l:Nat) (o o':Obj) (hl:Bo < l) (ho:W.heap[l]? = some o) (h1:o.isCells = false) (h2:o.isWalk = false):KpN Bo W (W.putObj l o'):=by
 refine ⟨⟨rfl,rfl,rfl,by simp [World.putObj],fun k hk=>World.putObj_heap_other (by omega)⟩,fun j o2 hj hc hne hr=>?_,fun j ⟨a,b,c,hj⟩=>.inl ⟨a,b,c,?_⟩⟩
 ·have:j ≠ l:=fun e=>by
   rw [e,ho] at hj; cases hj
   rcases hc with hc | hc
   ·rw [h1] at hc; cases hc
   ·rw [h2] at hc; cases hc
  exact (World.putObj_heap_other (by omega)).trans hj
 ·rw [← hj]; exact (World.cell?_of_block (w:=W) (World.putObj_heap_other (fun e=>by have e':Bo = l:=(by first | exact e | exact e.symm); omega))).symm
theorem KpN.alloc {Bo:Nat} (W:World) (o:Obj) (hB:Bo < W.heap.size):KpN Bo W (W.alloc o):=by
 refine ⟨(Below.refl _ W).alloc (Nat.le_of_lt hB) o,fun j o2 hj hc hne hr=>(Below.heap_alloc W o j (Array.getElem?_eq_some_iff.1 hj).1).trans hj,fun j ⟨a,b,c,hj⟩=>.inl ⟨a,b,c,?_⟩⟩
 rw [← hj]; exact (World.cell?_of_block (w:=W) (Below.heap_alloc W o Bo hB)).symm
theorem y2l {P:Program} {w:World} {g:Operand} {ps:Array Tmp} {assign body:Code} {Q:Exit->Act->World->Prop} {a:Act} {n:Nat}
  (h1:1≤n) {gf:Nat} {lb:Array Value} (hg:a.eval g = .func (.func gf) #[] lb) (eg:∀ args w,(callFunc gf args).run P w = .ok (.enter gf args) w)
  {Bo:Nat} (hBo:Bo < w.heap.size) {S:List Nv->Prop} {N:Nat}
  (hseq:∀ (l:Nat) (J Jx:List Nv->World->Prop) (W:World),Below w.heap.size w W->(∀ s A B',J s A->W.heap.size≤A.heap.size->ItW Bo W.heap.size A B'->J s B') ->
   (∀ pre x W1,J pre W1->pre.length < N->YieldAt Fence.wide (n - 1 - 1) P l (encN x) W1 fun e W'=>(e = .returned (.bool true)∧J (pre ++ [x]) W'∧KpN Bo W1 W')∨(e = .returned (.bool false)∧Jx (pre ++ [x]) W'))->J [] W ->
   CallsIn Fence.wide (n - 1) P gf (#[.func (.yield l) #[] #[]] ++ lb) W fun e W'=>(∃ v,e = .returned v)∧((∃ xs,S xs∧J xs W')∨(∃ pre,Jx pre W')))
  (hps:ps.size = 1) (I:List Nv->World->Prop) (hI:OwnFrom w.heap.size I) (hI2:∀ s A B',I s A->w.heap.size≤A.heap.size->ItW Bo w.heap.size A B'->I s B') (h0:I [] w) (Ax:Nv->Act->World->Prop) (hAx:∀ x a',OwnFrom w.heap.size (fun (_:Unit) W=>Ax x a' W))
  (hassign:∀ (l:Nat) (pre:List Nv) (x:Nv) (W:World) (K:Act->World->Prop),I pre W->(∀ a' W',KeepsFrom w.heap.size W W'->KpN Bo W W'->I pre W'->Ax x a' W'->K a' W') ->
   assign.wpIn (Fence.wide.inRound l) (n - 1 - 1) P (Exit.then K (fun _ _ _=>False)) { tmps:=(ps.zip (encN x)).foldl (fun t (p,v)=>t.setIfInBounds p v) a.tmps,defers:=[] } W)
  (hbody:∀ (l:Nat) (pre:List Nv) (x:Nv) (a':Act) (W:World),I pre W->Ax x a' W->pre.length < N->body.wpIn (Fence.wide.inRound l) (n - 1 - 1) P (ownPostG w.heap.size (KpN Bo) I (fun _ _ _=>False) (pre ++ [x]) W) a' W)
  (hdone:∀ (D:Nat) (xs:List Nv) (W:World),w.heap.size≤D->S xs->I xs W->W.heap[D]? = some (.deferred (some []))->Q .normal { a with defers:={ target:=.collected D,args:=#[] } :: a.defers } W) :
  (Code.rangeFunc g ps assign body).wpIn Fence.wide n P Q a w:=by
 refine wpIn_rangeFunc ?_
 intro fn hfn
 obtain ⟨rec,hrec⟩:∃ rec:LoopState->Option Code->Loop,rec = fun st pe=>{ state:=st,pending:=pe,fn,tmps:=a.tmps,params:=ps,assign,body,defers:=w.heap.size }:=⟨_,rfl⟩
 obtain ⟨W1,hW1⟩:∃ W1,(w.alloc (.deferred (some []))).alloc (.loop (rec .ready none)) = W1:=⟨_,rfl⟩
 have hL1:W1.heap[w.heap.size + 1]? = some (.loop (rec .ready none)):=by
  rw [← hW1]; have:=World.alloc_heap_new (w.alloc (.deferred (some []))) (.loop (rec .ready none)); rwa [World.size_alloc] at this
 have hK1:W1.heap[w.heap.size]? = some (.deferred (some [])):=by
  rw [← hW1]; exact (Below.heap_alloc _ _ _ (by simp)).trans (World.alloc_heap_new w _)
 have hI1:I [] W1:=by rw [← hW1]; exact hI.alloc _ (hI.alloc _ h0)
 have hb1:Below w.heap.size w W1:=by
  rw [← hW1]; exact ((Below.refl _ w).alloc (Nat.le_refl _) _).alloc (by simp) _
 have hz1:W1.heap.size = w.heap.size + 2:=by rw [← hW1]; simp
 refine ⟨w.heap.size + 1,[{ target:=.collected w.heap.size,args:=#[] }],W1,{ target:=.fn (.func gf) lb,args:=#[.func (.yield (w.heap.size + 1)) #[] #[]] },W1,gf,
  #[.func (.yield (w.heap.size + 1)) #[] #[]] ++ lb,W1,?_,?_,?_,?_,fun _=>h1,?_⟩
 ·rw [← hW1,hrec]; exact run_enterLoop_outer _ _ _ _ _
 ·simp only [resolve,hg]
  simp [go_sem]
 ·intro f' hf'; trivial
 ·simp [invoke,go_sem,eg]
 ·refine (hseq (w.heap.size + 1)
   (fun pre W=>I pre W∧W.heap[w.heap.size + 1]? = some (.loop (rec .ready none))∧W.heap[w.heap.size]? = some (.deferred (some [])))
   (fun _ _=>False) W1 hb1
   (fun s A B' hs hsz hi=>⟨hI2 s A B' hs.1 (by omega) (hi.mono (by omega)),
    (hi.same _ (Array.getElem?_eq_some_iff.1 hs.2.1).1 (.inl (by omega))).trans hs.2.1,(hi.same _ (Array.getElem?_eq_some_iff.1 hs.2.2).1 (.inl (by omega))).trans hs.2.2⟩)
   ?_ ⟨hI1,hL1,hK1⟩).mono ?_
  ·rintro pre x W ⟨hi,hl,hk⟩ hlen
   have hlt:w.heap.size + 1 < W.heap.size:=(Array.getElem?_eq_some_iff.1 hl).1
   have hy:=run_yield (P:=P) (args:=encN x) hl (by rw [hrec]; exact hps.symm)
   rw [hrec] at hy
   refine ⟨fn,_,assign,body,hy,roundIn_of_wpIn hfn (hassign _ pre x W _ hi ?_)⟩
   clear hy
   intro a' Wa hkfa hkpa hia hax
   replace hl:=hkfa.same _ _ (by omega) hl rfl
   replace hk:=hkfa.same _ _ (Nat.le_refl _) hk rfl
   replace hlt:w.heap.size + 1 < Wa.heap.size:=(Array.getElem?_eq_some_iff.1 hl).1
   replace hi:=hia
   clear hia
   revert hkpa hkfa
   generalize W = Wb
   intro hkfa hkpa
   obtain ⟨W,rfl⟩:∃ W,W = Wa:=⟨_,rfl⟩
   refine ⟨_,run_beginRound hl (by rw [hrec]),?_⟩
   have hl2:(W.putObj (w.heap.size + 1) (.loop { rec .ready none with state:=.busy })).heap[w.heap.size + 1]? = some (.loop { rec .ready none with state:=.busy }):=World.putObj_heap_same hlt
   have hk2:(W.putObj (w.heap.size + 1) (.loop { rec .ready none with state:=.busy })).heap[w.heap.size]? = some (.deferred (some [])):=(World.putObj_heap_other (by omega)).trans hk
   have hw2:KpN Bo W (W.putObj (w.heap.size + 1) (.loop { rec .ready none with state:=.busy })):=KpN.put _ _ _ _ (by omega) hl rfl rfl
   refine wpIn_mono (hbody _ pre x a' _ (hI.putObj _ hi (by omega) hl rfl) ((hAx x a').putObj (s:=()) _ hax (by omega) hl rfl) hlen) ?_
   rintro e a3 W3 hp
   cases e with
   | normal =>
    obtain ⟨hk3,hkp3,hi3⟩:=hp
    have hl3:=hk3.same _ _ (by omega) hl2 rfl
    have hr:=run_endRound (P:=P) none hl3
    have hl4:(W3.putObj (w.heap.size + 1) (.loop (rec .ready none))).heap[w.heap.size + 1]? = some (.loop (rec .ready none)):=World.putObj_heap_same (Array.getElem?_eq_some_iff.1 hl3).1
    have hk4:(W3.putObj (w.heap.size + 1) (.loop (rec .ready none))).heap[w.heap.size]? = some (.deferred (some [])):=(World.putObj_heap_other (by omega)).trans (hk3.same _ _ (Nat.le_refl _) hk2 rfl)
    refine ⟨_,_,hr,.inl ⟨rfl,⟨?_,?_,?_⟩,?_⟩⟩
    ·exact hI.putObj _ hi3 (by omega) hl3 rfl
    ·rw [hrec] at hl4 ⊢; exact hl4
    ·rw [hrec] at hk4 ⊢; exact hk4
    ·exact hkpa.trans ((hw2.trans hkp3).trans (KpN.put _ _ _ _ (by omega) hl3 rfl rfl))
   | ret=>exact hp.2.elim
   | exit id=>exact hp.2.elim
   | goto t=>exact hp.2.elim
   | panic ch=>exact hp.elim
   | outgrown=>exact hp.elim
  ·rintro e W2 ⟨⟨v,rfl⟩,(⟨xs,hS,hi,hl,hk⟩ | ⟨pre,hf⟩)⟩
   ·exact ⟨none,_,by have:=run_endLoop (P:=P) hl (by rw [hrec]; simp); rw [hrec] at this; exact this,hdone _ xs _ (Nat.le_refl _) hS (hI.putObj _ hi (by omega) hl rfl) ((World.putObj_heap_other (by omega)).trans hk)⟩
   ·exact hf.elim
end
section
open Go.RowKit Go.Shelf Go.MapKept
attribute [local go_sem] Oper.semAt_some
theorem infoI_ch:(Tryd.prog.info? 3).map (fun i=>(i.zero,i.size,i.bytes)) = some (some (.int .i64 0),1,8):=by kernel_rfl
theorem zw7 {Bo:Nat} {t:TypeId} {v:Value} {W:World} (h:Boxed W Bo t v) {n0:Nat} {e:TypeId} {z n:Nat} {xs:List Value} (hr:W.ownsRow n0 e z v n xs) {k:Nat} (hk:v.ownBlock = some k):zf4 Bo W k:=by
 rcases hr.2 with ⟨rfl,_⟩ | ⟨g,cap,cur,rfl,_⟩
 ·cases hk
 ·cases hk; exact ⟨_,_,_,h.cell⟩
def chI (n0:Nat) (pre:List Nv) (W:World):Prop:=(∃ v,Boxed W n0 23 v∧W.ownsRow n0 3 1 v pre.length (pre.map fun x=>Value.int .i64 x.1.2)∧True)
theorem chI_it {n0 B:Nat} {pre:List Nv} {A C:World} (h:chI n0 pre A) (hB:n0 < B) (hi:ItW n0 B A C):chI n0 pre C:=by
 obtain ⟨v,h1,h2,_⟩:=h
 refine ⟨v,(hi.same n0 h1.lt (.inl hB)).trans h1,⟨h2.1,?_⟩,trivial⟩
 rcases h2.2 with h | ⟨g,cap,cur,rfl,q1,q2,q3⟩
 ·exact .inl h
 ·exact .inr ⟨g,cap,cur,rfl,q1,(hi.same g (Array.getElem?_eq_some_iff.1 q2).1 (.inr ⟨0,_,_,h1.cell⟩)).trans q2,q3⟩
set_option maxHeartbeats 4000000 in
theorem y65 (l:List Nd) (hL:Lvl l) (level:Int) (r:Nd) (h0:ndAt l 0 = some r) (A:Option Addr) (cap:Nat) (w:World) (hG:Glob w) (hv:VR (wideN w) w (.sl (l.map Nd.a)) (.slice A l.length cap)) :
  Calls Tryd.prog 37 #[.slice A l.length cap,.int .i64 level] w fun e w'=>∃ v,e = .returned v∧Below w.heap.size w w'∧w'.ownsRow w.heap.size 3 1 v (z2n l r level).length (((z2n l r level).map fun n=>n.slot).map (Value.int .i64)):=by
 obtain ⟨i0,hi,hz0,hz1,hz2⟩:=info_parts infoI_ch
 have hll:=hL.len
 refine (callsIn_wide (n:=5)).1 ?_
 refine callsIn_of_wp_marks Tryd.func37 rfl trivial ?_ rfl
 simp only [Tryd.ntmps37,List.size_toArray,List.length_cons,List.length_nil,Nat.reduceAdd,Nat.reduceSub,Array.replicate_succ,Array.replicate_zero,List.push_toArray,List.append_toArray,List.nil_append,List.cons_append]
 gi_wp2_with (refine ⟨trivial,?_⟩; gi_at_call 58; refine (nodes_in Fence.wide 4 trivial rfl _ _ _ _ _).mono ?_; rintro e w' ⟨rfl,rfl⟩)
 have bO:=((Boxed.new w 23 (.slice none 0 0)).alloc (.cells #[.slice A l.length cap] 31)).alloc (.cells #[.int .i64 level] 3)
 have b1:=(Boxed.new (w.alloc (.cells #[.slice none 0 0] 23)) 31 (.slice A l.length cap)).alloc (.cells #[.int .i64 level] 3)
 have b2:=Boxed.new ((w.alloc (.cells #[.slice none 0 0] 23)).alloc (.cells #[.slice A l.length cap] 31)) 3 (.int .i64 level)
 have hB0:Below w.heap.size w (((w.alloc (.cells #[.slice none 0 0] 23)).alloc (.cells #[.slice A l.length cap] 31)).alloc (.cells #[.int .i64 level] 3)):=(((Below.refl _ w).alloc (Nat.le_refl _) _).alloc (by simp) _).alloc (by simp; omega) _
 have hsz:(((w.alloc (.cells #[.slice none 0 0] 23)).alloc (.cells #[.slice A l.length cap] 31)).alloc (.cells #[.int .i64 level] 3)).heap.size = w.heap.size + 3:=by simp
 simp only [World.size_alloc] at b1 b2 ⊢
 obtain ⟨W0,hW0⟩:∃ W0,((w.alloc (.cells #[.slice none 0 0] 23)).alloc (.cells #[.slice A l.length cap] 31)).alloc (.cells #[.int .i64 level] 3) = W0:=⟨_,rfl⟩
 rw [hW0] at bO b1 b2 hB0 hsz ⊢
 clear hW0
 refine y2l (n:=5) (by omega) (gf:=71) (lb:=#[.pointer (some ⟨w.heap.size + 1,0,none⟩),.pointer (some ⟨w.heap.size + 1 + 1,0,none⟩)]) rfl (enters_of Tryd.func71 (by kernel_rfl) rfl)
  (Bo:=w.heap.size) (by omega) (S:=fun xs=>xs.map (·.1.2) = (z2n l r level).map (·.slot)) (N:=l.length)
  (fun l' J Jx W hW hJ hY hJ0=>nodes1_in l hL level r h0 l' w.heap.size (w.heap.size + 1) (w.heap.size + 1 + 1) J Jx A l.length cap W0 W hW (by omega) (by omega) (by omega) (by omega) (by omega) (Glob.below hG hB0) (VR.belowN hv hB0) b1.cell b2.cell bO.cell hJ hY hJ0)
  rfl (fun pre W=>chI w.heap.size pre W∧Below w.heap.size w W)
  (OwnFrom.and (Own.from (holdsRow_own w.heap.size w.heap.size 23 3 1 (fun pre:List Nv=>pre.length) (fun pre=>pre.map fun x=>Value.int .i64 x.1.2) (fun _ _=>True)) _) (ownFrom_below (Nat.le_refl _) (by omega)))
  (fun pre X Y hs hz hi=>⟨chI_it hs.1 (by omega) hi,hs.2.trans ⟨hi.os,hi.tape,hi.output,hi.size,fun k hk=>hi.same k (Nat.lt_of_lt_of_le hk (Nat.le_trans (by omega) hz)) (.inl (by omega))⟩⟩)
  ⟨⟨_,bO,World.ownsRow_nil _ _ _ _,trivial⟩,hB0⟩
  (fun x a' W=>∃ Bx,w.heap.size < Bx∧W.heap[Bx]? = some (.cells x.1.1 27 (0,0))∧a' = { tmps:=#[.slice A l.length cap,.int .i64 level,undef,undef,.slice none 0 0,.pointer (some ⟨w.heap.size,0,none⟩),.pointer (some ⟨Bx,0,none⟩),.slice A l.length cap,.int .i64 level,.func (.func 71) #[] #[.pointer (some ⟨w.heap.size + 1,0,none⟩),.pointer (some ⟨w.heap.size + 1 + 1,0,none⟩)],.agg x.1.1,undef,undef,undef,undef,undef,undef],defers:=[] })
  (fun x a' _ X Y row hs hg hr=>by
   obtain ⟨Bx,q1,q2,q3⟩:=hs
   refine ⟨Bx,q1,(hg.block Bx (Array.getElem?_eq_some_iff.1 q2).1 fun e=>?_).trans q2,q3⟩
   obtain ⟨_,o,ho,hc⟩:=hr Bx e.symm
   rw [q2] at ho; cases ho; cases hc)
  ?assign ?body ?done
 case assign =>
  rintro l' pre ⟨⟨c,s⟩,n,hs,A2,A3,A8,A9,l2,k2,l3,k3,l8,k8,l9,k9,hcc⟩ W K ⟨⟨v,hbx,hrow,_⟩,hB⟩ hK
  simp only at hcc hs
  subst hcc
  subst hs
  simp only [encN]
  have hszW:=hbx.lt
  gi_wp2
  exact hK _ _ ((KeepsOthers.alloc _ _).from _) (KpN.alloc W _ hszW) ⟨⟨v,hbx.alloc _,hrow.alloc _,trivial⟩,hB.alloc hB.size _⟩ ⟨W.heap.size,hszW,World.alloc_heap_new _ _,rfl⟩
 case body =>
  rintro l' pre ⟨⟨c,s⟩,n,hs,A2,A3,A8,A9,l2,k2,l3,k3,l8,k8,l9,k9,hcc⟩ a' W ⟨⟨v,hbx,hrow,_⟩,hB⟩ ⟨Bx,q1,q2,rfl⟩ hlt
  simp only at hcc hs
  subst hcc
  subst hs
  have hc:=hbx.cell
  have hmx:1000≤maxLen:=by decide
  have hln:pre.length + 1≤200:=by omega
  have z0:W.cell? ⟨Bx,0,none⟩ = some (.int .i64 n.slot):=by rw [z04 q2]; rfl
  gi_wp2_with (gi_at_builtin; refine wpListIn_append_own_at _ rfl _ _ 23 rfl w.heap.size 3 i0 (.int .i64 0) 1 8 Tryd.underlying23 hi hz0 hz1 hz2 rfl (by decide) _ _ _ rfl (hrow.alloc _) ⟨W.heap.size,0,none⟩ 1 1 [.int .i64 n.slot] rfl rfl (cell_one_new _ _ _) (by simp [Value.oneCell']) (by omega) (by omega) (by have:=hB.size; simp; omega) ?_; intro v' w1 hown' hgrow _ hob; obtain ⟨g',cap',rfl⟩:=ownsRow_succ hown'; obtain ⟨hv1,hv2,hr2,hk2,hb2⟩:=hbx.appended (by decide) hrow hB.size (Nat.le_refl _) hown' hgrow; have hc1:=hv1.cell; have hf1:=hv1.frozen)
  refine ⟨hk2.from _,⟨hb2,fun k o hk ho hne hnr=>?_,fun k hk=>?_⟩,⟨⟨_,hv2,by simpa using hr2,trivial⟩,hB.trans hb2⟩⟩
  ·have hkz:=(Array.getElem?_eq_some_iff.1 hk).1
   rw [Below.heap_setCell _ _ _ _ hne,hgrow.block k (by simp; omega) (fun e=>hnr (zw7 hbx hrow e.symm)),Below.heap_alloc _ _ _ hkz]
   exact hk
  ·obtain ⟨o,a,b,hk⟩:=hk
   rw [hv2.cell] at hk
   cases hk
   rcases hob with e | e
   ·exact .inl (zw7 hbx hrow e.symm)
   ·cases e
    exact .inr (by simp)
 case done =>
  rintro D xs W hD hxs ⟨⟨v,hbx,hrow,_⟩,hB⟩ hK
  have hc:=hbx.cell
  gi_wp2
  refine ⟨by simp,.inl ⟨_,_,rfl,run_takeDeferred hK,?_⟩⟩
  have hr:=ownsRow_putObj hrow (.deferred none) hK rfl
  refine ⟨_,results_tmp rfl _ _ _,v,rfl,hB.trans (belowK_b (w:=w) (Nat.le_refl _) W D _ _ (by omega) hK rfl rfl),?_⟩
  have e1:xs.length = (z2n l r level).length:=by rw [← List.length_map (f:=fun x:Nv=>x.1.2),hxs,List.length_map]
  have e2:(xs.map fun x=>Value.int .i64 x.1.2) = ((z2n l r level).map fun n=>n.slot).map (Value.int .i64):=by rw [← hxs,List.map_map]; rfl
  rw [← e1,← e2]
  exact hr
end
section
open Go.RowKit Go.MapKept
theorem Whole.all {l:List Nd} {S:List Seat} (W:Whole l S) {n:Nd} (hn:n ∈ l):∃ x,x ∈ S∧x.n = n:=by
 obtain ⟨j,hj⟩:=List.mem_iff_getElem?.1 hn
 have hs:=W.ord j n hj
 have hjl:=(List.getElem?_eq_some_iff.1 hj).1
 have hnd:ndAt l n.slot = some n:=by unfold ndAt; rw [if_pos (by omega),hs,Int.toNat_natCast]; exact hj
 by_cases h:n.slot ∈ S.map fun x=>x.n.slot
 ·obtain ⟨x,hx,e⟩:=List.mem_map.1 h
  have:=W.seats.node x hx
  rw [e,hnd] at this
  exact ⟨x,hx,(Option.some.inj this).symm⟩
 ·exfalso
  have h1:(n.slot :: S.map fun x=>x.n.slot).Nodup:=List.nodup_cons.2 ⟨h,W.seats.nd⟩
  have h2:=zfd h1 (m:=(List.range l.length).map fun i:Nat=>(i:Int)) fun v hv=>by
   rcases List.mem_cons.1 hv with rfl | hv
   ·exact List.mem_map.2 ⟨j,List.mem_range.2 hjl,hs.symm⟩
   ·obtain ⟨x,hx,rfl⟩:=List.mem_map.1 hv
    obtain ⟨_,_,a,b⟩:=z0v W.ord (W.seats.node x hx)
    exact List.mem_map.2 ⟨x.n.slot.toNat,List.mem_range.2 (by omega),by omega⟩
  rw [List.length_cons,List.length_map,List.length_map,List.length_range,W.len] at h2
  omega
theorem Whole.lvl {l:List Nd} {S:List Seat} (W:Whole l S) {r:Nd} (hr:ndAt l 0 = some r):Lvl l:=by
 obtain ⟨z,R,hS,hz,_,hz2⟩:=W.root
 have ezr:z.n = r:=by rw [hr] at hz2; exact (Option.some.inj hz2).symm
 have hlow:=W.low hr
 have hlen:=W.len
 have hfew:=W.few
 refine ⟨W.ord,W.few,fun n hn=>?_,fun n hn h0=>?_⟩
 ·obtain ⟨x,hx,rfl⟩:=W.all hn
  refine ⟨W.seats.lev x hx,?_⟩
  have hF:=W.falls
  rw [hS] at hF hx
  rcases List.mem_cons.1 hx with rfl | hx
  ·rw [ezr]; omega
  ·have:=(List.pairwise_cons.1 hF).1 x hx
   rw [ezr] at this
   omega
 ·obtain ⟨x,hx,rfl⟩:=W.all hn
  have hk:=W.kids x hx h0
  cases hks:x.n.kids with
  | nil=>exact absurd hks hk
  | cons k q =>
   obtain ⟨_,y,hy,h1,h2⟩:=W.seats.kidm hx (k:=k) (by rw [hks]; exact List.mem_cons_self ..)
   refine ⟨k,q,y.n,rfl,?_,h2⟩
   rw [← h1]; exact W.seats.node y hy
theorem y9e (l:List Nd) (hL:Lvl l) (level:Int) (r:Nd) (h0:ndAt l 0 = some r):AFn Tryd.prog 37 [.sl (l.map Nd.a),.int .i64 level] (.own 1 3 (((z2n l r level).map fun n=>n.slot).map (AV.int .i64))):=by
 refine ⟨by kernel_rfl,fun w Pr vs hG hPr hlen hvs=>?_⟩
 match vs,hlen with
 | [v0,v1],_ =>
  have h1:=hvs 1 _ v1 rfl rfl
  have h0':=hvs 0 _ v0 rfl rfl
  cases h1
  have hw:=VR.wideN h0'
  obtain ⟨A,cap,rfl⟩:∃ A cap,v0 = .slice A l.length cap:=by
   cases h0' with
   | sl _ A cap z u=>exact ⟨A,cap,by rw [List.length_map]⟩
  refine (y65 l hL level r h0 A cap w hG hw).mono ?_
  rintro e w' ⟨v,rfl,hB,hr⟩
  refine ⟨v,rfl,hB,Nat.one_pos,fun d hd=>?_,?_⟩
  ·obtain ⟨q,_,rfl⟩:=List.mem_map.1 hd
   exact ⟨rfl,fun c hc=>by cases hc with | head=>rfl | tail _ h=>cases h⟩
  ·obtain ⟨hz,hr⟩:=hr
   rcases hr with ⟨rfl,h⟩ | ⟨g,cap',cur,rfl,q1,q2,q3,q4,q5,q6⟩
   ·left
    have:z2n l r level = []:=List.length_eq_zero_iff.1 h
    rw [this]; exact ⟨rfl,rfl⟩
   ·right
    refine ⟨g,cap',cur,by rw [List.length_map,List.length_map],q1,q2,by rw [q5],by rw [List.length_map,List.length_map]; exact q3,q4,fun i d j c hi hj=>?_⟩
    rw [List.getElem?_map] at hi
    obtain ⟨n,hn,rfl⟩:=Option.map_eq_some_iff.1 hi
    match j with
    | 0 =>
     cases hj
     refine ⟨.int .i64 n,?_,.int _ _⟩
     have e:cur.toList[i]? = some (.int .i64 n):=by
      have h1:(cur.toList.take ((z2n l r level).length * 1))[i]? = some (.int .i64 n):=by rw [q6,List.getElem?_map,hn]; rfl
      rw [List.getElem?_take] at h1
      split at h1
      ·exact h1
      ·cases h1
     simpa using e
    | j + 1=>cases hj
end
section
open Go.RowKit
attribute [local go_sem ↓] z1m z0h
def zwx:Reg:=⟨[],[⟨.alloc 3 29 (.agg [(.str ⟨#[]⟩),(.str ⟨#[]⟩),(.bool false)]),some 0,none,[],[]⟩],[0],[],false⟩
def zfv:List ROp:=[⟨.bld [(.str ⟨#[]⟩),(.str ⟨#[]⟩),(.bool false)] [⟨2,1,(.c (.bool true))⟩],some 1,none,[],[]⟩,⟨.store 3 (.t 0) (.t 1),none,none,[],[]⟩]
def zww:Reg:=⟨[],zfv,[],[],false⟩
def y8f:IR:=(.seq (.reg zwx)
 (.seq (.reg zww)
 .ret))
def zwa:List RDesc:=[(.cell 0 3 true)]
theorem e_spAll_0:EqR zwx [⟨.alloc 3 29 (.agg [(.str ⟨#[]⟩),(.str ⟨#[]⟩),(.bool false)]),some 0,none,[],[]⟩] [0]:=fun _ _ _=>rfl
theorem e_spAll_1:EqR zww zfv []:=fun _ _ _=>rfl
theorem fn_spAll {args:List AV} {r:AV} (ha:args.length.ble Tryd.f36.ntmps = true) (h:run (AFn Tryd.prog) y8f (endQ zwa r) (z0a args)):AFn Tryd.prog 36 args r :=
 AFn.of_code (pv:=false) (hint:=fun _=>[]) (c:=Tryd.f36.body.getD .skip) (by kernel_rfl) (by kernel_rfl) Tryd.func36 (by kernel_rfl) (by kernel_rfl) (by kernel_rfl) (of_decide_eq_true (by kernel_rfl)) (Nat.le_of_ble_eq_true ha) (Nat.le_of_ble_eq_true (by kernel_rfl)) (z0b h)
def zt6:Reg:=⟨[],[⟨.alloc 3 29 (.agg [(.str ⟨#[]⟩),(.str ⟨#[]⟩),(.bool false)]),some 4,none,[],[]⟩],[4],[],false⟩
def zcs:List ROp:=[⟨.mv (.t 1),some 6,none,[],[]⟩,⟨.bin .lss (.t 6) (.c (.int .i64 0)),some 7,none,[],[]⟩,⟨.mv (.t 7),some 8,none,[],[]⟩,⟨.mv (.t 1),some 9,(some (8,false)),[],[]⟩,⟨.mv (.t 0),some 10,(some (8,false)),[],[]⟩,⟨.len false (.t 10),some 11,(some (8,false)),[],[]⟩,⟨.bin .gtr (.t 9) (.t 11),some 12,(some (8,false)),[],[]⟩,⟨.pick (.t 8) (.c (.bool true)) (.t 12),some 13,none,[],[]⟩]
def zt5:Reg:=⟨[],zcs,[],[],false⟩
def zcr:List ROp:=[⟨.bld [(.str ⟨#[]⟩),(.str ⟨#[]⟩),(.bool false)] [],some 14,none,[],[]⟩,⟨.store 3 (.t 4) (.t 14),none,none,[],[]⟩]
def zt4:Reg:=⟨[],zcr,[],[],false⟩
def zcq:List ROp:=[⟨.callv (.c (.clo 36 [] [])) [],some 15,none,[5],[]⟩,⟨.alloc 3 29 (.agg [(.str ⟨#[]⟩),(.str ⟨#[]⟩),(.bool false)]),some 5,none,[],[]⟩,⟨.store 3 (.t 5) (.t 15),none,none,[],[]⟩]
def zt3:Reg:=⟨[],zcq,[15,5],[],false⟩
def zt2:Reg:=⟨[],[⟨.mv (.t 1),some 16,none,[],[]⟩,⟨.bin .gtr (.t 16) (.c (.int .i64 0)),some 17,none,[],[]⟩],[],[],false⟩
def zcp:List ROp:=[⟨.mv (.t 0),some 18,none,[],[]⟩,⟨.mv (.t 1),some 19,none,[],[]⟩,⟨.bin .sub (.t 19) (.c (.int .i64 1)),some 20,none,[],[]⟩,⟨.iaddr 1 (.t 18) (.t 20),some 21,none,[],[]⟩,⟨.load 1 false (.t 21),some 22,none,[],[]⟩,⟨.faddr 0 (.t 5),some 23,none,[],[]⟩,⟨.store 1 (.t 23) (.t 22),none,none,[],[]⟩]
def zt1:Reg:=⟨[],zcp,[],[],false⟩
def zco:List ROp:=[⟨.mv (.t 1),some 24,none,[],[]⟩,⟨.mv (.t 0),some 25,none,[],[]⟩,⟨.len false (.t 25),some 26,none,[],[]⟩,⟨.bin .lss (.t 24) (.t 26),some 27,none,[],[]⟩]
def zt0:Reg:=⟨[],zco,[],[],false⟩
def zcn:List ROp:=[⟨.mv (.t 0),some 28,none,[],[]⟩,⟨.mv (.t 1),some 29,none,[],[]⟩,⟨.iaddr 1 (.t 28) (.t 29),some 30,none,[],[]⟩,⟨.load 1 false (.t 30),some 31,none,[],[]⟩,⟨.faddr 1 (.t 5),some 32,none,[],[]⟩,⟨.store 1 (.t 32) (.t 31),none,none,[],[]⟩,⟨.faddr 2 (.t 5),some 33,none,[],[]⟩,⟨.store 1 (.t 33) (.c (.bool false)),none,none,[],[]⟩]
def zsz:Reg:=⟨[],zcn,[],[],false⟩
def zcm:List ROp:=[⟨.load 3 true (.t 5),some 34,none,[35],[]⟩,⟨.callv (.c (.clo 70 [] [])) [(.t 34)],some 35,none,[],[]⟩,⟨.store 3 (.t 4) (.t 35),none,none,[],[]⟩]
def zsy:Reg:=⟨[],zcm,[35],[],false⟩
def y1j:IR:=(.seq (.reg zt6)
 (.seq (.seq (.reg zt5)
 (.cond (.t 13) (.seq (.reg zt4)
 .ret)
 .skip))
 (.seq (.reg zt3)
 (.seq (.seq (.reg zt2)
 (.cond (.t 17) (.reg zt1)
 .skip))
 (.seq (.seq (.reg zt0)
 (.cond (.t 27) (.reg zsz)
 .skip))
 (.seq (.reg zsy)
 .ret))))))
def zo4:List RDesc:=[(.cell 4 3 true)]
theorem e_bRange_0:EqR zt6 [⟨.alloc 3 29 (.agg [(.str ⟨#[]⟩),(.str ⟨#[]⟩),(.bool false)]),some 4,none,[],[]⟩] [4]:=fun _ _ _=>rfl
theorem e_bRange_1:EqR zt5 zcs []:=fun _ _ _=>rfl
theorem e_bRange_2:EqR zt4 zcr []:=fun _ _ _=>rfl
theorem e_bRange_3:EqR zt3 zcq [15,5]:=fun _ _ _=>rfl
theorem e_bRange_4:EqR zt2 [⟨.mv (.t 1),some 16,none,[],[]⟩,⟨.bin .gtr (.t 16) (.c (.int .i64 0)),some 17,none,[],[]⟩] []:=fun _ _ _=>rfl
theorem e_bRange_5:EqR zt1 zcp []:=fun _ _ _=>rfl
theorem e_bRange_6:EqR zt0 zco []:=fun _ _ _=>rfl
theorem e_bRange_7:EqR zsz zcn []:=fun _ _ _=>rfl
theorem e_bRange_8:EqR zsy zcm [35]:=fun _ _ _=>rfl
theorem fn_bRange {args:List AV} {r:AV} (ha:args.length.ble Tryd.f57.ntmps = true) (h:run (AFn Tryd.prog) y1j (endQ zo4 r) (z0a args)):AFn Tryd.prog 57 args r :=
 AFn.of_code (pv:=false) (hint:=fun _=>[]) (c:=Tryd.f57.body.getD .skip) (by kernel_rfl) (by kernel_rfl) Tryd.func57 (by kernel_rfl) (by kernel_rfl) (by kernel_rfl) (of_decide_eq_true (by kernel_rfl)) (Nat.le_of_ble_eq_true ha) (Nat.le_of_ble_eq_true (by kernel_rfl)) (z0b h)
attribute [local go_sem ↓] y8f
attribute [local go_sem] zwa e_spAll_0 e_spAll_1 zfv
attribute [local go_sem ↓] y1j
attribute [local go_sem] zo4 e_bRange_0 e_bRange_1 zcs e_bRange_2 zcr e_bRange_3 zcq e_bRange_4 e_bRange_5 zcp e_bRange_6 zco e_bRange_7 zcn e_bRange_8 zcm
theorem spanAll:AFn Tryd.prog 36 [] (⟨nul0,nul0,true⟩:Spn).a:=by
 refine fn_spAll rfl ?_
 simp (maxSteps:=9^7) only [go_sem,↓reduceIte,reduceCtorEq,Nat.reduceEqDiff,Nat.reduceBEq,Nat.reduceAdd,Nat.reduceSub,Nat.reduceMul,Nat.reduceLT,Nat.reduceLeDiff,Nat.reduceBNe,Int.reduceBEq,Int.reduceBNe,Int.reduceLT,Int.reduceLE,Spn.a]
 all_goals rfl
theorem bRange_ok (p:List ByteArray) (j:Nat) (hp:p.length≤1000000000) (hj:j≤p.length) (hs:∀ x,x ∈ p->x.size≤9223372036854775807):AFn Tryd.prog 57 [.sl (p.map .str),.int .i64 j] (z0y p j).a:=by
 refine fn_bRange rfl ?_
 have cA:=spanAll
 have hget:∀ i,i < p.length->(p.map AV.str).getD i .und = .str (p.getD i nul0):=by
  intro i hi
  rw [List.getD_eq_getElem?_getD,List.getElem?_map,List.getD_eq_getElem?_getD,List.getElem?_eq_getElem hi]; rfl
 have n0:¬ (j:Int) < 0:=by omega
 have n1:¬ (p.length:Int) < (j:Int):=by omega
 have hm:j ≠ 0->IntKind.i64.wrap ((j:Int) - 1) = ((j - 1:Nat):Int):=fun h=>by rw [IntWalk.i64_in _ (by omega)]; omega
 have ok:∀ i,i < p.length->(p.getD i nul0).size≤9223372036854775807:=fun i hi=>hs _ (zff hi)
 have z:nul0.size≤9223372036854775807:=by decide
 unfold z0y
 by_cases h0:j = 0
 ·have p0:¬ (0:Int) < (j:Int):=by omega
  rw [if_pos h0]
  by_cases h1:j < p.length
  ·have q1:(j:Int) < (p.length:Int):=by omega
   have g1:=hget j h1
   rw [if_pos h1,decide_eq_true h1]
   have cN:=z6o ⟨nul0,p.getD j nul0,false⟩
   generalize p.getD j nul0 = a at *
   (repeat (first | simp (maxSteps:=9^7) only [go_sem,↓reduceIte,reduceCtorEq,Nat.reduceEqDiff,Nat.reduceBEq,Nat.reduceAdd,Nat.reduceSub,Nat.reduceMul,Nat.reduceLT,Nat.reduceLeDiff,Nat.reduceBNe,Int.reduceBEq,Int.reduceBNe,Int.reduceLT,Int.reduceLE,Spn.a,List.length_map,n0,n1,p0,q1,g1,Int.toNat_natCast] | refine z01 (cA) ?_ | refine z00 (cA) ?_ | refine z01 (cN) ?_ | refine z00 (cN) ?_ | refine And.intro (by omega) ?_ | refine And.intro (fun d hd=>by (repeat (rcases hd with rfl | hd; · exact ⟨rfl,rfl⟩)); cases hd) ?_))
   all_goals rfl
  ·have q1:¬ (j:Int) < (p.length:Int):=by omega
   rw [if_neg h1,decide_eq_false h1]
   have cN:=z6o ⟨nul0,nul0,true⟩
   (repeat (first | simp (maxSteps:=9^7) only [go_sem,↓reduceIte,reduceCtorEq,Nat.reduceEqDiff,Nat.reduceBEq,Nat.reduceAdd,Nat.reduceSub,Nat.reduceMul,Nat.reduceLT,Nat.reduceLeDiff,Nat.reduceBNe,Int.reduceBEq,Int.reduceBNe,Int.reduceLT,Int.reduceLE,Spn.a,List.length_map,n0,n1,p0,q1,Int.toNat_natCast] | refine z01 (cA) ?_ | refine z00 (cA) ?_ | refine z01 (cN) ?_ | refine z00 (cN) ?_ | refine And.intro (by omega) ?_ | refine And.intro (fun d hd=>by (repeat (rcases hd with rfl | hd; · exact ⟨rfl,rfl⟩)); cases hd) ?_))
   all_goals rfl
 ·have p0:(0:Int) < (j:Int):=by omega
  have hm:=hm h0
  have g0:=hget (j - 1) (by omega)
  have q0:((j - 1:Nat):Int) < (p.length:Int):=by omega
  have o0:=ok (j - 1) (by omega)
  rw [if_neg h0]
  by_cases h1:j < p.length
  ·have q1:(j:Int) < (p.length:Int):=by omega
   have g1:=hget j h1
   rw [if_pos h1,decide_eq_true h1]
   have cN:=z6o ⟨p.getD (j - 1) nul0,p.getD j nul0,false⟩
   generalize p.getD j nul0 = a at *
   generalize p.getD (j - 1) nul0 = b at *
   (repeat (first | simp (maxSteps:=9^7) only [go_sem,↓reduceIte,reduceCtorEq,Nat.reduceEqDiff,Nat.reduceBEq,Nat.reduceAdd,Nat.reduceSub,Nat.reduceMul,Nat.reduceLT,Nat.reduceLeDiff,Nat.reduceBNe,Int.reduceBEq,Int.reduceBNe,Int.reduceLT,Int.reduceLE,Spn.a,List.length_map,n0,n1,p0,q0,q1,g0,g1,hm,Int.toNat_natCast] | refine z01 (cA) ?_ | refine z00 (cA) ?_ | refine z01 (cN) ?_ | refine z00 (cN) ?_ | refine And.intro (by omega) ?_ | refine And.intro (fun d hd=>by (repeat (rcases hd with rfl | hd; · exact ⟨rfl,rfl⟩)); cases hd) ?_))
   all_goals rfl
  ·have q1:¬ (j:Int) < (p.length:Int):=by omega
   rw [if_neg h1,decide_eq_false h1]
   have cN:=z6o ⟨p.getD (j - 1) nul0,nul0,true⟩
   generalize p.getD (j - 1) nul0 = b at *
   (repeat (first | simp (maxSteps:=9^7) only [go_sem,↓reduceIte,reduceCtorEq,Nat.reduceEqDiff,Nat.reduceBEq,Nat.reduceAdd,Nat.reduceSub,Nat.reduceMul,Nat.reduceLT,Nat.reduceLeDiff,Nat.reduceBNe,Int.reduceBEq,Int.reduceBNe,Int.reduceLT,Int.reduceLE,Spn.a,List.length_map,n0,n1,p0,q0,q1,g0,hm,Int.toNat_natCast] | refine z01 (cA) ?_ | refine z00 (cA) ?_ | refine z01 (cN) ?_ | refine z00 (cN) ?_ | refine And.intro (by omega) ?_ | refine And.intro (fun d hd=>by (repeat (rcases hd with rfl | hd; · exact ⟨rfl,rfl⟩)); cases hd) ?_))
   all_goals rfl
end
section
open Go.RowKit Go.MapKept
theorem lkp_mem:∀ {q:List Nd} {n:Nd},(q.map fun n=>n.slot).Nodup->n ∈ q->lkp (z1p q) n.slot = some n.a
 | [],n,_,h=>by cases h
 | x :: q,n,hd,h=>by
  rw [List.map_cons,List.nodup_cons] at hd
  show (if n.slot == x.slot then some x.a else lkp (z1p q) n.slot) = _
  rcases List.mem_cons.1 h with rfl | h
  ·simp
  ·have:n.slot ≠ x.slot:=fun e=>hd.1 (by rw [← e]; exact List.mem_map.2 ⟨n,h,rfl⟩)
   rw [if_neg (by simpa using this)]
   exact lkp_mem hd.2 h
theorem zex:∀ {q:List Nd} {j:Nat} {x:Nd},(q.map fun n=>n.slot).Nodup->q[j]? = some x->q.eraseIdx j = q.filter fun n=>!(n.slot == x.slot)
 | [],j,x,_,h=>by simp at h
 | y :: q,0,x,hd,h=>by
  rw [List.map_cons,List.nodup_cons] at hd
  cases h
  rw [List.eraseIdx_cons_zero,List.filter_cons_of_neg (by simp)]
  symm
  rw [List.filter_eq_self]
  intro z hz
  have:z.slot ≠ y.slot:=fun e=>hd.1 (by rw [← e]; exact List.mem_map.2 ⟨z,hz,rfl⟩)
  simpa using this
 | y :: q,j + 1,x,hd,h=>by
  rw [List.map_cons,List.nodup_cons] at hd
  have h':q[j]? = some x:=by simpa using h
  have hx:=List.mem_of_getElem? h'
  have hne:y.slot ≠ x.slot:=fun e=>hd.1 (by rw [e]; exact List.mem_map.2 ⟨x,hx,rfl⟩)
  rw [List.eraseIdx_cons_succ,List.filter_cons_of_pos (by simpa using hne),zex hd.2 h']
def zf6 (l:List Nd) (gone:List Int):List Nd:=l.filter fun n=>!gone.contains n.slot
theorem zls {l:List Nd} (h:z3y l) (gone:List Int):((zf6 l gone).map fun n=>n.slot).Nodup:=by
 have h1:(l.map fun n=>n.slot).Nodup:=by
  rw [List.nodup_iff_pairwise_ne,List.pairwise_iff_getElem]
  intro i j hi hj hij e
  rw [List.length_map] at hi hj
  rw [List.getElem_map,List.getElem_map,h i _ (List.getElem?_eq_getElem hi),h j _ (List.getElem?_eq_getElem hj)] at e
  omega
 exact h1.sublist ((List.filter_sublist ..).map _)
theorem leftL_mem {l:List Nd} (h:z3y l) {gone:List Int} {s:Int} {n:Nd} (hn:ndAt l s = some n) (hg:s ∉ gone):n ∈ zf6 l gone∧n.slot = s:=by
 obtain ⟨h1,h2,_⟩:=z0v h hn
 exact ⟨List.mem_filter.2 ⟨h2,by rw [h1]; simpa using hg⟩,h1⟩
theorem y3q {l:List Nd} (h:z3y l) {gone:List Int} {j:Nat} {x:Nd} (hj:(zf6 l gone)[j]? = some x):(zf6 l gone).eraseIdx j = zf6 l (gone ++ [x.slot]):=by
 rw [zex (zls h gone) hj]
 unfold zf6
 rw [List.filter_filter]
 congr 1
 funext n
 rw [List.contains_eq_mem,List.contains_eq_mem]
 simp only [List.mem_append,List.mem_singleton]
 by_cases a:n.slot = x.slot <;> by_cases b:n.slot ∈ gone <;> simp [a,b]
theorem zfr:∀ (q:List Nd) (j:Nat),(z1p q).eraseIdx j = z1p (q.eraseIdx j)
 | [],j=>rfl
 | x :: q,0=>rfl
 | x :: q,j + 1=>by
  show (x.slot,x.a) :: (z1p q).eraseIdx j = _
  rw [zfr q j]; rfl
theorem MapR.erase {Pr:Nat->Nat->Prop} {w:World} {es:List (Int × AV)} {ms:Array MapEntry} {c:Nat} (h:MapR Pr w es ms c) {j:Nat} (hj:j < es.length):MapR Pr w (es.eraseIdx j) (ms.eraseIdxIfInBounds j) c:=by
 have hjm:j < ms.size:=by rw [← h.len]; exact hj
 have hel:(ms.eraseIdxIfInBounds j).toList = ms.toList.eraseIdx j:=by simp [Array.eraseIdxIfInBounds,hjm]
 have key:∀ (i:Nat) (e:Int × AV) (m:MapEntry),(es.eraseIdx j)[i]? = some e->(ms.eraseIdxIfInBounds j)[i]? = some m->∃ i':Nat,es[i']? = some e∧ms[i']? = some m:=by
  intro i e m he hm
  rw [← Array.getElem?_toList,hel,List.getElem?_eraseIdx] at hm
  rw [List.getElem?_eraseIdx] at he
  split at he
  ·rename_i hlt
   rw [if_pos hlt] at hm
   exact ⟨i,he,by simpa using hm⟩
  ·rename_i hlt
   rw [if_neg hlt] at hm
   exact ⟨i + 1,he,by simpa using hm⟩
 refine ⟨stamped_erase h.st j,?_,fun i e m he hm=>?_,fun i e m he hm=>?_⟩
 ·have hsz:(ms.eraseIdxIfInBounds j).size = ms.size - 1:=by
   rw [← Array.length_toList,hel,List.length_eraseIdx]
   simp [hjm]
  rw [hsz,List.length_eraseIdx,if_pos hj,h.len]
 ·obtain ⟨i',a,b⟩:=key i e m he hm; exact h.key i' e m a b
 ·obtain ⟨i',a,b⟩:=key i e m he hm; exact h.val i' e m a b
def rowA (a:Nat) (W:World) (k:Nat):Prop:=∃ o l c,W.cell? ⟨a,1,none⟩ = some (.slice (some ⟨k,o,none⟩) l c)
structure KpA (B a m:Nat) (W W':World):Prop where
 below:Below B W W'
 same:∀ k,k < W.heap.size->k ≠ a->k ≠ m->¬ rowA a W k->W'.heap[k]? = W.heap[k]?
 row:∀ k,rowA a W' k->rowA a W k∨W.heap.size≤k
theorem KpA.trans {B a m:Nat} {X Y Z:World} (h:KpA B a m X Y) (k:KpA B a m Y Z):KpA B a m X Z:=by
 refine ⟨h.below.trans k.below,fun j hj h1 h2 h3=>?_,fun j hj=>?_⟩
 ·refine (k.same j (Nat.lt_of_lt_of_le hj h.below.size) h1 h2 fun hr=>?_).trans (h.same j hj h1 h2 h3)
  rcases h.row j hr with q | q
  ·exact h3 q
  ·omega
 ·rcases k.row j hj with q | q
  ·exact h.row j q
  ·exact .inr (Nat.le_trans h.below.size q)
theorem KpA.of_below {B a m:Nat} {W W':World} (h:Below W.heap.size W W') (hB:B≤W.heap.size) (ha:a < W.heap.size):KpA B a m W W' :=
 ⟨h.mono hB,fun k hk _ _ _=>h.block k hk,fun k ⟨o,l,c,e⟩=>.inl ⟨o,l,c,by rw [← e]; exact (h.cell (p:=⟨a,1,none⟩) ha).symm⟩⟩
structure Art (w0:World) (l:List Nd) (a m:Nat) (W:World) (gone:List Int) (out:List ByteArray):Prop where
 bw:Below w0.heap.size w0 W
 ha:w0.heap.size≤a
 hm:w0.heap.size≤m
 ne:a ≠ m
 art:∃ v,W.heap[a]? = some (.cells #[.map (some m),v] 73 (0,0))∧W.ownsRow w0.heap.size 9 1 v out.length (out.map .string)
 map:∃ ms c,W.heap[m]? = some (.map ms c)∧MapR (wideN w0) w0 (z1p (zf6 l gone)) ms c
theorem Art.keep {w0:World} {l:List Nd} {a m:Nat} {W W':World} {gone:List Int} {out:List ByteArray} (h:Art w0 l a m W gone out) (hb:Below W.heap.size W W'):Art w0 l a m W' gone out:=by
 obtain ⟨v,h1,h2⟩:=h.art
 obtain ⟨ms,c,h3,h4⟩:=h.map
 have lt:∀ {k o},W.heap[k]? = some o->k < W.heap.size:=fun e=>(Array.getElem?_eq_some_iff.1 e).1
 refine ⟨h.bw.trans (hb.mono h.bw.size),h.ha,h.hm,h.ne,⟨v,(hb.block a (lt h1)).trans h1,h2.1,?_⟩,⟨ms,c,(hb.block m (lt h3)).trans h3,h4⟩⟩
 rcases h2.2 with q | ⟨g,cap,cur,e,q1,q2,q3⟩
 ·exact .inl q
 ·exact .inr ⟨g,cap,cur,e,q1,(hb.block g (lt q2)).trans q2,q3⟩
end
section
open Go.RowKit Go.MapKept
theorem mlook_one {g:Nat} {ms:Array MapEntry} {c j:Nat} {k:Int} {v:Value} {W:World} (hb:W.heap[g]? = some (.map ms c)) (hf:Instr.findNow (.int .i64) (.int .i64 k) ms.toList 0 = some (some (j,v))) :
  (Instr.lookup 71 (.map (some g)) (.int .i64 k) true).run Tryd.prog W = .ok (.tuple #[v,.bool true]) W:=by
 have ht:Tryd.prog.underlying 71 = some (.map 3 27):=by kernel_rfl
 have hkt:Tryd.prog.underlying 3 = some (.int .i64):=by kernel_rfl
 have hK:IsKey (.int .i64) (.int .i64 k):=rfl
 simp [Instr.lookup,run_underlying ht,Go.MapKept.run_getObj_map hb,run_checkKey hkt hK,run_findKey hkt hf]
structure OnlyB (g:Nat) (w w':World):Prop where
 os:w'.os = w.os
 tape:w'.tape = w.tape
 output:w'.output = w.output
 size:w'.heap.size = w.heap.size
 block:∀ k,k ≠ g->w'.heap[k]? = w.heap[k]?
theorem wp_del {o:Oper} {a:Act} {K:Act->World->Prop} {Q:Exit->Act->World->Prop} (W:World) (x y:Operand) (ho:o.op = .call { callee:=.builtin .delete,args:=#[x,y],argTypes:=#[71,3] })
  (g:Nat) (ms:Array MapEntry) (c j:Nat) (k:Int) (v:Value) (hx:a.eval x = .map (some g)) (hy:a.eval y = .int .i64 k) (hb:W.heap[g]? = some (.map ms c)) (hf:Instr.findNow (.int .i64) (.int .i64 k) ms.toList 0 = some (some (j,v)))
  (h:∀ W',W'.heap[g]? = some (.map (ms.eraseIdxIfInBounds j) c)->OnlyB g W W'->K (a.put o.dst undef) W'):o.wp Tryd.prog a W K Q:=by
 have ht:Tryd.prog.underlying 71 = some (.map 3 27):=by kernel_rfl
 have hkt:Tryd.prog.underlying 3 = some (.int .i64):=by kernel_rfl
 have hK:IsKey (.int .i64) (.int .i64 k):=rfl
 have hr:(Builtin.delete_ #[71,3] o.type #[.map (some g),.int .i64 k]).run Tryd.prog W = .ok (.tuple #[]) { W with heap:=W.heap.setIfInBounds g (.map (ms.eraseIdxIfInBounds j) c) }:=by
  simp [Builtin.delete_,run_underlying ht,Go.MapKept.run_getObj_map hb,run_checkKey hkt hK,run_findKey hkt hf,Go.MapKept.run_setObj_map _ hb]
 unfold Oper.wp execOp
 simp only [ho,resolve,invoke,builtin,Sem.run_bind,Sem.run_pure,Result.andThen_ok,List.map_toArray,List.map_cons,List.map_nil,hx,hy,hr]
 exact h _ (heap_set hb).1 ⟨rfl,rfl,rfl,by simp,fun q hq=>(heap_set hb).2 q hq⟩
theorem infoS_dr:(Tryd.prog.info? 9).map (fun i=>(i.zero,i.size,i.bytes)) = some (some (.string ⟨#[]⟩),1,16):=by kernel_rfl
theorem owns_below {X Y:World} {B:Nat} {e:TypeId} {z n:Nat} {v:Value} {xs:List Value} (h:X.ownsRow B e z v n xs) (hb:Below X.heap.size X Y):Y.ownsRow B e z v n xs:=by
 refine ⟨h.1,?_⟩
 rcases h.2 with q | ⟨g,cap,cur,e,q1,q2,q3⟩
 ·exact .inl q
 ·exact .inr ⟨g,cap,cur,e,q1,(hb.block g (Array.getElem?_eq_some_iff.1 q2).1).trans q2,q3⟩
theorem spn_vr {Pr:Nat->Nat->Prop} {w:World} (s:Spn):VR Pr w s.a (.agg #[.string s.lo,.string s.hi,.bool s.op]) :=
 .agg [.str s.lo,.str s.hi,.bool s.op] [.string s.lo,.string s.hi,.bool s.op] rfl (fun j c v a b=>by
  match j with
  | 0=>cases a; cases b; exact .str _
  | 1=>cases a; cases b; exact .str _
  | 2=>cases a; cases b; exact .bool _
  | j + 3=>simp at a)
theorem y2t {Pr:Nat->Nat->Prop} {w:World} {s:Spn} {v:Value} (h:VR Pr w s.a v):v = .agg #[.string s.lo,.string s.hi,.bool s.op]:=by
 unfold Spn.a at h
 cases h with
 | agg _ cs hl hc =>
  match cs,hl with
  | [v0,v1,v2],_ =>
   have h0:=hc 0 _ v0 rfl rfl
   have h1:=hc 1 _ v1 rfl rfl
   have h2:=hc 2 _ v2 rfl rfl
   cases h0; cases h1; cases h2
   rfl
theorem nd_kids {w:World} {n:Nd} {c:Array Value} (h:VR (wideN w) w n.a (.agg c)) {A2 A3:Option Addr} {l2 k2 l3 k3:Nat} (h2:c[2]? = some (.slice A2 l2 k2)) (h3:c[3]? = some (.slice A3 l3 k3)) :
  VR (wideN w) w (.sl (n.pivots.map .str)) (.slice A2 l2 k2)∧l3 = n.kids.length∧l3≤k3∧(∀ (j:Nat) (k:Int),n.kids[j]? = some k->∃ b off,A3 = some ⟨b,off,none⟩∧b < w.heap.size∧w.cell? ⟨b,off + j,none⟩ = some (.int .i64 k)):=by
 unfold Nd.a at h
 cases h with
 | agg _ cs hl hc =>
  have g2:cs[2]? = some (.slice A2 l2 k2):=by simpa using h2
  have g3:cs[3]? = some (.slice A3 l3 k3):=by simpa using h3
  have p2:=hc 2 _ _ rfl g2
  have p3:=hc 3 _ _ rfl g3
  refine ⟨p2,?_⟩
  cases p3 with
  | sl _ A cap z u hcap hmax hA hh =>
   rw [List.length_map] at *
   refine ⟨rfl,hcap,fun j k hk=>?_⟩
   have hj:=(List.getElem?_eq_some_iff.1 hk).1
   obtain ⟨b,off,e,hL⟩:=hA (by omega)
   have hz:z = 1:=by
    have:=hL.len (AV.int .i64 k) (List.mem_map.2 ⟨k,List.mem_of_getElem? hk,rfl⟩)
    exact this.symm
   subst hz
   obtain ⟨_,q⟩:=hL.at_ j 0 (by rw [List.length_map]; exact hj) (by omega)
   have hu:=hh j (.int .i64 k) 0 (.int .i64 k) (by rw [List.getElem?_map,hk]; rfl) rfl
   refine ⟨b,off,e,hL.lt,?_⟩
   rw [show off + j = off + (j * 1 + 0) by omega,q]
   cases hu':u j 0 with
   | int kk nn=>rw [hu'] at hu; cases hu; rfl
   | _=>rw [hu'] at hu; cases hu
theorem zv7 {X:World} {B:Nat} {e:TypeId} {z n:Nat} {v:Value} {xs:List Value} (h:X.ownsRow B e z v n xs) {k:Nat} {cs:Array Value} {t:TypeId} {fr:Nat × Nat} (hk:X.heap[k]? = some (.cells cs t fr)) (ht:t ≠ e):some k ≠ v.ownBlock:=by
 rcases h.2 with ⟨rfl,_⟩ | ⟨g,cap,cur,rfl,q1,q2,q3⟩
 ·intro e; cases e
 ·intro e; cases e; rw [q2] at hk; cases hk; exact ht rfl
theorem y38 {w:World} (hG:Glob w) (p:List ByteArray) (j:Nat) (hp:p.length≤2000) (hj:j≤p.length) (hs:∀ x,x ∈ p->x.size≤2000) {v:Value} (hv:VR (wideN w) w (.sl (p.map .str)) v) :
  Calls Tryd.prog 57 #[v,.int .i64 j] w fun e w'=>e = .returned (.agg #[.string (z0y p j).lo,.string (z0y p j).hi,.bool (z0y p j).op])∧Below w.heap.size w w':=by
 refine ((bRange_ok p j (by omega) hj (fun x hx=>by have:=hs x hx; omega)).calls w (wideN w) [v,.int .i64 j] hG (fun _ _ h=>h) rfl (fun i x u q1 q2=>by
  match i with
  | 0=>cases q1; cases q2; exact hv
  | 1=>cases q1; cases q2; exact .int _ _
  | i + 2=>simp at q1)).mono ?_
 rintro e w' ⟨v,rfl,hB,hR⟩
 have hR':=VR.wideN hR
 exact ⟨by rw [y2t hR'],hB⟩
theorem meet_calls {w:World} (hG:Glob w) (s t u:Spn) (hm:s.meet t = u) :
  Calls Tryd.prog 56 #[.agg #[.string s.lo,.string s.hi,.bool s.op],.agg #[.string t.lo,.string t.hi,.bool t.op]] w fun e w'=>e = .returned (.agg #[.string u.lo,.string u.hi,.bool u.op])∧Below w.heap.size w w':=by
 subst hm
 refine ((spanMeet s t).calls w (wideN w) [.agg #[.string s.lo,.string s.hi,.bool s.op],.agg #[.string t.lo,.string t.hi,.bool t.op]] hG (fun _ _ h=>h) rfl (fun i x u q1 q2=>by
  match i with
  | 0=>cases q1; cases q2; exact spn_vr s
  | 1=>cases q1; cases q2; exact spn_vr t
  | i + 2=>simp at q1)).mono ?_
 rintro e w' ⟨v,rfl,hB,hR⟩
 have hR':=VR.wideN hR
 exact ⟨by rw [y2t hR'],hB⟩
theorem owns_same {X Y:World} {B:Nat} {e:TypeId} {z n:Nat} {v:Value} {xs:List Value} (h:X.ownsRow B e z v n xs) (hb:∀ k,v.ownBlock = some k->Y.heap[k]? = X.heap[k]?):Y.ownsRow B e z v n xs:=by
 refine ⟨h.1,?_⟩
 rcases h.2 with q | ⟨g,cap,cur,rfl,q1,q2,q3⟩
 ·exact .inl q
 ·exact .inr ⟨g,cap,cur,rfl,q1,(hb g rfl).trans q2,q3⟩
theorem line_calls {w:World} (hG:Glob w) (n:Nd) (s:Spn) (d:Int) (h:n.Thin) (h1:s.lo.size≤2000) (h2:s.hi.size≤2000) {c:Array Value} (hn:VR (wideN w) w n.a (.agg c)) :
  Calls Tryd.prog 8 #[.agg c,.agg #[.string s.lo,.string s.hi,.bool s.op],.int .i64 d] w fun e w'=>e = .returned (.string (n.shp s d))∧Below w.heap.size w w':=by
 refine ((shLine_ok n s d h h1 h2).calls w (wideN w) [.agg c,.agg #[.string s.lo,.string s.hi,.bool s.op],.int .i64 d] hG (fun _ _ h=>h) rfl (fun j x v q1 q2=>by
  match j with
  | 0=>cases q1; cases q2; exact hn
  | 1 =>
   cases q1; cases q2
   exact .agg [.str s.lo,.str s.hi,.bool s.op] [.string s.lo,.string s.hi,.bool s.op] rfl (fun j c v a b=>by
    match j with
    | 0=>cases a; cases b; exact .str _
    | 1=>cases a; cases b; exact .str _
    | 2=>cases a; cases b; exact .bool _
    | j + 3=>simp at a)
  | 2=>cases q1; cases q2; exact .int _ _
  | j + 3=>simp at q1)).mono ?_
 rintro e w' ⟨v,rfl,hB,hR⟩
 have hR':=VR.wideN hR
 cases hR'
 exact ⟨rfl,hB⟩
end
end Go.Proofs.YtkfciapeikkmfaaDoor
