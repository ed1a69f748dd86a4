/-
  Part 13 of a proof: RyG, RyH, RyI, RyJ, RyO, RyP, RyN, RyQ, RyK.
-/
import Derived.Test.YtolocaankfcjiaaRR12
set_option linter.unusedVariables false
set_option linter.unusedSimpArgs false
set_option maxRecDepth 100000
namespace Go.Proofs.Ytolocaankfcjiaa
section
/-
 Layer 9 on the plain machine: the document's map behind an effect.
-/
open Go.RowKit
attribute [local go_sem ↓] z0s z0g
/-! ### percolate/percolateref09.With -/
def r_r9W_0:Reg:=⟨[],[⟨.box 2 80 (.t 2),some 5,none,[6],[]⟩,⟨.mknil 2 58,some 6,none,[],[]⟩],[5,6],[],false⟩
def r_r9W_1:Reg:=⟨[],[⟨.mknil 2 58,some 7,none,[],[]⟩],[7],[],false⟩
def r_r9W_2:Reg:=⟨[],[⟨.mv (.c (.int .i64 0)),some 8,none,[],[]⟩],[],[],false⟩
def zne:List ROp:=[⟨.mv (.t 8),some 14,none,[],[]⟩,⟨.mv (.t 0),some 15,none,[],[]⟩,⟨.len false (.t 15),some 16,none,[],[]⟩,⟨.bin .lss (.t 14) (.t 16),some 17,none,[],[]⟩]
def r_r9W_3:Reg:=⟨[],zne,[],[],false⟩
def znd:List ROp:=[⟨.mv (.t 0),some 20,none,[26],[]⟩,⟨.mv (.t 8),some 21,none,[26],[]⟩,⟨.iaddr 2 (.t 20) (.t 21),some 22,none,[26],[]⟩,⟨.faddr 0 (.t 22),some 23,none,[26],[]⟩,⟨.load 1 false (.t 23),some 24,none,[26],[]⟩,⟨.mv (.t 1),some 25,none,[26],[]⟩,⟨.callv (.c (.clo 73 [] [])) [(.t 24),(.t 25)],some 26,none,[],[]⟩]
def r_r9W_4:Reg:=⟨[],znd,[26],[],false⟩
def znc:List ROp:=[⟨.mv (.t 7),some 27,none,[32],[]⟩,⟨.mv (.t 0),some 28,none,[32],[]⟩,⟨.mv (.t 8),some 29,none,[32],[]⟩,⟨.iaddr 2 (.t 28) (.t 29),some 30,none,[32],[]⟩,⟨.load 2 true (.t 30),some 31,none,[32],[]⟩,⟨.bsl 2 58 [(.t 31)],some 32,none,[],[]⟩,⟨.append 2 58 32 (.t 27) (.t 32),some 33,none,[],[]⟩,⟨.mv (.t 33),some 7,none,[],[]⟩]
def r_r9W_5:Reg:=⟨[],znc,[32],[],false⟩
def znb:List ROp:=[⟨.mv (.t 8),some 18,none,[],[]⟩,⟨.bin .add (.t 18) (.c (.int .i64 1)),some 19,none,[],[]⟩,⟨.mv (.t 19),some 8,none,[],[]⟩]
def r_r9W_6:Reg:=⟨[],znb,[],[],false⟩
def zu4:IR:=(.seq (.seq (.reg r_r9W_3)
 (.cond (.t 17) .skip
 (.exit 0)))
 (.seq (.block 1 (.seq (.reg r_r9W_4)
 (.cond (.t 26) (.reg r_r9W_5)
 .skip)))
 (.reg r_r9W_6)))
def zna:List ROp:=[⟨.mv (.t 0),some 35,none,[37],[]⟩,⟨.mv (.t 1),some 36,none,[37],[]⟩,⟨.callv (.c (.clo 42 [] [])) [(.t 35),(.t 36)],some 37,none,[],[]⟩,⟨.mv (.t 37),some 34,none,[],[]⟩,⟨.ext 0 (.t 34),some 38,none,[],[]⟩,⟨.ext 1 (.t 34),some 39,none,[],[]⟩,⟨.mv (.t 38),some 9,none,[],[]⟩,⟨.mv (.t 39),some 10,none,[],[]⟩]
def r_r9W_8:Reg:=⟨[],zna,[37],[],false⟩
def zn9:List ROp:=[⟨.load 2 true (.t 5),some 41,none,[44],[]⟩,⟨.mv (.t 10),some 42,none,[44],[]⟩,⟨.mv (.t 9),some 43,none,[44],[]⟩,⟨.callv (.c (.clo 74 [] [])) [(.t 41),(.t 42),(.t 43)],some 44,none,[],[]⟩,⟨.mv (.t 44),some 40,none,[],[]⟩,⟨.ext 0 (.t 40),some 45,none,[],[]⟩,⟨.ext 1 (.t 40),some 46,none,[],[]⟩,⟨.mv (.t 45),some 11,none,[],[]⟩,⟨.mv (.t 46),some 12,none,[],[]⟩]
def r_r9W_9:Reg:=⟨[],zn9,[44],[],false⟩
def zuc:Reg:=⟨[],[⟨.mv (.t 11),some 47,none,[],[]⟩],[],[],false⟩
def zg8:List ROp:=[⟨.mv (.t 7),some 48,none,[52],[]⟩,⟨.mv (.t 1),some 49,none,[52],[]⟩,⟨.mv (.t 12),some 50,none,[52],[]⟩,⟨.bld [(.str ⟨#[]⟩),(.str ⟨#[]⟩)] [⟨0,1,(.t 49)⟩,⟨1,1,(.t 50)⟩],some 51,none,[52],[]⟩,⟨.bsl 2 58 [(.t 51)],some 52,none,[],[]⟩,⟨.append 2 58 32 (.t 48) (.t 52),some 53,none,[],[]⟩,⟨.mv (.t 53),some 7,none,[],[]⟩]
def zub:Reg:=⟨[],zg8,[52],[],false⟩
def zua:Reg:=⟨[],[⟨.mv (.c (.int .i64 0)),some 13,none,[],[]⟩],[],[],false⟩
def zg7:List ROp:=[⟨.mv (.t 13),some 54,none,[],[]⟩,⟨.mv (.t 0),some 55,none,[],[]⟩,⟨.len false (.t 55),some 56,none,[],[]⟩,⟨.bin .lss (.t 54) (.t 56),some 57,none,[],[]⟩]
def zu9:Reg:=⟨[],zg7,[],[],false⟩
def zg6:List ROp:=[⟨.mv (.t 1),some 60,none,[66],[]⟩,⟨.mv (.t 0),some 61,none,[66],[]⟩,⟨.mv (.t 13),some 62,none,[66],[]⟩,⟨.iaddr 2 (.t 61) (.t 62),some 63,none,[66],[]⟩,⟨.faddr 0 (.t 63),some 64,none,[66],[]⟩,⟨.load 1 false (.t 64),some 65,none,[66],[]⟩,⟨.callv (.c (.clo 73 [] [])) [(.t 60),(.t 65)],some 66,none,[],[]⟩]
def zu8:Reg:=⟨[],zg6,[66],[],false⟩
def zg5:List ROp:=[⟨.mv (.t 7),some 67,none,[72],[]⟩,⟨.mv (.t 0),some 68,none,[72],[]⟩,⟨.mv (.t 13),some 69,none,[72],[]⟩,⟨.iaddr 2 (.t 68) (.t 69),some 70,none,[72],[]⟩,⟨.load 2 true (.t 70),some 71,none,[72],[]⟩,⟨.bsl 2 58 [(.t 71)],some 72,none,[],[]⟩,⟨.append 2 58 32 (.t 67) (.t 72),some 73,none,[],[]⟩,⟨.mv (.t 73),some 7,none,[],[]⟩]
def zu7:Reg:=⟨[],zg5,[72],[],false⟩
def zg4:List ROp:=[⟨.mv (.t 13),some 58,none,[],[]⟩,⟨.bin .add (.t 58) (.c (.int .i64 1)),some 59,none,[],[]⟩,⟨.mv (.t 59),some 13,none,[],[]⟩]
def zu6:Reg:=⟨[],zg4,[],[],false⟩
def zbl:IR:=(.seq (.seq (.reg zu9)
 (.cond (.t 57) .skip
 (.exit 2)))
 (.seq (.block 3 (.seq (.reg zu8)
 (.cond (.t 66) (.reg zu7)
 .skip)))
 (.reg zu6)))
def zu5:Reg:=⟨[],[⟨.mv (.t 7),some 74,none,[],[]⟩,⟨.mv (.t 74),some 6,none,[],[]⟩],[],[],false⟩
def ir_r9W:IR:=(.seq (.reg r_r9W_0)
 (.seq (.reg r_r9W_1)
 (.seq (.seq (.reg r_r9W_2)
 (.block 0 (.loop zu4)))
 (.seq (.reg r_r9W_8)
 (.seq (.reg r_r9W_9)
 (.seq (.seq (.reg zuc)
 (.cond (.t 47) (.reg zub)
 .skip))
 (.seq (.seq (.reg zua)
 (.block 2 (.loop zbl)))
 (.seq (.reg zu5)
 .ret))))))))
def res_r9W:List RDesc:=[(.tmp 6)]
theorem e_r9W_0:EqR r_r9W_0 [⟨.box 2 80 (.t 2),some 5,none,[6],[]⟩,⟨.mknil 2 58,some 6,none,[],[]⟩] [5,6]:=fun _ _ _=>rfl
theorem e_r9W_1:EqR r_r9W_1 [⟨.mknil 2 58,some 7,none,[],[]⟩] [7]:=fun _ _ _=>rfl
theorem e_r9W_2:EqR r_r9W_2 [⟨.mv (.c (.int .i64 0)),some 8,none,[],[]⟩] []:=fun _ _ _=>rfl
theorem e_r9W_3:EqR r_r9W_3 zne []:=fun _ _ _=>rfl
theorem e_r9W_4:EqR r_r9W_4 znd [26]:=fun _ _ _=>rfl
theorem e_r9W_5:EqR r_r9W_5 znc [32]:=fun _ _ _=>rfl
theorem e_r9W_6:EqR r_r9W_6 znb []:=fun _ _ _=>rfl
theorem e_r9W_8:EqR r_r9W_8 zna [37]:=fun _ _ _=>rfl
theorem e_r9W_9:EqR r_r9W_9 zn9 [44]:=fun _ _ _=>rfl
theorem e_r9W_10:EqR zuc [⟨.mv (.t 11),some 47,none,[],[]⟩] []:=fun _ _ _=>rfl
theorem e_r9W_11:EqR zub zg8 [52]:=fun _ _ _=>rfl
theorem e_r9W_12:EqR zua [⟨.mv (.c (.int .i64 0)),some 13,none,[],[]⟩] []:=fun _ _ _=>rfl
theorem e_r9W_13:EqR zu9 zg7 []:=fun _ _ _=>rfl
theorem e_r9W_14:EqR zu8 zg6 [66]:=fun _ _ _=>rfl
theorem e_r9W_15:EqR zu7 zg5 [72]:=fun _ _ _=>rfl
theorem e_r9W_16:EqR zu6 zg4 []:=fun _ _ _=>rfl
theorem e_r9W_18:EqR zu5 [⟨.mv (.t 7),some 74,none,[],[]⟩,⟨.mv (.t 74),some 6,none,[],[]⟩] []:=fun _ _ _=>rfl
theorem fn_r9W {args:List AV} {r:AV} (ha:args.length.ble Try.f57.ntmps = true) (h:run (AFn Try.prog) ir_r9W (endQ res_r9W r) (z0b args)):AFn Try.prog 57 args r :=
 AFn.of_code (pv:=false) (hint:=fun _=>[]) (c:=Try.f57.body.getD .skip) (by kernel_rfl) (by kernel_rfl) Try.func57 (by kernel_rfl) (by kernel_rfl) (by kernel_rfl) (of_decide_eq_true (by kernel_rfl)) (Nat.le_of_ble_eq_true ha) (Nat.le_of_ble_eq_true (by kernel_rfl)) (z09 h)
attribute [local go_sem ↓] ir_r9W
attribute [local go_sem] res_r9W e_r9W_0 e_r9W_1 e_r9W_2 e_r9W_3 zne e_r9W_4 znd e_r9W_5 znc e_r9W_6 znb e_r9W_8 zna e_r9W_9 zn9 e_r9W_10 e_r9W_11 zg8 e_r9W_12 e_r9W_13 zg7 e_r9W_14 zg6 e_r9W_15 zg5 e_r9W_16 zg4 e_r9W_18
def lowL (l:List Par) (k:ByteArray):List Par:=l.filter fun p=>lt p.key k
def upL (l:List Par) (k:ByteArray):List Par:=l.filter fun p=>lt k p.key
def midL (l:List Par) (k:ByteArray) (e:Eff):List Par:=if (z4e e (hasK l k) (valK l k)).1 then [⟨k,(z4e e (hasK l k) (valK l k)).2⟩] else []
def z4r (l:List Par) (k:ByteArray) (e:Eff):List Par:=lowL l k ++ midL l k e ++ upL l k
def w1I (l:List Par) (k:ByteArray) (e:Eff) (m:Nat) (σ:St):Prop :=
 ∃ i:Nat,i≤l.length∧m = l.length - i∧σ.T 0 = .sl (l.map Par.a)∧σ.T 1 = .str k∧σ.T 5 = .ptr 5 0 0∧σ.H 5 = some ⟨2,80,[e.a],0⟩∧σ.T 8 = .int .i64 i∧σ.T 7 = .rs 7 0 (lowL (l.take i) k).length∧σ.H 7 = some ⟨2,58,(lowL (l.take i) k).map Par.a,0⟩
def w2I (l:List Par) (k:ByteArray) (B:List Par) (m:Nat) (σ:St):Prop :=
 ∃ i:Nat,i≤l.length∧m = l.length - i∧σ.T 0 = .sl (l.map Par.a)∧σ.T 1 = .str k∧σ.T 13 = .int .i64 i∧σ.T 7 = .rs 7 0 (B ++ upL (l.take i) k).length∧σ.H 7 = some ⟨2,58,(B ++ upL (l.take i) k).map Par.a,0⟩
set_option maxHeartbeats 8000000 in
theorem w2_loop (l:List Par) (k:ByteArray) (B:List Par) (hl:l.length≤100000) (hB:B.length≤1000000) (hk:k.size≤1000000) (hks:∀ p,p ∈ l->p.key.size≤1000000) (Q:XK->St->Prop)
  (hEnd:∀ σ,σ.T 7 = .rs 7 0 (B ++ upL l k).length->σ.H 7 = some ⟨2,58,(B ++ upL l k).map Par.a,0⟩->Q (.exit 2) σ) (m:Nat) (σ:St) (hI:w2I l k B m σ) :
  run (AFn Try.prog) zbl (z2d (fun σ'=>∃ n,n < m∧w2I l k B n σ') Q) σ:=by
 obtain ⟨i,hi,rfl,t0,t1,t13,t7,h7⟩:=hI
 simp only [zbl]
 by_cases hlt:i < l.length
 case neg =>
  have hlt':¬ (i:Int) < (l.length:Int):=by omega
  have e:l.take i = l:=List.take_of_length_le (by omega)
  rw [e] at t7 h7
  simp (maxSteps:=9^7) only [go_sem,↓reduceIte,reduceCtorEq,Nat.reduceEqDiff,Nat.reduceBEq,Nat.reduceAdd,Nat.reduceSub,Nat.reduceMul,Nat.reduceLT,Nat.reduceLeDiff,Nat.reduceBNe,Int.reduceBEq,Int.reduceBNe,Int.reduceLT,Int.reduceLE,Par.a,nul,Spn.a,Eff.a,Msg.a,t0,t1,t13,t7,h7,hlt',List.length_map]
  refine hEnd _ ?_ ?_
  iterate 2 focus ((simp (maxSteps:=9^7) only [go_sem,↓reduceIte,reduceCtorEq,Nat.reduceEqDiff,Nat.reduceBEq,Nat.reduceAdd,Nat.reduceSub,Nat.reduceMul,Nat.reduceLT,Nat.reduceLeDiff,Nat.reduceBNe,Int.reduceBEq,Int.reduceBNe,Int.reduceLT,Int.reduceLE,Par.a,nul,Spn.a,Eff.a,Msg.a,t7,h7]) <;> rfl)
 have hlt':(i:Int) < (l.length:Int):=by omega
 obtain ⟨x,hx⟩:=z1w hlt
 have hge:=z1b (f:=Par.a) hx
 simp only [Par.a] at hge
 have hw:=z5s (j:=i) (by omega)
 have hxs:=hks x (List.mem_of_getElem? hx)
 have c:=z72 k x.key (by omega) (by omega)
 have tk1:l.take (i + 1) = l.take i ++ [x]:=by rw [List.take_add_one,hx]; rfl
 have hul:(upL (l.take i) k).length≤l.length:=by
  have h1:=List.length_filter_le (fun p:Par=>lt k p.key) (l.take i)
  rw [List.length_take] at h1
  unfold upL; omega
 have un:B ++ upL (l.take (i + 1)) k = if lt k x.key then B ++ upL (l.take i) k ++ [x] else B ++ upL (l.take i) k:=by
  rw [tk1]; unfold upL; rw [List.filter_append]
  cases h:lt k x.key <;> simp [h]
 have hol:(B ++ upL (l.take i) k).length≤1100000:=by rw [List.length_append]; omega
 generalize B ++ upL (l.take i) k = out at *
 cases hh:lt k x.key with
 | false =>
  rw [hh] at c un
  have un':B ++ upL (l.take (i + 1)) k = out:=un
  (repeat (first | simp (maxSteps:=9^7) only [go_sem,↓reduceIte,reduceCtorEq,Nat.reduceEqDiff,Nat.reduceBEq,Nat.reduceAdd,Nat.reduceSub,Nat.reduceMul,Nat.reduceLT,Nat.reduceLeDiff,Nat.reduceBNe,Int.reduceBEq,Int.reduceBNe,Int.reduceLT,Int.reduceLE,Par.a,nul,Spn.a,Eff.a,Msg.a,t0,t1,t13,t7,h7,hlt',hlt,hge,hw,List.length_map,Int.toNat_natCast] | refine z01 (c) ?_ | refine z00 (c) ?_ | refine And.intro (by omega) ?_ | refine And.intro (fun d hd=>by (repeat (rcases hd with rfl | hd; · exact ⟨rfl,rfl⟩)); cases hd) ?_))
  refine ⟨l.length - (i + 1),by omega,i + 1,by omega,rfl,?_,?_,?_,?_,?_⟩
  iterate 3 focus ((simp (maxSteps:=9^7) only [go_sem,↓reduceIte,reduceCtorEq,Nat.reduceEqDiff,Nat.reduceBEq,Nat.reduceAdd,Nat.reduceSub,Nat.reduceMul,Nat.reduceLT,Nat.reduceLeDiff,Nat.reduceBNe,Int.reduceBEq,Int.reduceBNe,Int.reduceLT,Int.reduceLE,Par.a,nul,Spn.a,Eff.a,Msg.a,t0,t1,hw]) <;> rfl)
  ·rw [un']; simp (maxSteps:=9^7) only [go_sem,↓reduceIte,reduceCtorEq,Nat.reduceEqDiff,Nat.reduceBEq,Nat.reduceAdd,Nat.reduceSub,Nat.reduceMul,Nat.reduceLT,Nat.reduceLeDiff,Nat.reduceBNe,Int.reduceBEq,Int.reduceBNe,Int.reduceLT,Int.reduceLE,Par.a,nul,Spn.a,Eff.a,Msg.a,t7]
  ·rw [un']; simp (maxSteps:=9^7) only [go_sem,↓reduceIte,reduceCtorEq,Nat.reduceEqDiff,Nat.reduceBEq,Nat.reduceAdd,Nat.reduceSub,Nat.reduceMul,Nat.reduceLT,Nat.reduceLeDiff,Nat.reduceBNe,Int.reduceBEq,Int.reduceBNe,Int.reduceLT,Int.reduceLE,Par.a,nul,Spn.a,Eff.a,Msg.a,h7]
 | true =>
  rw [hh] at c un
  rw [if_pos rfl] at un
  have tk:List.take out.length (out.map Par.a) = out.map Par.a:=List.take_of_length_le (by simp)
  have ho1:(out ++ [x]).map Par.a = out.map Par.a ++ [.agg [.str x.key,.str x.val]]:=List.map_append
  have ho2:(out ++ [x]).length = out.length + 1:=List.length_append
  (repeat (first | simp (maxSteps:=9^7) only [go_sem,↓reduceIte,reduceCtorEq,Nat.reduceEqDiff,Nat.reduceBEq,Nat.reduceAdd,Nat.reduceSub,Nat.reduceMul,Nat.reduceLT,Nat.reduceLeDiff,Nat.reduceBNe,Int.reduceBEq,Int.reduceBNe,Int.reduceLT,Int.reduceLE,Par.a,nul,Spn.a,Eff.a,Msg.a,t0,t1,t13,t7,h7,hlt',hlt,hge,hw,tk,List.length_map,Int.toNat_natCast] | refine z01 (c) ?_ | refine z00 (c) ?_ | refine And.intro (by omega) ?_ | refine And.intro (fun d hd=>by (repeat (rcases hd with rfl | hd; · exact ⟨rfl,rfl⟩)); cases hd) ?_))
  refine ⟨⟨by omega,fun d hd=>?_⟩,l.length - (i + 1),by omega,i + 1,by omega,rfl,?_,?_,?_,?_,?_⟩
  ·rcases hd with rfl | hd
   ·exact ⟨rfl,rfl⟩
   ·cases hd
  iterate 3 focus ((simp (maxSteps:=9^7) only [go_sem,↓reduceIte,reduceCtorEq,Nat.reduceEqDiff,Nat.reduceBEq,Nat.reduceAdd,Nat.reduceSub,Nat.reduceMul,Nat.reduceLT,Nat.reduceLeDiff,Nat.reduceBNe,Int.reduceBEq,Int.reduceBNe,Int.reduceLT,Int.reduceLE,Par.a,nul,Spn.a,Eff.a,Msg.a,t0,t1,hw]) <;> rfl)
  ·rw [un,ho2]; simp (maxSteps:=9^7) only [go_sem,↓reduceIte,reduceCtorEq,Nat.reduceEqDiff,Nat.reduceBEq,Nat.reduceAdd,Nat.reduceSub,Nat.reduceMul,Nat.reduceLT,Nat.reduceLeDiff,Nat.reduceBNe,Int.reduceBEq,Int.reduceBNe,Int.reduceLT,Int.reduceLE,Par.a,nul,Spn.a,Eff.a,Msg.a]
  ·rw [un,ho1]; simp (maxSteps:=9^7) only [go_sem,↓reduceIte,reduceCtorEq,Nat.reduceEqDiff,Nat.reduceBEq,Nat.reduceAdd,Nat.reduceSub,Nat.reduceMul,Nat.reduceLT,Nat.reduceLeDiff,Nat.reduceBNe,Int.reduceBEq,Int.reduceBNe,Int.reduceLT,Int.reduceLE,Par.a,nul,Spn.a,Eff.a,Msg.a,h7,tk]
set_option maxHeartbeats 8000000 in
theorem r9W_ok (l:List Par) (k:ByteArray) (e:Eff) (ho:KOrd l) (hl:l.length≤100000) (hk:k.size≤1000000) (he:e.val.size≤1000000) (hks:∀ p,p ∈ l->p.key.size≤1000000∧p.val.size≤1000000):AFn Try.prog 57 [.sl (l.map Par.a),.str k,e.a] (.own 2 58 ((z4r l k e).map Par.a)):=by
 refine fn_r9W rfl ?_
 simp (maxSteps:=9^7) only [go_sem,↓reduceIte,reduceCtorEq,Nat.reduceEqDiff,Nat.reduceBEq,Nat.reduceAdd,Nat.reduceSub,Nat.reduceMul,Nat.reduceLT,Nat.reduceLeDiff,Nat.reduceBNe,Int.reduceBEq,Int.reduceBNe,Int.reduceLT,Int.reduceLE,Par.a,nul,Spn.a,Eff.a,Msg.a]
 refine z0f (w1I l k e) (k:=l.length) ⟨0,Nat.zero_le _,rfl,?_,?_,?_,?_,?_,?_,?_⟩ ?_
 iterate 7 focus ((simp (maxSteps:=9^7) only [go_sem,↓reduceIte,reduceCtorEq,Nat.reduceEqDiff,Nat.reduceBEq,Nat.reduceAdd,Nat.reduceSub,Nat.reduceMul,Nat.reduceLT,Nat.reduceLeDiff,Nat.reduceBNe,Int.reduceBEq,Int.reduceBNe,Int.reduceLT,Int.reduceLE,Par.a,nul,Spn.a,Eff.a,Msg.a]) <;> rfl)
 rintro m σ ⟨i,hi,rfl,t0,t1,t5,h5,t8,t7,h7⟩
 simp only [Eff.a] at h5
 simp only [zu4]
 by_cases hlt:i < l.length
 case neg =>
  have hlt':¬ (i:Int) < (l.length:Int):=by omega
  have et:l.take i = l:=List.take_of_length_le (by omega)
  rw [et] at t7 h7
  have c1:=r9G_ok l k ho (by omega)
  have hvs:(valK l k).size≤1000000:=by
   unfold valK
   cases hasK l k with
   | false=>rw [if_neg (by decide)]; decide
   | true =>
    rw [if_pos rfl]
    cases hx:l[lowN l k]? with
    | none=>decide
    | some x=>exact (hks x (List.mem_of_getElem? hx)).2
  have c2:=r4A_ok e (hasK l k) (valK l k) (by omega)
  simp only [Eff.a] at c2
  unfold z4r midL
  obtain ⟨r,hr⟩:∃ r,z4e e (hasK l k) (valK l k) = r:=⟨_,rfl⟩
  rw [hr] at c2 ⊢
  obtain ⟨rb,rv⟩:=r
  have hll:(lowL l k).length≤l.length:=List.length_filter_le _ _
  have tk:List.take (lowL l k).length ((lowL l k).map Par.a) = (lowL l k).map Par.a:=List.take_of_length_le (by simp)
  have fin:∀ (L:List Par),∀ σ':St,L.length≤200000->σ'.T 7 = .rs 7 0 L.length->σ'.H 7 = some ⟨2,58,L.map Par.a,0⟩->True:=fun _ _ _ _ _=>trivial
  cases rb with
  | false =>
   simp only [Bool.false_eq_true,if_false] at c2 ⊢
   rw [List.append_nil]
   (repeat (first | simp (maxSteps:=9^7) only [go_sem,↓reduceIte,reduceCtorEq,Nat.reduceEqDiff,Nat.reduceBEq,Nat.reduceAdd,Nat.reduceSub,Nat.reduceMul,Nat.reduceLT,Nat.reduceLeDiff,Nat.reduceBNe,Int.reduceBEq,Int.reduceBNe,Int.reduceLT,Int.reduceLE,Par.a,nul,Spn.a,Eff.a,Msg.a,t0,t1,t5,h5,t8,t7,h7,hlt',List.length_map] | refine z01 (c1) ?_ | refine z00 (c1) ?_ | refine z01 (c2) ?_ | refine z00 (c2) ?_ | refine And.intro (by omega) ?_ | refine And.intro (fun d hd=>by (repeat (rcases hd with rfl | hd; · exact ⟨rfl,rfl⟩)); cases hd) ?_))
   refine z0f (w2I l k (lowL l k)) (k:=l.length) ⟨0,Nat.zero_le _,rfl,?_,?_,?_,?_,?_⟩ (w2_loop l k (lowL l k) hl (by omega) hk (fun p hp=>(hks p hp).1) _ ?_)
   iterate 3 focus ((simp (maxSteps:=9^7) only [go_sem,↓reduceIte,reduceCtorEq,Nat.reduceEqDiff,Nat.reduceBEq,Nat.reduceAdd,Nat.reduceSub,Nat.reduceMul,Nat.reduceLT,Nat.reduceLeDiff,Nat.reduceBNe,Int.reduceBEq,Int.reduceBNe,Int.reduceLT,Int.reduceLE,Par.a,nul,Spn.a,Eff.a,Msg.a,t0,t1]) <;> rfl)
   ·rw [List.take_zero]; unfold upL; rw [List.filter_nil,List.append_nil]; simp (maxSteps:=9^7) only [go_sem,↓reduceIte,reduceCtorEq,Nat.reduceEqDiff,Nat.reduceBEq,Nat.reduceAdd,Nat.reduceSub,Nat.reduceMul,Nat.reduceLT,Nat.reduceLeDiff,Nat.reduceBNe,Int.reduceBEq,Int.reduceBNe,Int.reduceLT,Int.reduceLE,Par.a,nul,Spn.a,Eff.a,Msg.a,t7]
   ·rw [List.take_zero]; unfold upL; rw [List.filter_nil,List.append_nil]; simp (maxSteps:=9^7) only [go_sem,↓reduceIte,reduceCtorEq,Nat.reduceEqDiff,Nat.reduceBEq,Nat.reduceAdd,Nat.reduceSub,Nat.reduceMul,Nat.reduceLT,Nat.reduceLeDiff,Nat.reduceBNe,Int.reduceBEq,Int.reduceBNe,Int.reduceLT,Int.reduceLE,Par.a,nul,Spn.a,Eff.a,Msg.a,h7]
   intro σ2 u7 v7
   have tk2:List.take (lowL l k ++ upL l k).length ((lowL l k ++ upL l k).map Par.a) = (lowL l k ++ upL l k).map Par.a:=List.take_of_length_le (by simp)
   generalize lowL l k ++ upL l k = Z at *
   simp (maxSteps:=9^7) only [go_sem,↓reduceIte,reduceCtorEq,Nat.reduceEqDiff,Nat.reduceBEq,Nat.reduceAdd,Nat.reduceSub,Nat.reduceMul,Nat.reduceLT,Nat.reduceLeDiff,Nat.reduceBNe,Int.reduceBEq,Int.reduceBNe,Int.reduceLT,Int.reduceLE,Par.a,nul,Spn.a,Eff.a,Msg.a,u7,v7,tk2,List.length_map]
  | true =>
   simp only [if_true] at c2 ⊢
   have ho1:(lowL l k ++ [(⟨k,rv⟩:Par)]).map Par.a = (lowL l k).map Par.a ++ [.agg [.str k,.str rv]]:=List.map_append
   have ho2:(lowL l k ++ [(⟨k,rv⟩:Par)]).length = (lowL l k).length + 1:=List.length_append
   (repeat (first | simp (maxSteps:=9^7) only [go_sem,↓reduceIte,reduceCtorEq,Nat.reduceEqDiff,Nat.reduceBEq,Nat.reduceAdd,Nat.reduceSub,Nat.reduceMul,Nat.reduceLT,Nat.reduceLeDiff,Nat.reduceBNe,Int.reduceBEq,Int.reduceBNe,Int.reduceLT,Int.reduceLE,Par.a,nul,Spn.a,Eff.a,Msg.a,t0,t1,t5,h5,t8,t7,h7,hlt',tk,List.length_map] | refine z01 (c1) ?_ | refine z00 (c1) ?_ | refine z01 (c2) ?_ | refine z00 (c2) ?_ | refine And.intro (by omega) ?_ | refine And.intro (fun d hd=>by (repeat (rcases hd with rfl | hd; · exact ⟨rfl,rfl⟩)); cases hd) ?_))
   refine ⟨⟨by omega,fun d hd=>?_⟩,?_⟩
   ·rcases hd with rfl | hd
    ·exact ⟨rfl,rfl⟩
    ·cases hd
   refine z0f (w2I l k (lowL l k ++ [(⟨k,rv⟩:Par)])) (k:=l.length) ⟨0,Nat.zero_le _,rfl,?_,?_,?_,?_,?_⟩ (w2_loop l k (lowL l k ++ [(⟨k,rv⟩:Par)]) hl (by omega) hk (fun p hp=>(hks p hp).1) _ ?_)
   iterate 3 focus ((simp (maxSteps:=9^7) only [go_sem,↓reduceIte,reduceCtorEq,Nat.reduceEqDiff,Nat.reduceBEq,Nat.reduceAdd,Nat.reduceSub,Nat.reduceMul,Nat.reduceLT,Nat.reduceLeDiff,Nat.reduceBNe,Int.reduceBEq,Int.reduceBNe,Int.reduceLT,Int.reduceLE,Par.a,nul,Spn.a,Eff.a,Msg.a,t0,t1]) <;> rfl)
   ·rw [List.take_zero]; unfold upL; rw [List.filter_nil,List.append_nil,ho2]; simp (maxSteps:=9^7) only [go_sem,↓reduceIte,reduceCtorEq,Nat.reduceEqDiff,Nat.reduceBEq,Nat.reduceAdd,Nat.reduceSub,Nat.reduceMul,Nat.reduceLT,Nat.reduceLeDiff,Nat.reduceBNe,Int.reduceBEq,Int.reduceBNe,Int.reduceLT,Int.reduceLE,Par.a,nul,Spn.a,Eff.a,Msg.a]
   ·rw [List.take_zero]; unfold upL; rw [List.filter_nil,List.append_nil,ho1]; simp (maxSteps:=9^7) only [go_sem,↓reduceIte,reduceCtorEq,Nat.reduceEqDiff,Nat.reduceBEq,Nat.reduceAdd,Nat.reduceSub,Nat.reduceMul,Nat.reduceLT,Nat.reduceLeDiff,Nat.reduceBNe,Int.reduceBEq,Int.reduceBNe,Int.reduceLT,Int.reduceLE,Par.a,nul,Spn.a,Eff.a,Msg.a,h7,tk]
   intro σ2 u7 v7
   have tk2:List.take (lowL l k ++ [(⟨k,rv⟩:Par)] ++ upL l k).length ((lowL l k ++ [(⟨k,rv⟩:Par)] ++ upL l k).map Par.a) = (lowL l k ++ [(⟨k,rv⟩:Par)] ++ upL l k).map Par.a:=List.take_of_length_le (by simp)
   generalize lowL l k ++ [(⟨k,rv⟩:Par)] ++ upL l k = Z at *
   simp (maxSteps:=9^7) only [go_sem,↓reduceIte,reduceCtorEq,Nat.reduceEqDiff,Nat.reduceBEq,Nat.reduceAdd,Nat.reduceSub,Nat.reduceMul,Nat.reduceLT,Nat.reduceLeDiff,Nat.reduceBNe,Int.reduceBEq,Int.reduceBNe,Int.reduceLT,Int.reduceLE,Par.a,nul,Spn.a,Eff.a,Msg.a,u7,v7,tk2,List.length_map]
 have hlt':(i:Int) < (l.length:Int):=by omega
 obtain ⟨x,hx⟩:=z1w hlt
 have hge:=z1b (f:=Par.a) hx
 simp only [Par.a] at hge
 have hw:=z5s (j:=i) (by omega)
 have hxs:=(hks x (List.mem_of_getElem? hx)).1
 have c:=z72 x.key k (by omega) (by omega)
 have tk1:l.take (i + 1) = l.take i ++ [x]:=by rw [List.take_add_one,hx]; rfl
 have hul:(lowL (l.take i) k).length≤l.length:=by
  have h1:=List.length_filter_le (fun p:Par=>lt p.key k) (l.take i)
  rw [List.length_take] at h1
  unfold lowL; omega
 have un:lowL (l.take (i + 1)) k = if lt x.key k then lowL (l.take i) k ++ [x] else lowL (l.take i) k:=by
  rw [tk1]; unfold lowL; rw [List.filter_append]
  cases h:lt x.key k <;> simp [h]
 generalize lowL (l.take i) k = out at *
 cases hh:lt x.key k with
 | false =>
  rw [hh] at c un
  have un':lowL (l.take (i + 1)) k = out:=un
  (repeat (first | simp (maxSteps:=9^7) only [go_sem,↓reduceIte,reduceCtorEq,Nat.reduceEqDiff,Nat.reduceBEq,Nat.reduceAdd,Nat.reduceSub,Nat.reduceMul,Nat.reduceLT,Nat.reduceLeDiff,Nat.reduceBNe,Int.reduceBEq,Int.reduceBNe,Int.reduceLT,Int.reduceLE,Par.a,nul,Spn.a,Eff.a,Msg.a,t0,t1,t5,h5,t8,t7,h7,hlt',hlt,hge,hw,List.length_map,Int.toNat_natCast] | refine z01 (c) ?_ | refine z00 (c) ?_ | refine And.intro (by omega) ?_ | refine And.intro (fun d hd=>by (repeat (rcases hd with rfl | hd; · exact ⟨rfl,rfl⟩)); cases hd) ?_))
  refine ⟨l.length - (i + 1),by omega,i + 1,by omega,rfl,?_,?_,?_,?_,?_,?_,?_⟩
  iterate 5 focus ((simp (maxSteps:=9^7) only [go_sem,↓reduceIte,reduceCtorEq,Nat.reduceEqDiff,Nat.reduceBEq,Nat.reduceAdd,Nat.reduceSub,Nat.reduceMul,Nat.reduceLT,Nat.reduceLeDiff,Nat.reduceBNe,Int.reduceBEq,Int.reduceBNe,Int.reduceLT,Int.reduceLE,Par.a,nul,Spn.a,Eff.a,Msg.a,t0,t1,t5,h5,hw]) <;> rfl)
  ·rw [un']; simp (maxSteps:=9^7) only [go_sem,↓reduceIte,reduceCtorEq,Nat.reduceEqDiff,Nat.reduceBEq,Nat.reduceAdd,Nat.reduceSub,Nat.reduceMul,Nat.reduceLT,Nat.reduceLeDiff,Nat.reduceBNe,Int.reduceBEq,Int.reduceBNe,Int.reduceLT,Int.reduceLE,Par.a,nul,Spn.a,Eff.a,Msg.a,t7]
  ·rw [un']; simp (maxSteps:=9^7) only [go_sem,↓reduceIte,reduceCtorEq,Nat.reduceEqDiff,Nat.reduceBEq,Nat.reduceAdd,Nat.reduceSub,Nat.reduceMul,Nat.reduceLT,Nat.reduceLeDiff,Nat.reduceBNe,Int.reduceBEq,Int.reduceBNe,Int.reduceLT,Int.reduceLE,Par.a,nul,Spn.a,Eff.a,Msg.a,h7]
 | true =>
  rw [hh] at c un
  rw [if_pos rfl] at un
  have tk:List.take out.length (out.map Par.a) = out.map Par.a:=List.take_of_length_le (by simp)
  have ho1:(out ++ [x]).map Par.a = out.map Par.a ++ [.agg [.str x.key,.str x.val]]:=List.map_append
  have ho2:(out ++ [x]).length = out.length + 1:=List.length_append
  (repeat (first | simp (maxSteps:=9^7) only [go_sem,↓reduceIte,reduceCtorEq,Nat.reduceEqDiff,Nat.reduceBEq,Nat.reduceAdd,Nat.reduceSub,Nat.reduceMul,Nat.reduceLT,Nat.reduceLeDiff,Nat.reduceBNe,Int.reduceBEq,Int.reduceBNe,Int.reduceLT,Int.reduceLE,Par.a,nul,Spn.a,Eff.a,Msg.a,t0,t1,t5,h5,t8,t7,h7,hlt',hlt,hge,hw,tk,List.length_map,Int.toNat_natCast] | refine z01 (c) ?_ | refine z00 (c) ?_ | refine And.intro (by omega) ?_ | refine And.intro (fun d hd=>by (repeat (rcases hd with rfl | hd; · exact ⟨rfl,rfl⟩)); cases hd) ?_))
  refine ⟨⟨by omega,fun d hd=>?_⟩,l.length - (i + 1),by omega,i + 1,by omega,rfl,?_,?_,?_,?_,?_,?_,?_⟩
  ·rcases hd with rfl | hd
   ·exact ⟨rfl,rfl⟩
   ·cases hd
  iterate 5 focus ((simp (maxSteps:=9^7) only [go_sem,↓reduceIte,reduceCtorEq,Nat.reduceEqDiff,Nat.reduceBEq,Nat.reduceAdd,Nat.reduceSub,Nat.reduceMul,Nat.reduceLT,Nat.reduceLeDiff,Nat.reduceBNe,Int.reduceBEq,Int.reduceBNe,Int.reduceLT,Int.reduceLE,Par.a,nul,Spn.a,Eff.a,Msg.a,t0,t1,t5,h5,hw]) <;> rfl)
  ·rw [un,ho2]; simp (maxSteps:=9^7) only [go_sem,↓reduceIte,reduceCtorEq,Nat.reduceEqDiff,Nat.reduceBEq,Nat.reduceAdd,Nat.reduceSub,Nat.reduceMul,Nat.reduceLT,Nat.reduceLeDiff,Nat.reduceBNe,Int.reduceBEq,Int.reduceBNe,Int.reduceLT,Int.reduceLE,Par.a,nul,Spn.a,Eff.a,Msg.a]
  ·rw [un,ho1]; simp (maxSteps:=9^7) only [go_sem,↓reduceIte,reduceCtorEq,Nat.reduceEqDiff,Nat.reduceBEq,Nat.reduceAdd,Nat.reduceSub,Nat.reduceMul,Nat.reduceLT,Nat.reduceLeDiff,Nat.reduceBNe,Int.reduceBEq,Int.reduceBNe,Int.reduceLT,Int.reduceLE,Par.a,nul,Spn.a,Eff.a,Msg.a,h7,tk]
end
section
/-
 Layer 9 on the plain machine: the document's map behind a message.
-/
open Go.RowKit
attribute [local go_sem ↓] z0s z0g
/-! ### percolate/percolateref09.Take -/
def r_r9T_0:Reg:=⟨[],[⟨.box 6 70 (.t 1),some 3,none,[4],[]⟩,⟨.mknil 2 58,some 4,none,[],[]⟩],[3,4],[],false⟩
def znk:List ROp:=[⟨.faddr 1 (.t 3),some 7,none,[],[]⟩,⟨.load 1 false (.t 7),some 8,none,[],[]⟩,⟨.bin .neq (.t 8) (.c (.int .i64 4)),some 9,none,[],[]⟩]
def r_r9T_1:Reg:=⟨[],znk,[],[],false⟩
def znj:List ROp:=[⟨.callv (.c (.clo 57 [] [])) [(.t 10),(.t 12),(.t 16)],some 17,none,[],[]⟩,⟨.mv (.t 17),some 4,none,[],[]⟩]
def zqk:List ROp:=[⟨.mv (.t 0),some 10,none,[16,17],[]⟩,⟨.faddr 2 (.t 3),some 11,none,[16,17],[]⟩,⟨.load 1 false (.t 11),some 12,none,[16,17],[]⟩,⟨.load 6 true (.t 3),some 13,none,[16,17],[]⟩,⟨.faddr 2 (.t 3),some 14,none,[16,17],[]⟩,⟨.load 1 false (.t 14),some 15,none,[16,17],[]⟩,⟨.callv (.c (.clo 58 [] [])) [(.t 13),(.t 15)],some 16,none,[17],[]⟩]
def r_r9T_2:Reg:=⟨zqk,znj,[16,17],[],true⟩
def r_r9T_3:Reg:=⟨[],[⟨.mknil 2 58,some 5,none,[],[]⟩],[5],[],false⟩
def r_r9T_4:Reg:=⟨[],[⟨.mv (.c (.int .i64 0)),some 6,none,[],[]⟩],[],[],false⟩
def zni:List ROp:=[⟨.mv (.t 6),some 18,none,[],[]⟩,⟨.mv (.t 0),some 19,none,[],[]⟩,⟨.len false (.t 19),some 20,none,[],[]⟩,⟨.bin .lss (.t 18) (.t 20),some 21,none,[],[]⟩]
def r_r9T_5:Reg:=⟨[],zni,[],[],false⟩
def znh:List ROp:=[⟨.callv (.c (.clo 56 [] [])) [(.t 25),(.t 30)],some 31,none,[],[]⟩,⟨.un .not (.t 31),some 32,none,[],[]⟩]
def zqj:List ROp:=[⟨.load 6 true (.t 3),some 24,none,[25,31],[]⟩,⟨.callv (.c (.clo 59 [] [])) [(.t 24)],some 25,none,[31],[]⟩,⟨.mv (.t 0),some 26,none,[25,31],[]⟩,⟨.mv (.t 6),some 27,none,[25,31],[]⟩,⟨.iaddr 2 (.t 26) (.t 27),some 28,none,[25,31],[]⟩,⟨.faddr 0 (.t 28),some 29,none,[25,31],[]⟩,⟨.load 1 false (.t 29),some 30,none,[25,31],[]⟩]
def r_r9T_6:Reg:=⟨zqj,znh,[25,31],[],true⟩
def zng:List ROp:=[⟨.mv (.t 5),some 33,none,[38],[]⟩,⟨.mv (.t 0),some 34,none,[38],[]⟩,⟨.mv (.t 6),some 35,none,[38],[]⟩,⟨.iaddr 2 (.t 34) (.t 35),some 36,none,[38],[]⟩,⟨.load 2 true (.t 36),some 37,none,[38],[]⟩,⟨.bsl 2 58 [(.t 37)],some 38,none,[],[]⟩,⟨.append 2 58 32 (.t 33) (.t 38),some 39,none,[],[]⟩,⟨.mv (.t 39),some 5,none,[],[]⟩]
def r_r9T_7:Reg:=⟨[],zng,[38],[],false⟩
def znf:List ROp:=[⟨.mv (.t 6),some 22,none,[],[]⟩,⟨.bin .add (.t 22) (.c (.int .i64 1)),some 23,none,[],[]⟩,⟨.mv (.t 23),some 6,none,[],[]⟩]
def r_r9T_8:Reg:=⟨[],znf,[],[],false⟩
def zud:IR:=(.seq (.seq (.reg r_r9T_5)
 (.cond (.t 21) .skip
 (.exit 0)))
 (.seq (.block 1 (.seq (.reg r_r9T_6)
 (.cond (.t 32) (.reg r_r9T_7)
 .skip)))
 (.reg r_r9T_8)))
def zue:Reg:=⟨[],[⟨.mv (.t 5),some 40,none,[],[]⟩,⟨.mv (.t 40),some 4,none,[],[]⟩],[],[],false⟩
def ir_r9T:IR:=(.seq (.reg r_r9T_0)
 (.seq (.seq (.reg r_r9T_1)
 (.cond (.t 9) (.seq (.reg r_r9T_2)
 .ret)
 .skip))
 (.seq (.reg r_r9T_3)
 (.seq (.seq (.reg r_r9T_4)
 (.block 0 (.loop zud)))
 (.seq (.reg zue)
 .ret)))))
def res_r9T:List RDesc:=[(.tmp 4)]
theorem e_r9T_0:EqR r_r9T_0 [⟨.box 6 70 (.t 1),some 3,none,[4],[]⟩,⟨.mknil 2 58,some 4,none,[],[]⟩] [3,4]:=fun _ _ _=>rfl
theorem e_r9T_1:EqR r_r9T_1 znk []:=fun _ _ _=>rfl
theorem e_r9T_2 (C:FuncId->List AV->AV->Prop) (σ:St) (K:St->Prop):z0l C r_r9T_2 σ K = z0a C [] znj zqk (σ.kills [16,17]) K:=rfl
theorem e_r9T_3:EqR r_r9T_3 [⟨.mknil 2 58,some 5,none,[],[]⟩] [5]:=fun _ _ _=>rfl
theorem e_r9T_4:EqR r_r9T_4 [⟨.mv (.c (.int .i64 0)),some 6,none,[],[]⟩] []:=fun _ _ _=>rfl
theorem e_r9T_5:EqR r_r9T_5 zni []:=fun _ _ _=>rfl
theorem e_r9T_6 (C:FuncId->List AV->AV->Prop) (σ:St) (K:St->Prop):z0l C r_r9T_6 σ K = z0a C [] znh zqj (σ.kills [25,31]) K:=rfl
theorem e_r9T_7:EqR r_r9T_7 zng [38]:=fun _ _ _=>rfl
theorem e_r9T_8:EqR r_r9T_8 znf []:=fun _ _ _=>rfl
theorem e_r9T_10:EqR zue [⟨.mv (.t 5),some 40,none,[],[]⟩,⟨.mv (.t 40),some 4,none,[],[]⟩] []:=fun _ _ _=>rfl
theorem fn_r9T {args:List AV} {r:AV} (ha:args.length.ble Try.f45.ntmps = true) (h:run (AFn Try.prog) ir_r9T (endQ res_r9T r) (z0b args)):AFn Try.prog 45 args r :=
 AFn.of_code (pv:=false) (hint:=fun _=>[]) (c:=Try.f45.body.getD .skip) (by kernel_rfl) (by kernel_rfl) Try.func45 (by kernel_rfl) (by kernel_rfl) (by kernel_rfl) (of_decide_eq_true (by kernel_rfl)) (Nat.le_of_ble_eq_true ha) (Nat.le_of_ble_eq_true (by kernel_rfl)) (z09 h)
attribute [local go_sem ↓] ir_r9T
attribute [local go_sem] res_r9T e_r9T_0 e_r9T_1 znk e_r9T_2 znj zqk e_r9T_3 e_r9T_4 e_r9T_5 zni e_r9T_6 znh zqj e_r9T_7 zng e_r9T_8 znf e_r9T_10
def outL (l:List Par) (s:Spn):List Par:=l.filter fun p=>!s.has p.key
def z4u (l:List Par) (m:Msg):List Par:=if m.kind = 4 then outL l m.span else z4r l m.key (m.on m.key)
def r9TI (l:List Par) (m:Msg) (n:Nat) (σ:St):Prop :=
 ∃ i:Nat,i≤l.length∧n = l.length - i∧σ.T 0 = .sl (l.map Par.a)∧σ.T 3 = .ptr 3 0 0∧σ.H 3 = some ⟨6,70,[m.a],0⟩∧σ.T 6 = .int .i64 i∧σ.T 5 = .rs 5 0 (outL (l.take i) m.span).length∧σ.H 5 = some ⟨2,58,(outL (l.take i) m.span).map Par.a,0⟩
set_option maxHeartbeats 8000000 in
theorem r9T_ok (l:List Par) (m:Msg) (ho:KOrd l) (hl:l.length≤100000) (h1:m.key.size≤1000000) (h2:m.hi.size≤1000000) (h3:m.val.size≤1000000) (hks:∀ p,p ∈ l->p.key.size≤1000000∧p.val.size≤1000000):AFn Try.prog 45 [.sl (l.map Par.a),m.a] (.own 2 58 ((z4u l m).map Par.a)):=by
 refine fn_r9T rfl ?_
 unfold z4u
 cases h4:(m.kind == 4) with
 | false =>
  have h4':¬ m.kind = 4:=by simpa using h4
  have h4n:(m.kind != 4) = true:=by simp [h4']
  rw [if_neg h4']
  have c1:=refOn m m.key (by omega) (by omega) (by omega)
  have c2:=r9W_ok l m.key (m.on m.key) ho hl h1 (Nat.le_trans (zpw m m.key) h3) hks
  generalize m.on m.key = e at *
  have tk:List.take (z4r l m.key e).length ((z4r l m.key e).map Par.a) = (z4r l m.key e).map Par.a:=List.take_of_length_le (by simp)
  generalize z4r l m.key e = Z at *
  simp only [Eff.a,Msg.a] at c1 c2
  (repeat (first | simp (maxSteps:=9^7) only [go_sem,↓reduceIte,reduceCtorEq,Nat.reduceEqDiff,Nat.reduceBEq,Nat.reduceAdd,Nat.reduceSub,Nat.reduceMul,Nat.reduceLT,Nat.reduceLeDiff,Nat.reduceBNe,Int.reduceBEq,Int.reduceBNe,Int.reduceLT,Int.reduceLE,Par.a,nul,Spn.a,Eff.a,Msg.a,h4,h4n,tk,List.length_map,List.drop_zero] | refine z01 (c1) ?_ | refine z00 (c1) ?_ | refine z01 (c2) ?_ | refine z00 (c2) ?_ | refine And.intro (by omega) ?_ | refine And.intro (fun d hd=>by (repeat (rcases hd with rfl | hd; · exact ⟨rfl,rfl⟩)); cases hd) ?_))
 | true =>
  have h4':m.kind = 4:=by simpa using h4
  have h4n:(m.kind != 4) = false:=by simp [h4']
  rw [if_pos h4']
  simp (maxSteps:=9^7) only [go_sem,↓reduceIte,reduceCtorEq,Nat.reduceEqDiff,Nat.reduceBEq,Nat.reduceAdd,Nat.reduceSub,Nat.reduceMul,Nat.reduceLT,Nat.reduceLeDiff,Nat.reduceBNe,Int.reduceBEq,Int.reduceBNe,Int.reduceLT,Int.reduceLE,Par.a,nul,Spn.a,Eff.a,Msg.a,h4,h4n]
  refine z0f (r9TI l m) (k:=l.length) ⟨0,Nat.zero_le _,rfl,?_,?_,?_,?_,?_,?_⟩ ?_
  iterate 6 focus ((simp (maxSteps:=9^7) only [go_sem,↓reduceIte,reduceCtorEq,Nat.reduceEqDiff,Nat.reduceBEq,Nat.reduceAdd,Nat.reduceSub,Nat.reduceMul,Nat.reduceLT,Nat.reduceLeDiff,Nat.reduceBNe,Int.reduceBEq,Int.reduceBNe,Int.reduceLT,Int.reduceLE,Par.a,nul,Spn.a,Eff.a,Msg.a]) <;> rfl)
  rintro n σ ⟨i,hi,rfl,t0,t3,h3,t6,t5,h5⟩
  simp only [Msg.a] at h3
  simp only [zud]
  by_cases hlt:i < l.length
  case neg =>
   have hlt':¬ (i:Int) < (l.length:Int):=by omega
   have et:l.take i = l:=List.take_of_length_le (by omega)
   rw [et] at t5 h5
   have tk:List.take (outL l m.span).length ((outL l m.span).map Par.a) = (outL l m.span).map Par.a:=List.take_of_length_le (by simp)
   generalize outL l m.span = Z at *
   simp (maxSteps:=9^7) only [go_sem,↓reduceIte,reduceCtorEq,Nat.reduceEqDiff,Nat.reduceBEq,Nat.reduceAdd,Nat.reduceSub,Nat.reduceMul,Nat.reduceLT,Nat.reduceLeDiff,Nat.reduceBNe,Int.reduceBEq,Int.reduceBNe,Int.reduceLT,Int.reduceLE,Par.a,nul,Spn.a,Eff.a,Msg.a,t0,t3,h3,t6,t5,h5,hlt',tk,List.length_map]
  have hlt':(i:Int) < (l.length:Int):=by omega
  obtain ⟨x,hx⟩:=z1w hlt
  have hge:=z1b (f:=Par.a) hx
  simp only [Par.a] at hge
  have hw:=z5s (j:=i) (by omega)
  have hxs:=(hks x (List.mem_of_getElem? hx)).1
  have c1:=zpr m (by omega)
  have c2:=zss m.span x.key (zpe (n:=0) (by omega) (by omega)) (by omega)
  have tk1:l.take (i + 1) = l.take i ++ [x]:=by rw [List.take_add_one,hx]; rfl
  have hul:(outL (l.take i) m.span).length≤l.length:=by
   have h1:=List.length_filter_le (fun p:Par=>!m.span.has p.key) (l.take i)
   rw [List.length_take] at h1
   unfold outL; omega
  have un:outL (l.take (i + 1)) m.span = if m.span.has x.key then outL (l.take i) m.span else outL (l.take i) m.span ++ [x]:=by
   rw [tk1]; unfold outL; rw [List.filter_append]
   cases h:m.span.has x.key <;> simp [h]
  generalize outL (l.take i) m.span = out at *
  simp only [Spn.a,Msg.a] at c1 c2
  cases hh:m.span.has x.key with
  | true =>
   rw [hh] at c2 un
   have un':outL (l.take (i + 1)) m.span = out:=un
   (repeat (first | simp (maxSteps:=9^7) only [go_sem,↓reduceIte,reduceCtorEq,Nat.reduceEqDiff,Nat.reduceBEq,Nat.reduceAdd,Nat.reduceSub,Nat.reduceMul,Nat.reduceLT,Nat.reduceLeDiff,Nat.reduceBNe,Int.reduceBEq,Int.reduceBNe,Int.reduceLT,Int.reduceLE,Par.a,nul,Spn.a,Eff.a,Msg.a,t0,t3,h3,t6,t5,h5,hlt',hlt,hge,hw,List.length_map,Int.toNat_natCast] | refine z01 (c1) ?_ | refine z00 (c1) ?_ | refine z01 (c2) ?_ | refine z00 (c2) ?_ | refine And.intro (by omega) ?_ | refine And.intro (fun d hd=>by (repeat (rcases hd with rfl | hd; · exact ⟨rfl,rfl⟩)); cases hd) ?_))
   refine ⟨l.length - (i + 1),by omega,i + 1,by omega,rfl,?_,?_,?_,?_,?_,?_⟩
   iterate 4 focus ((simp (maxSteps:=9^7) only [go_sem,↓reduceIte,reduceCtorEq,Nat.reduceEqDiff,Nat.reduceBEq,Nat.reduceAdd,Nat.reduceSub,Nat.reduceMul,Nat.reduceLT,Nat.reduceLeDiff,Nat.reduceBNe,Int.reduceBEq,Int.reduceBNe,Int.reduceLT,Int.reduceLE,Par.a,nul,Spn.a,Eff.a,Msg.a,t0,t3,h3,hw]) <;> rfl)
   ·rw [un']; simp (maxSteps:=9^7) only [go_sem,↓reduceIte,reduceCtorEq,Nat.reduceEqDiff,Nat.reduceBEq,Nat.reduceAdd,Nat.reduceSub,Nat.reduceMul,Nat.reduceLT,Nat.reduceLeDiff,Nat.reduceBNe,Int.reduceBEq,Int.reduceBNe,Int.reduceLT,Int.reduceLE,Par.a,nul,Spn.a,Eff.a,Msg.a,t5]
   ·rw [un']; simp (maxSteps:=9^7) only [go_sem,↓reduceIte,reduceCtorEq,Nat.reduceEqDiff,Nat.reduceBEq,Nat.reduceAdd,Nat.reduceSub,Nat.reduceMul,Nat.reduceLT,Nat.reduceLeDiff,Nat.reduceBNe,Int.reduceBEq,Int.reduceBNe,Int.reduceLT,Int.reduceLE,Par.a,nul,Spn.a,Eff.a,Msg.a,h5]
  | false =>
   rw [hh] at c2 un
   rw [if_neg (by decide)] at un
   have tk:List.take out.length (out.map Par.a) = out.map Par.a:=List.take_of_length_le (by simp)
   have ho1:(out ++ [x]).map Par.a = out.map Par.a ++ [.agg [.str x.key,.str x.val]]:=List.map_append
   have ho2:(out ++ [x]).length = out.length + 1:=List.length_append
   (repeat (first | simp (maxSteps:=9^7) only [go_sem,↓reduceIte,reduceCtorEq,Nat.reduceEqDiff,Nat.reduceBEq,Nat.reduceAdd,Nat.reduceSub,Nat.reduceMul,Nat.reduceLT,Nat.reduceLeDiff,Nat.reduceBNe,Int.reduceBEq,Int.reduceBNe,Int.reduceLT,Int.reduceLE,Par.a,nul,Spn.a,Eff.a,Msg.a,t0,t3,h3,t6,t5,h5,hlt',hlt,hge,hw,tk,List.length_map,Int.toNat_natCast] | refine z01 (c1) ?_ | refine z00 (c1) ?_ | refine z01 (c2) ?_ | refine z00 (c2) ?_ | refine And.intro (by omega) ?_ | refine And.intro (fun d hd=>by (repeat (rcases hd with rfl | hd; · exact ⟨rfl,rfl⟩)); cases hd) ?_))
   refine ⟨⟨by omega,fun d hd=>?_⟩,l.length - (i + 1),by omega,i + 1,by omega,rfl,?_,?_,?_,?_,?_,?_⟩
   ·rcases hd with rfl | hd
    ·exact ⟨rfl,rfl⟩
    ·cases hd
   iterate 4 focus ((simp (maxSteps:=9^7) only [go_sem,↓reduceIte,reduceCtorEq,Nat.reduceEqDiff,Nat.reduceBEq,Nat.reduceAdd,Nat.reduceSub,Nat.reduceMul,Nat.reduceLT,Nat.reduceLeDiff,Nat.reduceBNe,Int.reduceBEq,Int.reduceBNe,Int.reduceLT,Int.reduceLE,Par.a,nul,Spn.a,Eff.a,Msg.a,t0,t3,h3,hw]) <;> rfl)
   ·rw [un,ho2]; simp (maxSteps:=9^7) only [go_sem,↓reduceIte,reduceCtorEq,Nat.reduceEqDiff,Nat.reduceBEq,Nat.reduceAdd,Nat.reduceSub,Nat.reduceMul,Nat.reduceLT,Nat.reduceLeDiff,Nat.reduceBNe,Int.reduceBEq,Int.reduceBNe,Int.reduceLT,Int.reduceLE,Par.a,nul,Spn.a,Eff.a,Msg.a]
   ·rw [un,ho1]; simp (maxSteps:=9^7) only [go_sem,↓reduceIte,reduceCtorEq,Nat.reduceEqDiff,Nat.reduceBEq,Nat.reduceAdd,Nat.reduceSub,Nat.reduceMul,Nat.reduceLT,Nat.reduceLeDiff,Nat.reduceBNe,Int.reduceBEq,Int.reduceBNe,Int.reduceLT,Int.reduceLE,Par.a,nul,Spn.a,Eff.a,Msg.a,h5,tk]
end
section
/-
 Layer 10 on the plain machine: the document's answer.
-/
open Go.RowKit
attribute [local go_sem ↓] z0s z0g
/-! ### percolate/percolateref10.Do -/
def zgl:List ROp:=[⟨.box 6 26 (.t 1),some 3,none,[4,5],[]⟩,⟨.mknil 2 58,some 4,none,[5],[]⟩,⟨.alloc 4 30 (.agg [(.int .i64 0),(.bool false),(.str ⟨#[]⟩),(.sl [])]),some 5,none,[],[]⟩]
def zuz:Reg:=⟨[],zgl,[3,4,5],[],false⟩
def zgk:List ROp:=[⟨.bld [(.int .i64 0),(.bool false),(.str ⟨#[]⟩),(.sl [])] [],some 7,none,[6],[]⟩,⟨.alloc 4 30 (.agg [(.int .i64 0),(.bool false),(.str ⟨#[]⟩),(.sl [])]),some 6,none,[],[]⟩,⟨.store 4 (.t 6) (.t 7),none,none,[],[]⟩]
def zuy:Reg:=⟨[],zgk,[6],[],false⟩
def zgj:List ROp:=[⟨.load 6 true (.t 3),some 8,none,[9],[]⟩,⟨.callv (.c (.clo 41 [] [])) [(.t 8)],some 9,none,[],[]⟩,⟨.un .not (.t 9),some 10,none,[],[]⟩]
def zux:Reg:=⟨[],zgj,[9],[],false⟩
def zuw:Reg:=⟨[],[⟨.faddr 0 (.t 6),some 11,none,[],[]⟩,⟨.store 1 (.t 11) (.c (.int .i64 3)),none,none,[],[]⟩],[],[],false⟩
def zhr:List ROp:=[⟨.mv (.t 0),some 12,none,[],[]⟩,⟨.load 4 true (.t 6),some 13,none,[],[]⟩,⟨.mv (.t 12),some 4,none,[],[]⟩]
def zuv:Reg:=⟨zhr,[⟨.store 4 (.t 5) (.t 13),none,none,[],[5]⟩],[],[],true⟩
def zgi:List ROp:=[⟨.faddr 0 (.t 3),some 14,none,[],[]⟩,⟨.load 1 false (.t 14),some 15,none,[],[]⟩,⟨.bin .eql (.t 15) (.c (.int .i64 5)),some 16,none,[],[]⟩]
def zuu:Reg:=⟨[],zgi,[],[],false⟩
def zgh:List ROp:=[⟨.mv (.t 0),some 18,none,[21],[]⟩,⟨.faddr 1 (.t 3),some 19,none,[21],[]⟩,⟨.load 1 false (.t 19),some 20,none,[21],[]⟩,⟨.callv (.c (.clo 42 [] [])) [(.t 18),(.t 20)],some 21,none,[],[]⟩,⟨.mv (.t 21),some 17,none,[],[]⟩,⟨.ext 0 (.t 17),some 22,none,[],[]⟩,⟨.ext 1 (.t 17),some 23,none,[],[]⟩,⟨.faddr 2 (.t 6),some 24,none,[],[]⟩,⟨.store 1 (.t 24) (.t 22),none,none,[],[]⟩,⟨.faddr 1 (.t 6),some 25,none,[],[]⟩,⟨.store 1 (.t 25) (.t 23),none,none,[],[]⟩]
def zut:Reg:=⟨[],zgh,[21],[],false⟩
def zhq:List ROp:=[⟨.mv (.t 0),some 26,none,[],[]⟩,⟨.load 4 true (.t 6),some 27,none,[],[]⟩,⟨.mv (.t 26),some 4,none,[],[]⟩]
def zus:Reg:=⟨zhq,[⟨.store 4 (.t 5) (.t 27),none,none,[],[5]⟩],[],[],true⟩
def zgg:List ROp:=[⟨.faddr 0 (.t 3),some 28,none,[],[]⟩,⟨.load 1 false (.t 28),some 29,none,[],[]⟩,⟨.bin .eql (.t 29) (.c (.int .i64 6)),some 30,none,[],[]⟩]
def zur:Reg:=⟨[],zgg,[],[],false⟩
def zgf:List ROp:=[⟨.callv (.c (.clo 43 [] [])) [(.t 31),(.t 33),(.t 35)],some 36,none,[],[]⟩,⟨.faddr 3 (.t 6),some 37,none,[],[]⟩,⟨.store 1 (.t 37) (.t 36),none,none,[],[6]⟩]
def zhp:List ROp:=[⟨.mv (.t 0),some 31,none,[33,36],[]⟩,⟨.load 6 true (.t 3),some 32,none,[33,36],[]⟩,⟨.callv (.c (.clo 44 [] [])) [(.t 32)],some 33,none,[36],[]⟩,⟨.faddr 5 (.t 3),some 34,none,[33,36],[]⟩,⟨.load 1 false (.t 34),some 35,none,[33,36],[]⟩]
def zuq:Reg:=⟨zhp,zgf,[33,36],[],true⟩
def zcr:List ROp:=[⟨.mv (.t 0),some 38,none,[],[]⟩,⟨.load 4 true (.t 6),some 39,none,[],[]⟩,⟨.mv (.t 38),some 4,none,[],[]⟩]
def zkg:Reg:=⟨zcr,[⟨.store 4 (.t 5) (.t 39),none,none,[],[5]⟩],[],[],true⟩
def zcq:List ROp:=[⟨.mv (.t 0),some 40,none,[52],[]⟩,⟨.faddr 0 (.t 3),some 41,none,[52],[]⟩,⟨.load 1 false (.t 41),some 42,none,[52],[]⟩,⟨.faddr 1 (.t 3),some 43,none,[52],[]⟩,⟨.load 1 false (.t 43),some 44,none,[52],[]⟩,⟨.faddr 2 (.t 3),some 45,none,[52],[]⟩,⟨.load 1 false (.t 45),some 46,none,[52],[]⟩,⟨.faddr 3 (.t 3),some 47,none,[52],[]⟩,⟨.load 1 false (.t 47),some 48,none,[52],[]⟩,⟨.faddr 4 (.t 3),some 49,none,[52],[]⟩,⟨.load 1 false (.t 49),some 50,none,[52],[]⟩,⟨.bld [(.int .i64 0),(.int .i64 0),(.str ⟨#[]⟩),(.str ⟨#[]⟩),(.bool false),(.str ⟨#[]⟩)] [⟨0,1,(.c (.int .i64 1))⟩,⟨1,1,(.t 42)⟩,⟨2,1,(.t 44)⟩,⟨3,1,(.t 46)⟩,⟨4,1,(.t 48)⟩,⟨5,1,(.t 50)⟩],some 51,none,[52],[]⟩,⟨.callv (.c (.clo 45 [] [])) [(.t 40),(.t 51)],some 52,none,[],[]⟩,⟨.load 4 true (.t 6),some 53,none,[52],[]⟩,⟨.mv (.t 52),some 4,none,[],[]⟩]
def zkf:Reg:=⟨zcq,[⟨.store 4 (.t 5) (.t 53),none,none,[],[5]⟩],[52],[],true⟩
def ir_r10D:IR:=(.seq (.reg zuz)
 (.seq (.reg zuy)
 (.seq (.seq (.reg zux)
 (.cond (.t 10) (.seq (.reg zuw)
 (.seq (.reg zuv)
 .ret))
 .skip))
 (.seq (.seq (.reg zuu)
 (.cond (.t 16) (.seq (.reg zut)
 (.seq (.reg zus)
 .ret))
 .skip))
 (.seq (.seq (.reg zur)
 (.cond (.t 30) (.seq (.reg zuq)
 (.seq (.reg zkg)
 .ret))
 .skip))
 (.seq (.reg zkf)
 .ret))))))
def zse:List RDesc:=[(.tmp 4),(.cell 5 4 true)]
theorem e_r10D_0:EqR zuz zgl [3,4,5]:=fun _ _ _=>rfl
theorem e_r10D_1:EqR zuy zgk [6]:=fun _ _ _=>rfl
theorem e_r10D_2:EqR zux zgj [9]:=fun _ _ _=>rfl
theorem e_r10D_3:EqR zuw [⟨.faddr 0 (.t 6),some 11,none,[],[]⟩,⟨.store 1 (.t 11) (.c (.int .i64 3)),none,none,[],[]⟩] []:=fun _ _ _=>rfl
theorem e_r10D_4 (C:FuncId->List AV->AV->Prop) (σ:St) (K:St->Prop):z0l C zuv σ K = z0a C [] [⟨.store 4 (.t 5) (.t 13),none,none,[],[5]⟩] zhr (σ.kills []) K:=rfl
theorem e_r10D_5:EqR zuu zgi []:=fun _ _ _=>rfl
theorem e_r10D_6:EqR zut zgh [21]:=fun _ _ _=>rfl
theorem e_r10D_7 (C:FuncId->List AV->AV->Prop) (σ:St) (K:St->Prop):z0l C zus σ K = z0a C [] [⟨.store 4 (.t 5) (.t 27),none,none,[],[5]⟩] zhq (σ.kills []) K:=rfl
theorem e_r10D_8:EqR zur zgg []:=fun _ _ _=>rfl
theorem e_r10D_9 (C:FuncId->List AV->AV->Prop) (σ:St) (K:St->Prop):z0l C zuq σ K = z0a C [] zgf zhp (σ.kills [33,36]) K:=rfl
theorem e_r10D_10 (C:FuncId->List AV->AV->Prop) (σ:St) (K:St->Prop):z0l C zkg σ K = z0a C [] [⟨.store 4 (.t 5) (.t 39),none,none,[],[5]⟩] zcr (σ.kills []) K:=rfl
theorem e_r10D_11 (C:FuncId->List AV->AV->Prop) (σ:St) (K:St->Prop):z0l C zkf σ K = z0a C [] [⟨.store 4 (.t 5) (.t 53),none,none,[],[5]⟩] zcq (σ.kills [52]) K:=rfl
theorem fn_r10D {args:List AV} {r:AV} (ha:args.length.ble Try.f34.ntmps = true) (h:run (AFn Try.prog) ir_r10D (endQ zse r) (z0b args)):AFn Try.prog 34 args r :=
 AFn.of_code (pv:=false) (hint:=fun _=>[]) (c:=Try.f34.body.getD .skip) (by kernel_rfl) (by kernel_rfl) Try.func34 (by kernel_rfl) (by kernel_rfl) (by kernel_rfl) (of_decide_eq_true (by kernel_rfl)) (Nat.le_of_ble_eq_true ha) (Nat.le_of_ble_eq_true (by kernel_rfl)) (z09 h)
attribute [local go_sem ↓] ir_r10D
attribute [local go_sem] zse e_r10D_0 zgl e_r10D_1 zgk e_r10D_2 zgj e_r10D_3 e_r10D_4 zhr e_r10D_5 zgi e_r10D_6 zgh e_r10D_7 zhq e_r10D_8 zgg e_r10D_9 zgf zhp e_r10D_10 zcr e_r10D_11 zcq
theorem ziq {o:Opr} (h:o.right = true) (hk:o.kind = 6):1≤o.lim∧o.lim≤64:=by
 unfold Opr.right at h
 simp only [Bool.and_eq_true] at h
 have h2:=h.2
 have e:(o.kind == 6) = true:=by simp [hk]
 rw [e,if_pos rfl,Bool.and_eq_true,decide_eq_true_eq,decide_eq_true_eq] at h2
 exact h2
def Opr.sp6 (o:Opr):Spn:=⟨o.key,o.hi,o.op⟩
def doF (l:List Par) (o:Opr):List Par × Ans :=
 if o.right then (if o.kind = 5 then (l,⟨0,hasK l o.key,valK l o.key,[]⟩) else if o.kind = 6 then (l,⟨0,false,nul,z0z o.sp6 o.lim.toNat l⟩) else (z4u l o.msg,⟨0,false,nul,[]⟩)) else (l,⟨3,false,nul,[]⟩)
set_option maxHeartbeats 8000000 in
theorem r10D_ok (l:List Par) (o:Opr) (ho:KOrd l) (hl:l.length≤100000) (h1:o.key.size≤1000000) (h2:o.hi.size≤1000000) (h3:o.val.size≤1000000) (hks:∀ p,p ∈ l->p.key.size≤1000000∧p.val.size≤1000000):AFn Try.prog 34 [.sl (l.map Par.a),o.a] (.tup [.sl ((doF l o).1.map Par.a),(doF l o).2.a]):=by
 refine fn_r10D rfl ?_
 have c1:=r7Right_ok o (by omega) (by omega)
 unfold doF
 simp only [Opr.a] at c1
 cases hr:o.right with
 | false =>
  rw [hr] at c1
  rw [if_neg (by decide)]
  (repeat (first | simp (maxSteps:=9^7) only [go_sem,↓reduceIte,reduceCtorEq,Nat.reduceEqDiff,Nat.reduceBEq,Nat.reduceAdd,Nat.reduceSub,Nat.reduceMul,Nat.reduceLT,Nat.reduceLeDiff,Nat.reduceBNe,Int.reduceBEq,Int.reduceBNe,Int.reduceLT,Int.reduceLE,Par.a,nul,Spn.a,OSpn.a,Eff.a,Msg.a,Opr.a,Ans.a,List.map_nil] | refine z01 (c1) ?_ | refine z00 (c1) ?_ | refine And.intro (by omega) ?_ | refine And.intro (fun d hd=>by (repeat (rcases hd with rfl | hd; · exact ⟨rfl,rfl⟩)); cases hd) ?_))
 | true =>
  rw [hr] at c1
  rw [if_pos rfl]
  cases h5:(o.kind == 5) with
  | true =>
   have h5':o.kind = 5:=by simpa using h5
   rw [if_pos h5']
   have c2:=r9G_ok l o.key ho (by omega)
   generalize hasK l o.key = hb at *
   generalize valK l o.key = vb at *
   (repeat (first | simp (maxSteps:=9^7) only [go_sem,↓reduceIte,reduceCtorEq,Nat.reduceEqDiff,Nat.reduceBEq,Nat.reduceAdd,Nat.reduceSub,Nat.reduceMul,Nat.reduceLT,Nat.reduceLeDiff,Nat.reduceBNe,Int.reduceBEq,Int.reduceBNe,Int.reduceLT,Int.reduceLE,Par.a,nul,Spn.a,OSpn.a,Eff.a,Msg.a,Opr.a,Ans.a,List.map_nil,h5] | refine z01 (c1) ?_ | refine z00 (c1) ?_ | refine z01 (c2) ?_ | refine z00 (c2) ?_ | refine And.intro (by omega) ?_ | refine And.intro (fun d hd=>by (repeat (rcases hd with rfl | hd; · exact ⟨rfl,rfl⟩)); cases hd) ?_))
  | false =>
   have h5':¬ o.kind = 5:=by simpa using h5
   rw [if_neg h5']
   cases h6:(o.kind == 6) with
   | true =>
    have h6':o.kind = 6:=by simpa using h6
    rw [if_pos h6']
    have c2:=z07 o (by omega)
    have hsp:o.span = ⟨o.key,o.hi,o.op⟩:=by unfold Opr.span Opr.ranged; rw [h6]; simp
    rw [hsp] at c2
    obtain ⟨q1,q2⟩:=ziq hr h6'
    have c3:=r9Sc_ok l o.sp6 o.lim.toNat ⟨by show o.key.size≤_; omega,by show o.hi.size≤_; omega⟩ (by omega) (fun p hp=>by have:=(hks p hp).1; omega) (by omega)
    rw [show ((o.lim.toNat:Nat):Int) = o.lim by omega] at c3
    have tk:List.take (z0z o.sp6 o.lim.toNat l).length ((z0z o.sp6 o.lim.toNat l).map Par.a) = (z0z o.sp6 o.lim.toNat l).map Par.a:=List.take_of_length_le (by simp)
    generalize z0z o.sp6 o.lim.toNat l = Z at *
    simp only [Opr.sp6,Spn.a,OSpn.a,Opr.a] at c2 c3
    (repeat (first | simp (maxSteps:=9^7) only [go_sem,↓reduceIte,reduceCtorEq,Nat.reduceEqDiff,Nat.reduceBEq,Nat.reduceAdd,Nat.reduceSub,Nat.reduceMul,Nat.reduceLT,Nat.reduceLeDiff,Nat.reduceBNe,Int.reduceBEq,Int.reduceBNe,Int.reduceLT,Int.reduceLE,Par.a,nul,Spn.a,OSpn.a,Eff.a,Msg.a,Opr.a,Ans.a,List.map_nil,h5,h6,tk,List.length_map,List.drop_zero] | refine z01 (c1) ?_ | refine z00 (c1) ?_ | refine z01 (c2) ?_ | refine z00 (c2) ?_ | refine z01 (c3) ?_ | refine z00 (c3) ?_ | refine And.intro (by omega) ?_ | refine And.intro (fun d hd=>by (repeat (rcases hd with rfl | hd; · exact ⟨rfl,rfl⟩)); cases hd) ?_))
   | false =>
    have h6':¬ o.kind = 6:=by simpa using h6
    rw [if_neg h6']
    have c2:=r9T_ok l o.msg ho hl h1 h2 h3 hks
    have tk:List.take (z4u l o.msg).length ((z4u l o.msg).map Par.a) = (z4u l o.msg).map Par.a:=List.take_of_length_le (by simp)
    generalize z4u l o.msg = Z at *
    simp only [Opr.msg,Msg.a] at c2
    (repeat (first | simp (maxSteps:=9^7) only [go_sem,↓reduceIte,reduceCtorEq,Nat.reduceEqDiff,Nat.reduceBEq,Nat.reduceAdd,Nat.reduceSub,Nat.reduceMul,Nat.reduceLT,Nat.reduceLeDiff,Nat.reduceBNe,Int.reduceBEq,Int.reduceBNe,Int.reduceLT,Int.reduceLE,Par.a,nul,Spn.a,OSpn.a,Eff.a,Msg.a,Opr.a,Ans.a,List.map_nil,h5,h6,tk,List.length_map,List.drop_zero] | refine z01 (c1) ?_ | refine z00 (c1) ?_ | refine z01 (c2) ?_ | refine z00 (c2) ?_ | refine And.intro (by omega) ?_ | refine And.intro (fun d hd=>by (repeat (rcases hd with rfl | hd; · exact ⟨rfl,rfl⟩)); cases hd) ?_))
end
section
/-
 Layer 40 on the plain machine: whether an event can be the next one,by the document.
-/
open Go.RowKit
attribute [local go_sem ↓] z0s z0g
/-! ### percolate/percolateref37.Fits -/
def zg2:List ROp:=[⟨.box 15 32 (.t 1),some 3,none,[4],[]⟩,⟨.mknil 2 58,some 4,none,[],[]⟩,⟨.mv (.c (.bool false)),some 5,none,[],[]⟩]
def zty:Reg:=⟨[],zg2,[3,4],[],false⟩
def zg1:List ROp:=[⟨.mv (.t 0),some 9,none,[12,7],[]⟩,⟨.faddr 1 (.t 3),some 10,none,[12,7],[]⟩,⟨.load 6 true (.t 10),some 11,none,[12,7],[]⟩,⟨.callv (.c (.clo 34 [] [])) [(.t 9),(.t 11)],some 12,none,[7],[]⟩,⟨.mv (.t 12),some 8,none,[7],[]⟩,⟨.ext 0 (.t 8),some 13,none,[7],[]⟩,⟨.ext 1 (.t 8),some 14,none,[7],[]⟩,⟨.alloc 4 30 (.agg [(.int .i64 0),(.bool false),(.str ⟨#[]⟩),(.sl [])]),some 7,none,[],[]⟩,⟨.mv (.t 13),some 6,none,[],[]⟩,⟨.store 4 (.t 7) (.t 14),none,none,[],[]⟩]
def ztx:Reg:=⟨[],zg1,[12,7],[],false⟩
def zg0:List ROp:=[⟨.faddr 7 (.t 3),some 15,none,[],[]⟩,⟨.faddr 0 (.t 15),some 16,none,[],[]⟩,⟨.load 1 false (.t 16),some 17,none,[],[]⟩,⟨.bin .eql (.t 17) (.c (.int .i64 4)),some 18,none,[],[]⟩]
def ztw:Reg:=⟨[],zg0,[],[],false⟩
def zfz:List ROp:=[⟨.mv (.t 0),some 19,none,[33],[]⟩,⟨.faddr 0 (.t 7),some 20,none,[33],[]⟩,⟨.load 1 false (.t 20),some 21,none,[33],[]⟩,⟨.bin .eql (.t 21) (.c (.int .i64 0)),some 22,none,[33],[]⟩,⟨.mv (.t 22),some 23,none,[33],[]⟩,⟨.faddr 1 (.t 3),some 24,(some (23,true)),[33],[]⟩,⟨.faddr 0 (.t 24),some 25,(some (23,true)),[33],[]⟩,⟨.load 1 false (.t 25),some 26,(some (23,true)),[33],[]⟩,⟨.bin .leq (.t 26) (.c (.int .i64 4)),some 27,(some (23,true)),[33],[]⟩,⟨.pick (.t 23) (.t 27) (.c (.bool false)),some 28,none,[33],[]⟩,⟨.mv (.t 28),some 29,none,[33],[]⟩,⟨.faddr 7 (.t 3),some 30,(some (29,true)),[33],[]⟩,⟨.load 4 true (.t 30),some 31,(some (29,true)),[33],[]⟩,⟨.bld [(.int .i64 0),(.bool false),(.str ⟨#[]⟩),(.sl [])] [⟨0,1,(.c (.int .i64 4))⟩],some 32,(some (29,true)),[33],[]⟩,⟨.callv (.c (.clo 30 [] [])) [(.t 31),(.t 32)],some 33,(some (29,true)),[],[]⟩,⟨.pick (.t 29) (.t 33) (.c (.bool false)),some 34,none,[],[]⟩,⟨.mv (.t 19),some 4,none,[],[]⟩,⟨.mv (.t 34),some 5,none,[],[]⟩]
def ztv:Reg:=⟨[],zfz,[33],[],false⟩
def zfy:List ROp:=[⟨.mv (.t 6),some 35,none,[39],[]⟩,⟨.load 4 true (.t 7),some 36,none,[39],[]⟩,⟨.faddr 7 (.t 3),some 37,none,[39],[]⟩,⟨.load 4 true (.t 37),some 38,none,[39],[]⟩,⟨.callv (.c (.clo 30 [] [])) [(.t 36),(.t 38)],some 39,none,[],[]⟩,⟨.mv (.t 35),some 4,none,[],[]⟩,⟨.mv (.t 39),some 5,none,[],[]⟩]
def ztu:Reg:=⟨[],zfy,[39],[],false⟩
def ir_rF37:IR:=(.seq (.reg zty)
 (.seq (.reg ztx)
 (.seq (.seq (.reg ztw)
 (.cond (.t 18) (.seq (.reg ztv)
 .ret)
 .skip))
 (.seq (.reg ztu)
 .ret))))
def zsb:List RDesc:=[(.tmp 4),(.tmp 5)]
theorem e_rF37_0:EqR zty zg2 [3,4]:=fun _ _ _=>rfl
theorem e_rF37_1:EqR ztx zg1 [12,7]:=fun _ _ _=>rfl
theorem e_rF37_2:EqR ztw zg0 []:=fun _ _ _=>rfl
theorem e_rF37_3:EqR ztv zfz [33]:=fun _ _ _=>rfl
theorem e_rF37_4:EqR ztu zfy [39]:=fun _ _ _=>rfl
theorem fn_rF37 {args:List AV} {r:AV} (ha:args.length.ble Try.f21.ntmps = true) (h:run (AFn Try.prog) ir_rF37 (endQ zsb r) (z0b args)):AFn Try.prog 21 args r :=
 AFn.of_code (pv:=false) (hint:=fun _=>[]) (c:=Try.f21.body.getD .skip) (by kernel_rfl) (by kernel_rfl) Try.func21 (by kernel_rfl) (by kernel_rfl) (by kernel_rfl) (of_decide_eq_true (by kernel_rfl)) (Nat.le_of_ble_eq_true ha) (Nat.le_of_ble_eq_true (by kernel_rfl)) (z09 h)
attribute [local go_sem ↓] ir_rF37
attribute [local go_sem] zsb e_rF37_0 zg2 e_rF37_1 zg1 e_rF37_2 zg0 e_rF37_3 zfz e_rF37_4 zfy
def ans4:Ans:=⟨4,false,nul,[]⟩
def fitR (l:List Par) (e:Evt):List Par × Bool :=
 if e.ans.err = 4 then (l,(doF l e.op).2.err == 0 && (decide (e.op.kind≤4) && ansB e.ans ans4)) else ((doF l e.op).1,ansB (doF l e.op).2 e.ans)
theorem scanF_len (s:Spn) (n:Nat) (l:List Par):(z0z s n l).length≤l.length:=by
 unfold z0z
 rw [List.length_take]
 have:=List.length_filter_le (fun p:Par=>s.has p.key) l
 omega
theorem doF_prs (l:List Par) (o:Opr):(doF l o).2.prs.length≤l.length:=by
 unfold doF
 split
 ·split
  ·exact Nat.zero_le _
  ·split
   ·exact scanF_len _ _ _
   ·exact Nat.zero_le _
 ·exact Nat.zero_le _
set_option maxHeartbeats 8000000 in
theorem rF37_ok (l:List Par) (e:Evt) (ho:KOrd l) (hl:l.length≤100000) (h1:e.op.key.size≤1000000) (h2:e.op.hi.size≤1000000) (h3:e.op.val.size≤1000000) (hp:e.ans.prs.length≤1000000) (hks:∀ p,p ∈ l->p.key.size≤1000000∧p.val.size≤1000000):AFn Try.prog 21 [.sl (l.map Par.a),e.a] (.tup [.sl ((fitR l e).1.map Par.a),.bool (fitR l e).2]):=by
 refine fn_rF37 rfl ?_
 have c1:=r10D_ok l e.op ho hl h1 h2 h3 hks
 have hpr:=doF_prs l e.op
 unfold fitR
 obtain ⟨r,hr⟩:∃ r,doF l e.op = r:=⟨_,rfl⟩
 rw [hr] at c1 hpr ⊢
 obtain ⟨nx,a⟩:=r
 simp only at c1 hpr ⊢
 have c2:=r10s_ok e.ans ans4 (by omega) (by decide)
 have c3:=r10s_ok a e.ans (by omega) (by omega)
 simp only [ans4,Opr.a,Ans.a,List.map_nil] at c1 c2 c3
 cases h4:(e.ans.err == 4) with
 | true =>
  have h4':e.ans.err = 4:=by simpa using h4
  rw [if_pos h4']
  simp only [ans4]
  generalize ansB e.ans ⟨4,false,nul,[]⟩ = B at *
  cases h0:(a.err == 0) with
  | false=>(repeat (first | simp (maxSteps:=9^7) only [go_sem,↓reduceIte,reduceCtorEq,Nat.reduceEqDiff,Nat.reduceBEq,Nat.reduceAdd,Nat.reduceSub,Nat.reduceMul,Nat.reduceLT,Nat.reduceLeDiff,Nat.reduceBNe,Int.reduceBEq,Int.reduceBNe,Int.reduceLT,Int.reduceLE,Par.a,nul,Opr.a,Ans.a,Evt.a,List.map_nil,h4,h0] | refine z01 (c1) ?_ | refine z00 (c1) ?_ | refine And.intro (by omega) ?_ | refine And.intro (fun d hd=>by (repeat (rcases hd with rfl | hd; · exact ⟨rfl,rfl⟩)); cases hd) ?_))
  | true =>
   by_cases hk:e.op.kind≤4
   ·(repeat (first | simp (maxSteps:=9^7) only [go_sem,↓reduceIte,reduceCtorEq,Nat.reduceEqDiff,Nat.reduceBEq,Nat.reduceAdd,Nat.reduceSub,Nat.reduceMul,Nat.reduceLT,Nat.reduceLeDiff,Nat.reduceBNe,Int.reduceBEq,Int.reduceBNe,Int.reduceLT,Int.reduceLE,Par.a,nul,Opr.a,Ans.a,Evt.a,List.map_nil,h4,h0,hk] | refine z01 (c1) ?_ | refine z00 (c1) ?_ | refine z01 (c2) ?_ | refine z00 (c2) ?_ | refine And.intro (by omega) ?_ | refine And.intro (fun d hd=>by (repeat (rcases hd with rfl | hd; · exact ⟨rfl,rfl⟩)); cases hd) ?_))
   ·(repeat (first | simp (maxSteps:=9^7) only [go_sem,↓reduceIte,reduceCtorEq,Nat.reduceEqDiff,Nat.reduceBEq,Nat.reduceAdd,Nat.reduceSub,Nat.reduceMul,Nat.reduceLT,Nat.reduceLeDiff,Nat.reduceBNe,Int.reduceBEq,Int.reduceBNe,Int.reduceLT,Int.reduceLE,Par.a,nul,Opr.a,Ans.a,Evt.a,List.map_nil,h4,h0,hk] | refine z01 (c1) ?_ | refine z00 (c1) ?_ | refine z01 (c2) ?_ | refine z00 (c2) ?_ | refine And.intro (by omega) ?_ | refine And.intro (fun d hd=>by (repeat (rcases hd with rfl | hd; · exact ⟨rfl,rfl⟩)); cases hd) ?_))
 | false =>
  have h4':¬ e.ans.err = 4:=by simpa using h4
  rw [if_neg h4']
  generalize ansB a e.ans = B at *
  (repeat (first | simp (maxSteps:=9^7) only [go_sem,↓reduceIte,reduceCtorEq,Nat.reduceEqDiff,Nat.reduceBEq,Nat.reduceAdd,Nat.reduceSub,Nat.reduceMul,Nat.reduceLT,Nat.reduceLeDiff,Nat.reduceBNe,Int.reduceBEq,Int.reduceBNe,Int.reduceLT,Int.reduceLE,Par.a,nul,Opr.a,Ans.a,Evt.a,List.map_nil,h4] | refine z01 (c1) ?_ | refine z00 (c1) ?_ | refine z01 (c3) ?_ | refine z00 (c3) ?_ | refine And.intro (by omega) ?_ | refine And.intro (fun d hd=>by (repeat (rcases hd with rfl | hd; · exact ⟨rfl,rfl⟩)); cases hd) ?_))
end
section
/-
 Layer 9: a map behind an effect stays a map; it is the map with one pair set,put in or taken out where its key stands. No program.
-/
open Go.RowKit
theorem zch {a:Par} {l:List Par} (h:KOrd (a :: l)):(∀ x,x ∈ l->lt a.key x.key = true)∧KOrd l:=by
 unfold KOrd at h ⊢
 exact List.pairwise_cons.1 h
theorem not_low {a:Par} {l:List Par} {k:ByteArray} (h:KOrd (a :: l)) (ha:lt a.key k = false):∀ x,x ∈ a :: l->lt x.key k = false:=fun x hx=>by
 rcases List.mem_cons.1 hx with rfl | hx
 ·exact ha
 ·cases hq:lt x.key k with
  | false=>rfl
  | true=>rw [zxc ((zch h).1 x hx) hq] at ha; cases ha
theorem zlr:∀ {l:List Par} {k:ByteArray},KOrd l->lowL l k = l.take (lowN l k)
 | [],_,_=>by simp [lowL]
 | a :: l,k,h=>by
  cases ha:lt a.key k with
  | true =>
   have e:lowN (a :: l) k = lowN l k + 1:=by unfold lowN; rw [List.countP_cons,ha]; rfl
   rw [e,List.take_succ_cons,← zlr (k:=k) (zch h).2]
   unfold lowL
   rw [List.filter_cons,if_pos ha]
  | false =>
   have nn:=not_low h ha
   rw [zhl nn,List.take_zero]
   unfold lowL
   rw [List.filter_eq_nil_iff]
   intro x hx
   rw [nn x hx]; decide
theorem hasK_cons {a:Par} {l:List Par} {k:ByteArray} (ha:lt a.key k = true):hasK (a :: l) k = hasK l k:=by
 have e:lowN (a :: l) k = lowN l k + 1:=by unfold lowN; rw [List.countP_cons,ha]; rfl
 unfold hasK
 rw [e,List.getElem?_cons_succ]
theorem zrx:∀ {l:List Par} {k:ByteArray},KOrd l->upL l k = l.drop (lowN l k + if hasK l k then 1 else 0)
 | [],_,_=>by simp [upL]
 | a :: l,k,h=>by
  have ht:=zch h
  cases ha:lt a.key k with
  | true =>
   have e:lowN (a :: l) k = lowN l k + 1:=by unfold lowN; rw [List.countP_cons,ha]; rfl
   rw [e,hasK_cons ha,show lowN l k + 1 + (if hasK l k then 1 else 0) = (lowN l k + if hasK l k then 1 else 0) + 1 by omega,List.drop_succ_cons,← zrx (k:=k) ht.2]
   unfold upL
   rw [List.filter_cons,lt_as7 ha,if_neg (by decide)]
  | false =>
   have nn:=not_low h ha
   have e:=zhl nn
   have hh:hasK (a :: l) k = (a.key.toList == k.toList):=by unfold hasK; rw [e]; rfl
   rw [e,hh,Nat.zero_add]
   have up:lt k a.key = true∨a.key = k->∀ x,x ∈ l->lt k x.key = true:=fun hk x hx=>by
    rcases hk with hk | rfl
    ·exact zxc hk (ht.1 x hx)
    ·exact ht.1 x hx
   cases hb:lt k a.key with
   | true =>
    have hne:(a.key.toList == k.toList) = false:=by
     rw [beq_eq_false_iff_ne]
     intro q
     unfold lt at hb
     rw [q,kp.less_irrefl] at hb; cases hb
    rw [hne,if_neg (by decide),List.drop_zero]
    unfold upL
    rw [List.filter_eq_self]
    intro x hx
    rcases List.mem_cons.1 hx with rfl | hx
    ·exact hb
    ·exact up (.inl hb) x hx
   | false =>
    have hk:a.key = k:=lt_eq7 ha hb
    rw [hk,beq_self_eq_true,if_pos rfl,List.drop_succ_cons,List.drop_zero]
    unfold upL
    rw [List.filter_cons,hk,lt_ir7,if_neg (by decide),List.filter_eq_self]
    exact up (.inr hk)
theorem kord_with {l:List Par} {k:ByteArray} {e:Eff} (h:KOrd l):KOrd (z4r l k e):=by
 unfold z4r KOrd
 have hl:∀ p,p ∈ lowL l k->lt p.key k = true:=fun p hp=>(List.mem_filter.1 hp).2
 have hu:∀ p,p ∈ upL l k->lt k p.key = true:=fun p hp=>(List.mem_filter.1 hp).2
 have hm:∀ p,p ∈ midL l k e->p.key = k:=fun p hp=>by
  unfold midL at hp
  split at hp
  ·rw [List.mem_singleton.1 hp]
  ·cases hp
 rw [List.pairwise_append,List.pairwise_append]
 refine ⟨⟨List.Pairwise.filter _ h,?_,fun p hp q hq=>by rw [hm q hq]; exact hl p hp⟩,List.Pairwise.filter _ h,fun p hp q hq=>?_⟩
 ·unfold midL
  split
  ·exact List.pairwise_singleton ..
  ·exact List.Pairwise.nil
 ·rcases List.mem_append.1 hp with hp | hp
  ·exact zxc (hl p hp) (hu q hq)
  ·rw [hm p hp]; exact hu q hq
theorem kord_take {l:List Par} {m:Msg} (h:KOrd l):KOrd (z4u l m):=by
 unfold z4u
 split
 ·exact List.Pairwise.filter _ h
 ·exact kord_with h
theorem kord_do {l:List Par} {o:Opr} (h:KOrd l):KOrd (doF l o).1:=by
 unfold doF
 split
 ·split
  ·exact h
  ·split
   ·exact h
   ·exact kord_take h
 ·exact h
theorem kord_fit {l:List Par} {e:Evt} (h:KOrd l):KOrd (fitR l e).1:=by
 unfold fitR
 split
 ·exact h
 ·exact kord_do h
end
section
/-
 Layer 40: how great the map can be. No program.
-/
open Go.RowKit
def FewP (B:Nat) (l:List Par):Prop:=∀ p,p ∈ l->p.key.size≤B∧p.val.size≤B
theorem zi7 {B:Nat} {l:List Par} {k:ByteArray} (h:FewP B l):(valK l k).size≤B:=by
 unfold valK
 cases hasK l k with
 | false=>rw [if_neg (by decide)]; exact Nat.zero_le _
 | true =>
  rw [if_pos rfl]
  cases hx:l[lowN l k]? with
  | none=>exact Nat.zero_le _
  | some x=>exact (h x (List.mem_of_getElem? hx)).2
theorem zrj {B:Nat} (hB:16≤B) {e:Eff} {has:Bool} {v:ByteArray} (he:e.val.size≤B) (hv:v.size≤B):(z4e e has v).2.size≤B:=by
 unfold z4e
 split
 ·exact he
 ·split
  ·exact Nat.le_trans (za4 _) hB
  ·split
   ·exact Nat.zero_le _
   ·cases has
    ·exact Nat.zero_le _
    ·exact hv
theorem z9a {B:Nat} {l:List Par} (f:Par->Bool) (h:FewP B l):FewP B (l.filter f):=fun p hp=>h p (List.mem_filter.1 hp).1
theorem few_with {B:Nat} (hB:16≤B) {l:List Par} {k:ByteArray} {e:Eff} (h:FewP B l) (hk:k.size≤B) (he:e.val.size≤B):FewP B (z4r l k e):=by
 intro p hp
 unfold z4r at hp
 rcases List.mem_append.1 hp with hp | hp
 ·rcases List.mem_append.1 hp with hp | hp
  ·exact z9a _ h p hp
  ·unfold midL at hp
   split at hp
   ·rw [List.mem_singleton.1 hp]
    exact ⟨hk,zrj hB he (zi7 h)⟩
   ·cases hp
 ·exact z9a _ h p hp
theorem few_take {B:Nat} (hB:16≤B) {l:List Par} {m:Msg} (h:FewP B l) (hk:m.key.size≤B) (hv:m.val.size≤B):FewP B (z4u l m):=by
 unfold z4u
 split
 ·exact z9a _ h
 ·exact few_with hB h hk (Nat.le_trans (zpw m m.key) hv)
theorem few_do {B:Nat} (hB:16≤B) {l:List Par} {o:Opr} (h:FewP B l) (hk:o.key.size≤B) (hv:o.val.size≤B):FewP B (doF l o).1:=by
 unfold doF
 split
 ·split
  ·exact h
  ·split
   ·exact h
   ·exact few_take hB h hk hv
 ·exact h
theorem few_fit {B:Nat} (hB:16≤B) {l:List Par} {e:Evt} (h:FewP B l) (hk:e.op.key.size≤B) (hv:e.op.val.size≤B):FewP B (fitR l e).1:=by
 unfold fitR
 split
 ·exact h
 ·exact few_do hB h hk hv
theorem zf4:∀ (l:List Par) (k:ByteArray),(lowL l k).length + (upL l k).length≤l.length
 | [],_=>by simp [lowL,upL]
 | a :: l,k=>by
  have ih:=zf4 l k
  unfold lowL upL at ih ⊢
  rw [List.filter_cons,List.filter_cons,List.length_cons]
  cases h1:lt a.key k with
  | true=>rw [lt_as7 h1,if_pos rfl,if_neg (by decide),List.length_cons]; omega
  | false =>
   rw [if_neg (by decide)]
   split
   ·rw [List.length_cons]; omega
   ·omega
theorem len_fit (l:List Par) (e:Evt):(fitR l e).1.length≤l.length + 1:=by
 have hw:∀ k f,(z4r l k f).length≤l.length + 1:=fun k f=>by
  have h1:=zf4 l k
  have h2:(midL l k f).length≤1:=by unfold midL; split <;> simp
  unfold z4r
  rw [List.length_append,List.length_append]; omega
 have ht:∀ m,(z4u l m).length≤l.length + 1:=fun m=>by
  unfold z4u
  split
  ·have:=List.length_filter_le (fun p:Par=>!m.span.has p.key) l
   unfold outL; omega
  ·exact hw _ _
 have hd:∀ o,(doF l o).1.length≤l.length + 1:=fun o=>by
  unfold doF
  split
  ·split
   ·exact Nat.le_succ _
   ·split
    ·exact Nat.le_succ _
    ·exact ht _
  ·exact Nat.le_succ _
 unfold fitR
 split
 ·exact Nat.le_succ _
 ·exact hd _
end
section
/-
 Layer 9 on the plain machine: a copy of pairs,the first pair of some kind.
-/
open Go.RowKit
attribute [local go_sem ↓] z0s z0g
/-! ### slices.Clone[[]percolate/api.Pair,percolate/api.Pair] -/
def r_clP_0:Reg:=⟨[],[⟨.mknil 2 58,some 2,none,[],[]⟩],[2],[],false⟩
def r_clP_1:Reg:=⟨[],[⟨.mv (.t 0),some 3,none,[],[]⟩,⟨.nileq false (.t 3),some 4,none,[],[]⟩],[],[],false⟩
def r_clP_2:Reg:=⟨[],[⟨.mknil 2 58,some 2,none,[],[]⟩],[2],[],false⟩
def zou:List ROp:=[⟨.bsl 2 58 [],some 5,none,[],[]⟩,⟨.mv (.t 0),some 6,none,[],[]⟩,⟨.append 2 58 32 (.t 5) (.t 6),some 7,none,[],[]⟩,⟨.mv (.t 7),some 2,none,[],[]⟩]
def r_clP_3:Reg:=⟨[],zou,[5],[],false⟩
def ir_clP:IR:=(.seq (.reg r_clP_0)
 (.seq (.seq (.reg r_clP_1)
 (.cond (.t 4) (.seq (.reg r_clP_2)
 .ret)
 .skip))
 (.seq (.reg r_clP_3)
 .ret)))
def res_clP:List RDesc:=[(.tmp 2)]
theorem e_clP_0:EqR r_clP_0 [⟨.mknil 2 58,some 2,none,[],[]⟩] [2]:=fun _ _ _=>rfl
theorem e_clP_1:EqR r_clP_1 [⟨.mv (.t 0),some 3,none,[],[]⟩,⟨.nileq false (.t 3),some 4,none,[],[]⟩] []:=fun _ _ _=>rfl
theorem e_clP_2:EqR r_clP_2 [⟨.mknil 2 58,some 2,none,[],[]⟩] [2]:=fun _ _ _=>rfl
theorem e_clP_3:EqR r_clP_3 zou [5]:=fun _ _ _=>rfl
theorem fn_clP {args:List AV} {r:AV} (ha:args.length.ble Try.f37.ntmps = true) (h:run (AFn Try.prog) ir_clP (endQ res_clP r) (z0b args)):AFn Try.prog 37 args r :=
 AFn.of_code (pv:=false) (hint:=fun _=>[]) (c:=Try.f37.body.getD .skip) (by kernel_rfl) (by kernel_rfl) Try.func37 (by kernel_rfl) (by kernel_rfl) (by kernel_rfl) (of_decide_eq_true (by kernel_rfl)) (Nat.le_of_ble_eq_true ha) (Nat.le_of_ble_eq_true (by kernel_rfl)) (z09 h)
/-! ### percolate/model.Without$1 -/
def r_wo1_0:Reg:=⟨[],[⟨.box 2 58 (.t 0),some 2,none,[],[]⟩,⟨.mv (.c (.bool false)),some 3,none,[],[]⟩],[2],[],false⟩
def zmk:List ROp:=[⟨.load 3 true (.t 1),some 4,none,[7],[]⟩,⟨.faddr 0 (.t 2),some 5,none,[7],[]⟩,⟨.load 1 false (.t 5),some 6,none,[7],[]⟩,⟨.callv (.c (.clo 66 [] [])) [(.t 4),(.t 6)],some 7,none,[],[]⟩,⟨.mv (.t 7),some 3,none,[],[]⟩]
def r_wo1_1:Reg:=⟨[],zmk,[7],[],false⟩
def ir_wo1:IR:=(.seq (.reg r_wo1_0)
 (.seq (.reg r_wo1_1)
 .ret))
def res_wo1:List RDesc:=[(.tmp 3)]
theorem e_wo1_0:EqR r_wo1_0 [⟨.box 2 58 (.t 0),some 2,none,[],[]⟩,⟨.mv (.c (.bool false)),some 3,none,[],[]⟩] [2]:=fun _ _ _=>rfl
theorem e_wo1_1:EqR r_wo1_1 zmk [7]:=fun _ _ _=>rfl
theorem fn_wo1 {args:List AV} {r:AV} (ha:args.length.ble Try.f80.ntmps = true) (h:run (AFn Try.prog) ir_wo1 (endQ res_wo1 r) (z0b args)):AFn Try.prog 80 args r :=
 AFn.of_code (pv:=false) (hint:=fun _=>[]) (c:=Try.f80.body.getD .skip) (by kernel_rfl) (by kernel_rfl) Try.func80 (by kernel_rfl) (by kernel_rfl) (by kernel_rfl) (of_decide_eq_true (by kernel_rfl)) (Nat.le_of_ble_eq_true ha) (Nat.le_of_ble_eq_true (by kernel_rfl)) (z09 h)
attribute [local go_sem ↓] ir_clP
attribute [local go_sem] res_clP e_clP_0 e_clP_1 e_clP_2 e_clP_3 zou
attribute [local go_sem ↓] ir_wo1
attribute [local go_sem] res_wo1 e_wo1_0 e_wo1_1 zmk
theorem zy3 (l:List Par) (hl:l.length≤1000000):AFn Try.prog 37 [.sl (l.map Par.a)] (.own 2 58 (l.map Par.a)):=by
 refine fn_clP rfl ?_
 have h2:∀ d,d ∈ l.map Par.a->d.cells.length = 2∧d.cells.all AV.one = true:=fun d hd=>by
  obtain ⟨x,_,rfl⟩:=List.mem_map.1 hd; exact ⟨rfl,rfl⟩
 simp (maxSteps:=9^7) only [go_sem,↓reduceIte,reduceCtorEq,Nat.reduceEqDiff,Nat.reduceBEq,Nat.reduceAdd,Nat.reduceSub,Nat.reduceMul,Nat.reduceLT,Nat.reduceLeDiff,Nat.reduceBNe,Int.reduceBEq,Int.reduceBNe,Int.reduceLT,Int.reduceLE,Par.a,nul,Spn.a,List.length_map]
 refine ⟨fun h=>?_,⟨by omega,by omega⟩,h2⟩
 cases l with
 | nil=>rfl
 | cons x l=>cases h
theorem wo1_ok (x:Par) (s:Spn):AFn Try.prog 80 [x.a,.rp [.str s.lo,.str s.hi,.bool s.op]] (.bool (s.has x.key)):=by
 refine fn_wo1 rfl ?_
 have c:=zha s x.key
 simp only [Spn.a] at c
 (repeat (first | simp (maxSteps:=9^7) only [go_sem,↓reduceIte,reduceCtorEq,Nat.reduceEqDiff,Nat.reduceBEq,Nat.reduceAdd,Nat.reduceSub,Nat.reduceMul,Nat.reduceLT,Nat.reduceLeDiff,Nat.reduceBNe,Int.reduceBEq,Int.reduceBNe,Int.reduceLT,Int.reduceLE,Par.a,nul,Spn.a] | refine z01 (c) ?_ | refine z00 (c) ?_ | refine And.intro (by omega) ?_ | refine And.intro (fun d hd=>by (repeat (rcases hd with rfl | hd; · exact ⟨rfl,rfl⟩)); cases hd) ?_))
end
section
/-
 Layer 10 on the plain machine: the code's answer,once its map behind a message is known.
-/
open Go.RowKit
attribute [local go_sem ↓] z0s z0g
/-! ### percolate/answer.Do -/
def zp9:List ROp:=[⟨.box 6 26 (.t 1),some 3,none,[4,5],[]⟩,⟨.mknil 2 58,some 4,none,[5],[]⟩,⟨.alloc 4 30 (.agg [(.int .i64 0),(.bool false),(.str ⟨#[]⟩),(.sl [])]),some 5,none,[],[]⟩]
def r_aDo_0:Reg:=⟨[],zp9,[3,4,5],[],false⟩
def zp8:List ROp:=[⟨.load 6 true (.t 3),some 10,none,[11],[]⟩,⟨.callv (.c (.clo 46 [] [])) [(.t 10)],some 11,none,[],[]⟩,⟨.mv (.t 11),some 6,none,[],[]⟩]
def r_aDo_1:Reg:=⟨[],zp8,[11],[],false⟩
def r_aDo_2:Reg:=⟨[],[⟨.mv (.t 6),some 12,none,[],[]⟩,⟨.bin .neq (.t 12) (.c (.int .i64 0)),some 13,none,[],[]⟩],[],[],false⟩
def zp7:List ROp:=[⟨.mv (.t 0),some 14,none,[15],[]⟩,⟨.callv (.c (.clo 37 [] [])) [(.t 14)],some 15,none,[],[]⟩,⟨.mv (.t 6),some 16,none,[],[]⟩,⟨.bld [(.int .i64 0),(.bool false),(.str ⟨#[]⟩),(.sl [])] [⟨0,1,(.t 16)⟩],some 17,none,[],[]⟩,⟨.mv (.t 15),some 4,none,[],[]⟩,⟨.store 4 (.t 5) (.t 17),none,none,[],[]⟩]
def r_aDo_3:Reg:=⟨[],zp7,[15],[],false⟩
def r_aDo_4:Reg:=⟨[],[⟨.alloc 4 30 (.agg [(.int .i64 0),(.bool false),(.str ⟨#[]⟩),(.sl [])]),some 7,none,[],[]⟩],[7],[],false⟩
def r_aDo_5:Reg:=⟨[],[⟨.faddr 0 (.t 3),some 18,none,[],[]⟩,⟨.load 1 false (.t 18),some 19,none,[],[]⟩],[],[],false⟩
def r_aDo_6:Reg:=⟨[],[⟨.bin .eql (.t 19) (.c (.int .i64 5)),some 30,none,[],[]⟩,⟨.mv (.t 30),some 29,none,[],[]⟩],[],[],false⟩
def zp6:List ROp:=[⟨.mv (.t 0),some 32,none,[35],[]⟩,⟨.faddr 1 (.t 3),some 33,none,[35],[]⟩,⟨.load 1 false (.t 33),some 34,none,[35],[]⟩,⟨.callv (.c (.clo 47 [] [])) [(.t 32),(.t 34)],some 35,none,[],[]⟩,⟨.mv (.t 35),some 31,none,[],[]⟩,⟨.ext 0 (.t 31),some 36,none,[],[]⟩,⟨.ext 1 (.t 31),some 37,none,[],[]⟩,⟨.faddr 2 (.t 7),some 38,none,[],[]⟩,⟨.store 1 (.t 38) (.t 36),none,none,[],[]⟩,⟨.faddr 1 (.t 7),some 39,none,[],[]⟩,⟨.store 1 (.t 39) (.t 37),none,none,[],[]⟩]
def r_aDo_7:Reg:=⟨[],zp6,[35],[],false⟩
def r_aDo_8:Reg:=⟨[],[⟨.bin .eql (.t 19) (.c (.int .i64 6)),some 41,none,[],[]⟩,⟨.mv (.t 41),some 40,none,[],[]⟩],[],[],false⟩
def zp5:List ROp:=[⟨.callv (.c (.clo 48 [] [])) [(.t 42),(.t 44),(.t 46)],some 47,none,[],[]⟩,⟨.faddr 3 (.t 7),some 48,none,[],[]⟩,⟨.store 1 (.t 48) (.t 47),none,none,[],[7]⟩]
def zqp:List ROp:=[⟨.mv (.t 0),some 42,none,[44,47],[]⟩,⟨.load 6 true (.t 3),some 43,none,[44,47],[]⟩,⟨.callv (.c (.clo 49 [] [])) [(.t 43)],some 44,none,[47],[]⟩,⟨.faddr 5 (.t 3),some 45,none,[44,47],[]⟩,⟨.load 1 false (.t 45),some 46,none,[44,47],[]⟩]
def r_aDo_9:Reg:=⟨zqp,zp5,[44,47],[],true⟩
def zh8:List ROp:=[⟨.load 6 true (.t 3),some 21,none,[22,8],[]⟩,⟨.callv (.c (.clo 50 [] [])) [(.t 21),(.c (.int .i64 1))],some 22,none,[8],[]⟩,⟨.mv (.t 22),some 20,none,[8],[]⟩,⟨.ext 0 (.t 20),some 23,none,[8],[]⟩,⟨.ext 1 (.t 20),some 24,none,[8],[]⟩,⟨.alloc 6 70 (.agg [(.int .i64 0),(.int .i64 0),(.str ⟨#[]⟩),(.str ⟨#[]⟩),(.bool false),(.str ⟨#[]⟩)]),some 8,none,[],[]⟩,⟨.store 6 (.t 8) (.t 23),none,none,[],[]⟩,⟨.mv (.t 24),some 9,none,[],[]⟩]
def zx1:Reg:=⟨[],zh8,[22,8],[],false⟩
def zhu:List ROp:=[⟨.mv (.t 0),some 25,none,[27],[]⟩,⟨.load 6 true (.t 8),some 26,none,[27],[]⟩,⟨.callv (.c (.clo 51 [] [])) [(.t 25),(.t 26)],some 27,none,[],[]⟩,⟨.load 4 true (.t 7),some 28,none,[27],[]⟩,⟨.mv (.t 27),some 4,none,[],[]⟩]
def zx0:Reg:=⟨zhu,[⟨.store 4 (.t 5) (.t 28),none,none,[],[5]⟩],[27],[],true⟩
def zht:List ROp:=[⟨.mv (.t 0),some 49,none,[50],[]⟩,⟨.callv (.c (.clo 37 [] [])) [(.t 49)],some 50,none,[],[]⟩,⟨.load 4 true (.t 7),some 51,none,[50],[]⟩,⟨.mv (.t 50),some 4,none,[],[]⟩]
def zwz:Reg:=⟨zht,[⟨.store 4 (.t 5) (.t 51),none,none,[],[5]⟩],[50],[],true⟩
def ir_aDo:IR:=(.seq (.reg r_aDo_0)
 (.seq (.seq (.reg r_aDo_1)
 (.seq (.reg r_aDo_2)
 (.cond (.t 13) (.seq (.reg r_aDo_3)
 .ret)
 .skip)))
 (.seq (.reg r_aDo_4)
 (.seq (.seq (.reg r_aDo_5)
 (.block 0 (.seq (.reg r_aDo_6)
 (.cond (.t 29) (.reg r_aDo_7)
 (.seq (.reg r_aDo_8)
 (.cond (.t 40) (.reg r_aDo_9)
 (.seq (.reg zx1)
 (.seq (.reg zx0)
 .ret))))))))
 (.seq (.reg zwz)
 .ret)))))
def res_aDo:List RDesc:=[(.tmp 4),(.cell 5 4 true)]
theorem e_aDo_0:EqR r_aDo_0 zp9 [3,4,5]:=fun _ _ _=>rfl
theorem e_aDo_1:EqR r_aDo_1 zp8 [11]:=fun _ _ _=>rfl
theorem e_aDo_2:EqR r_aDo_2 [⟨.mv (.t 6),some 12,none,[],[]⟩,⟨.bin .neq (.t 12) (.c (.int .i64 0)),some 13,none,[],[]⟩] []:=fun _ _ _=>rfl
theorem e_aDo_3:EqR r_aDo_3 zp7 [15]:=fun _ _ _=>rfl
theorem e_aDo_4:EqR r_aDo_4 [⟨.alloc 4 30 (.agg [(.int .i64 0),(.bool false),(.str ⟨#[]⟩),(.sl [])]),some 7,none,[],[]⟩] [7]:=fun _ _ _=>rfl
theorem e_aDo_5:EqR r_aDo_5 [⟨.faddr 0 (.t 3),some 18,none,[],[]⟩,⟨.load 1 false (.t 18),some 19,none,[],[]⟩] []:=fun _ _ _=>rfl
theorem e_aDo_6:EqR r_aDo_6 [⟨.bin .eql (.t 19) (.c (.int .i64 5)),some 30,none,[],[]⟩,⟨.mv (.t 30),some 29,none,[],[]⟩] []:=fun _ _ _=>rfl
theorem e_aDo_7:EqR r_aDo_7 zp6 [35]:=fun _ _ _=>rfl
theorem e_aDo_8:EqR r_aDo_8 [⟨.bin .eql (.t 19) (.c (.int .i64 6)),some 41,none,[],[]⟩,⟨.mv (.t 41),some 40,none,[],[]⟩] []:=fun _ _ _=>rfl
theorem e_aDo_9 (C:FuncId->List AV->AV->Prop) (σ:St) (K:St->Prop):z0l C r_aDo_9 σ K = z0a C [] zp5 zqp (σ.kills [44,47]) K:=rfl
theorem e_aDo_10:EqR zx1 zh8 [22,8]:=fun _ _ _=>rfl
theorem e_aDo_11 (C:FuncId->List AV->AV->Prop) (σ:St) (K:St->Prop):z0l C zx0 σ K = z0a C [] [⟨.store 4 (.t 5) (.t 28),none,none,[],[5]⟩] zhu (σ.kills [27]) K:=rfl
theorem e_aDo_12 (C:FuncId->List AV->AV->Prop) (σ:St) (K:St->Prop):z0l C zwz σ K = z0a C [] [⟨.store 4 (.t 5) (.t 51),none,none,[],[5]⟩] zht (σ.kills [50]) K:=rfl
theorem fn_aDo {args:List AV} {r:AV} (ha:args.length.ble Try.f35.ntmps = true) (h:run (AFn Try.prog) ir_aDo (endQ res_aDo r) (z0b args)):AFn Try.prog 35 args r :=
 AFn.of_code (pv:=false) (hint:=fun _=>[]) (c:=Try.f35.body.getD .skip) (by kernel_rfl) (by kernel_rfl) Try.func35 (by kernel_rfl) (by kernel_rfl) (by kernel_rfl) (of_decide_eq_true (by kernel_rfl)) (Nat.le_of_ble_eq_true ha) (Nat.le_of_ble_eq_true (by kernel_rfl)) (z09 h)
attribute [local go_sem ↓] ir_aDo
attribute [local go_sem] res_aDo e_aDo_0 zp9 e_aDo_1 zp8 e_aDo_2 e_aDo_3 zp7 e_aDo_4 e_aDo_5 e_aDo_6 e_aDo_7 zp6 e_aDo_8 e_aDo_9 zp5 zqp e_aDo_10 zh8 e_aDo_11 zhu e_aDo_12 zht
theorem zrs {o:Opr} (h:o.right = true):o.wr = decide (o.kind≤4):=by
 unfold Opr.right at h
 simp only [Bool.and_eq_true] at h
 have h2:=h.1.1.1.1.1.1.1.1
 unfold Opr.wr
 rw [h2,Bool.true_and]
theorem kind_right {o:Opr} (h:o.right = true):1≤o.kind∧o.kind≤6:=by
 unfold Opr.right at h
 simp only [Bool.and_eq_true,decide_eq_true_eq] at h
 exact ⟨h.1.1.1.1.1.1.1.1,h.1.1.1.1.1.1.1.2⟩
set_option maxHeartbeats 8000000 in
theorem aDo_of (l:List Par) (o:Opr) (hTk:AFn Try.prog 51 [.sl (l.map Par.a),o.msg.a] (.sl ((z4u l o.msg).map Par.a))) (ho:KOrd l) (hl:l.length≤100000) (h1:o.key.size≤1000000) (h2:o.hi.size≤1000000):AFn Try.prog 35 [.sl (l.map Par.a),o.a] (.tup [.sl ((doF l o).1.map Par.a),(doF l o).2.a]):=by
 refine fn_aDo rfl ?_
 have c1:=zlk o (by omega)
 have c5:=zy3 l (by omega)
 have tkl:List.take l.length (l.map Par.a) = l.map Par.a:=List.take_of_length_le (by simp)
 unfold doF
 simp only [Opr.a] at c1
 cases hr:o.right with
 | false =>
  rw [hr,if_neg (by decide)] at c1
  rw [if_neg (by decide)]
  (repeat (first | simp (maxSteps:=9^7) only [go_sem,↓reduceIte,reduceCtorEq,Nat.reduceEqDiff,Nat.reduceBEq,Nat.reduceAdd,Nat.reduceSub,Nat.reduceMul,Nat.reduceLT,Nat.reduceLeDiff,Nat.reduceBNe,Int.reduceBEq,Int.reduceBNe,Int.reduceLT,Int.reduceLE,Par.a,nul,Spn.a,OSpn.a,Eff.a,Msg.a,Opr.a,Ans.a,List.map_nil,tkl,List.length_map,List.drop_zero] | refine z01 (c1) ?_ | refine z00 (c1) ?_ | refine z01 (c5) ?_ | refine z00 (c5) ?_ | refine And.intro (by omega) ?_ | refine And.intro (fun d hd=>by (repeat (rcases hd with rfl | hd; · exact ⟨rfl,rfl⟩)); cases hd) ?_))
 | true =>
  have hwr:=zrs hr
  have hkr:=kind_right hr
  rw [hr,if_pos rfl] at c1
  rw [if_pos rfl]
  cases h5:(o.kind == 5) with
  | true =>
   have h5':o.kind = 5:=by simpa using h5
   rw [if_pos h5']
   have c2:=mGet_ok l o.key ho (by omega)
   generalize hasK l o.key = hb at *
   generalize valK l o.key = vb at *
   (repeat (first | simp (maxSteps:=9^7) only [go_sem,↓reduceIte,reduceCtorEq,Nat.reduceEqDiff,Nat.reduceBEq,Nat.reduceAdd,Nat.reduceSub,Nat.reduceMul,Nat.reduceLT,Nat.reduceLeDiff,Nat.reduceBNe,Int.reduceBEq,Int.reduceBNe,Int.reduceLT,Int.reduceLE,Par.a,nul,Spn.a,OSpn.a,Eff.a,Msg.a,Opr.a,Ans.a,List.map_nil,h5,tkl,List.length_map,List.drop_zero] | refine z01 (c1) ?_ | refine z00 (c1) ?_ | refine z01 (c2) ?_ | refine z00 (c2) ?_ | refine z01 (c5) ?_ | refine z00 (c5) ?_ | refine And.intro (by omega) ?_ | refine And.intro (fun d hd=>by (repeat (rcases hd with rfl | hd; · exact ⟨rfl,rfl⟩)); cases hd) ?_))
  | false =>
   have h5':¬ o.kind = 5:=by simpa using h5
   rw [if_neg h5']
   cases h6:(o.kind == 6) with
   | true =>
    have h6':o.kind = 6:=by simpa using h6
    rw [if_pos h6']
    have c2:=zx3 o (by omega)
    have hsp:o.span = ⟨o.key,o.hi,o.op⟩:=by unfold Opr.span Opr.ranged; rw [h6]; simp
    rw [hsp] at c2
    obtain ⟨q1,q2⟩:=ziq hr h6'
    have c3:=mSc_ok l o.sp6 o.lim.toNat (by omega) (by omega)
    rw [show ((o.lim.toNat:Nat):Int) = o.lim by omega] at c3
    have tk:List.take (z0z o.sp6 o.lim.toNat l).length ((z0z o.sp6 o.lim.toNat l).map Par.a) = (z0z o.sp6 o.lim.toNat l).map Par.a:=List.take_of_length_le (by simp)
    generalize z0z o.sp6 o.lim.toNat l = Z at *
    simp only [Opr.sp6,Spn.a,OSpn.a,Opr.a] at c2 c3
    (repeat (first | simp (maxSteps:=9^7) only [go_sem,↓reduceIte,reduceCtorEq,Nat.reduceEqDiff,Nat.reduceBEq,Nat.reduceAdd,Nat.reduceSub,Nat.reduceMul,Nat.reduceLT,Nat.reduceLeDiff,Nat.reduceBNe,Int.reduceBEq,Int.reduceBNe,Int.reduceLT,Int.reduceLE,Par.a,nul,Spn.a,OSpn.a,Eff.a,Msg.a,Opr.a,Ans.a,List.map_nil,h5,h6,tk,tkl,List.length_map,List.drop_zero] | refine z01 (c1) ?_ | refine z00 (c1) ?_ | refine z01 (c2) ?_ | refine z00 (c2) ?_ | refine z01 (c3) ?_ | refine z00 (c3) ?_ | refine z01 (c5) ?_ | refine z00 (c5) ?_ | refine And.intro (by omega) ?_ | refine And.intro (fun d hd=>by (repeat (rcases hd with rfl | hd; · exact ⟨rfl,rfl⟩)); cases hd) ?_))
   | false =>
    have h6':¬ o.kind = 6:=by simpa using h6
    rw [if_neg h6']
    have c2:=opM_ok o (by omega) hr (by rw [hwr]; exact decide_eq_true (by omega))
    have c3:=hTk
    have tk:List.take (z4u l o.msg).length ((z4u l o.msg).map Par.a) = (z4u l o.msg).map Par.a:=List.take_of_length_le (by simp)
    generalize z4u l o.msg = Z at *
    simp only [Opr.msg,Msg.a,Opr.a] at c2 c3
    (repeat (first | simp (maxSteps:=9^7) only [go_sem,↓reduceIte,reduceCtorEq,Nat.reduceEqDiff,Nat.reduceBEq,Nat.reduceAdd,Nat.reduceSub,Nat.reduceMul,Nat.reduceLT,Nat.reduceLeDiff,Nat.reduceBNe,Int.reduceBEq,Int.reduceBNe,Int.reduceLT,Int.reduceLE,Par.a,nul,Spn.a,OSpn.a,Eff.a,Msg.a,Opr.a,Ans.a,List.map_nil,h5,h6,tk,tkl,List.length_map,List.drop_zero] | refine z01 (c1) ?_ | refine z00 (c1) ?_ | refine z01 (c2) ?_ | refine z00 (c2) ?_ | refine z01 (c3) ?_ | refine z00 (c3) ?_ | refine z01 (c5) ?_ | refine z00 (c5) ?_ | refine And.intro (by omega) ?_ | refine And.intro (fun d hd=>by (repeat (rcases hd with rfl | hd; · exact ⟨rfl,rfl⟩)); cases hd) ?_))
end
section
/-
 Layer 40 on the plain machine: has each event a point of its own,by the document.
-/
open Go.RowKit
attribute [local go_sem ↓] z0s z0g
/-! ### percolate/percolateref37.Apart -/
def r_rAp_0:Reg:=⟨[],[⟨.mv (.c (.bool false)),some 2,none,[],[]⟩],[],[],false⟩
def r_rAp_1:Reg:=⟨[],[⟨.mv (.c (.int .i64 0)),some 3,none,[],[]⟩],[],[],false⟩
def zn5:List ROp:=[⟨.mv (.t 3),some 5,none,[],[]⟩,⟨.mv (.t 0),some 6,none,[],[]⟩,⟨.len false (.t 6),some 7,none,[],[]⟩,⟨.bin .lss (.t 5) (.t 7),some 8,none,[],[]⟩]
def r_rAp_2:Reg:=⟨[],zn5,[],[],false⟩
def r_rAp_3:Reg:=⟨[],[⟨.mv (.c (.int .i64 0)),some 4,none,[],[]⟩],[],[],false⟩
def zn4:List ROp:=[⟨.mv (.t 4),some 11,none,[],[]⟩,⟨.mv (.t 3),some 12,none,[],[]⟩,⟨.bin .lss (.t 11) (.t 12),some 13,none,[],[]⟩]
def r_rAp_4:Reg:=⟨[],zn4,[],[],false⟩
def zn3:List ROp:=[⟨.bin .eql (.t 33) (.t 38),some 39,(some (28,true)),[],[]⟩,⟨.pick (.t 28) (.t 39) (.c (.bool false)),some 40,none,[],[]⟩]
def zqh:List ROp:=[⟨.mv (.t 0),some 16,none,[],[]⟩,⟨.mv (.t 3),some 17,none,[],[]⟩,⟨.iaddr 15 (.t 16) (.t 17),some 18,none,[],[]⟩,⟨.faddr 14 (.t 18),some 19,none,[],[]⟩,⟨.load 1 false (.t 19),some 20,none,[],[]⟩,⟨.mv (.t 20),some 21,none,[],[]⟩,⟨.mv (.t 0),some 22,(some (21,true)),[],[]⟩,⟨.mv (.t 4),some 23,(some (21,true)),[],[]⟩,⟨.iaddr 15 (.t 22) (.t 23),some 24,(some (21,true)),[],[]⟩,⟨.faddr 14 (.t 24),some 25,(some (21,true)),[],[]⟩,⟨.load 1 false (.t 25),some 26,(some (21,true)),[],[]⟩,⟨.pick (.t 21) (.t 26) (.c (.bool false)),some 27,none,[],[]⟩,⟨.mv (.t 27),some 28,none,[],[]⟩,⟨.mv (.t 0),some 29,(some (28,true)),[],[]⟩,⟨.mv (.t 3),some 30,(some (28,true)),[],[]⟩,⟨.iaddr 15 (.t 29) (.t 30),some 31,(some (28,true)),[],[]⟩,⟨.faddr 12 (.t 31),some 32,(some (28,true)),[],[]⟩,⟨.load 1 false (.t 32),some 33,(some (28,true)),[],[]⟩,⟨.mv (.t 0),some 34,(some (28,true)),[],[]⟩,⟨.mv (.t 4),some 35,(some (28,true)),[],[]⟩,⟨.iaddr 15 (.t 34) (.t 35),some 36,(some (28,true)),[],[]⟩,⟨.faddr 12 (.t 36),some 37,(some (28,true)),[],[]⟩,⟨.load 1 false (.t 37),some 38,(some (28,true)),[],[]⟩]
def r_rAp_5:Reg:=⟨zqh,zn3,[],[],true⟩
def r_rAp_6:Reg:=⟨[],[⟨.mv (.c (.bool false)),some 2,none,[],[]⟩],[],[],false⟩
def zn2:List ROp:=[⟨.mv (.t 4),some 14,none,[],[]⟩,⟨.bin .add (.t 14) (.c (.int .i64 1)),some 15,none,[],[]⟩,⟨.mv (.t 15),some 4,none,[],[]⟩]
def r_rAp_7:Reg:=⟨[],zn2,[],[],false⟩
def ztz:IR:=(.seq (.seq (.reg r_rAp_4)
 (.cond (.t 13) .skip
 (.exit 2)))
 (.seq (.block 3 (.seq (.reg r_rAp_5)
 (.cond (.t 40) (.seq (.reg r_rAp_6)
 .ret)
 .skip)))
 (.reg r_rAp_7)))
def zn1:List ROp:=[⟨.mv (.t 0),some 41,none,[],[]⟩,⟨.mv (.t 3),some 42,none,[],[]⟩,⟨.iaddr 15 (.t 41) (.t 42),some 43,none,[],[]⟩,⟨.faddr 14 (.t 43),some 44,none,[],[]⟩,⟨.load 1 false (.t 44),some 45,none,[],[]⟩,⟨.mv (.t 45),some 46,none,[],[]⟩,⟨.mv (.t 0),some 47,(some (46,true)),[],[]⟩,⟨.mv (.t 3),some 48,(some (46,true)),[],[]⟩,⟨.iaddr 15 (.t 47) (.t 48),some 49,(some (46,true)),[],[]⟩,⟨.faddr 12 (.t 49),some 50,(some (46,true)),[],[]⟩,⟨.load 1 false (.t 50),some 51,(some (46,true)),[],[]⟩,⟨.bin .lss (.t 51) (.c (.int .i64 1)),some 52,(some (46,true)),[],[]⟩,⟨.pick (.t 46) (.t 52) (.c (.bool false)),some 53,none,[],[]⟩]
def r_rAp_9:Reg:=⟨[],zn1,[],[],false⟩
def zu2:Reg:=⟨[],[⟨.mv (.c (.bool false)),some 2,none,[],[]⟩],[],[],false⟩
def zg3:List ROp:=[⟨.mv (.t 3),some 9,none,[],[]⟩,⟨.bin .add (.t 9) (.c (.int .i64 1)),some 10,none,[],[]⟩,⟨.mv (.t 10),some 3,none,[],[]⟩]
def zu1:Reg:=⟨[],zg3,[],[],false⟩
def zkd:IR:=(.seq (.seq (.reg r_rAp_2)
 (.cond (.t 8) .skip
 (.exit 0)))
 (.seq (.block 1 (.seq (.seq (.reg r_rAp_3)
 (.block 2 (.loop ztz)))
 (.seq (.reg r_rAp_9)
 (.cond (.t 53) (.seq (.reg zu2)
 .ret)
 .skip))))
 (.reg zu1)))
def zu0:Reg:=⟨[],[⟨.mv (.c (.bool true)),some 2,none,[],[]⟩],[],[],false⟩
def ir_rAp:IR:=(.seq (.reg r_rAp_0)
 (.seq (.seq (.reg r_rAp_1)
 (.block 0 (.loop zkd)))
 (.seq (.reg zu0)
 .ret)))
def res_rAp:List RDesc:=[(.tmp 2)]
theorem e_rAp_0:EqR r_rAp_0 [⟨.mv (.c (.bool false)),some 2,none,[],[]⟩] []:=fun _ _ _=>rfl
theorem e_rAp_1:EqR r_rAp_1 [⟨.mv (.c (.int .i64 0)),some 3,none,[],[]⟩] []:=fun _ _ _=>rfl
theorem e_rAp_2:EqR r_rAp_2 zn5 []:=fun _ _ _=>rfl
theorem e_rAp_3:EqR r_rAp_3 [⟨.mv (.c (.int .i64 0)),some 4,none,[],[]⟩] []:=fun _ _ _=>rfl
theorem e_rAp_4:EqR r_rAp_4 zn4 []:=fun _ _ _=>rfl
theorem e_rAp_5 (C:FuncId->List AV->AV->Prop) (σ:St) (K:St->Prop):z0l C r_rAp_5 σ K = z0a C [] zn3 zqh (σ.kills []) K:=rfl
theorem e_rAp_6:EqR r_rAp_6 [⟨.mv (.c (.bool false)),some 2,none,[],[]⟩] []:=fun _ _ _=>rfl
theorem e_rAp_7:EqR r_rAp_7 zn2 []:=fun _ _ _=>rfl
theorem e_rAp_9:EqR r_rAp_9 zn1 []:=fun _ _ _=>rfl
theorem e_rAp_10:EqR zu2 [⟨.mv (.c (.bool false)),some 2,none,[],[]⟩] []:=fun _ _ _=>rfl
theorem e_rAp_11:EqR zu1 zg3 []:=fun _ _ _=>rfl
theorem e_rAp_13:EqR zu0 [⟨.mv (.c (.bool true)),some 2,none,[],[]⟩] []:=fun _ _ _=>rfl
theorem fn_rAp {args:List AV} {r:AV} (ha:args.length.ble Try.f26.ntmps = true) (h:run (AFn Try.prog) ir_rAp (endQ res_rAp r) (z0b args)):AFn Try.prog 26 args r :=
 AFn.of_code (pv:=false) (hint:=fun _=>[]) (c:=Try.f26.body.getD .skip) (by kernel_rfl) (by kernel_rfl) Try.func26 (by kernel_rfl) (by kernel_rfl) (by kernel_rfl) (of_decide_eq_true (by kernel_rfl)) (Nat.le_of_ble_eq_true ha) (Nat.le_of_ble_eq_true (by kernel_rfl)) (z09 h)
attribute [local go_sem ↓] ir_rAp
attribute [local go_sem] res_rAp e_rAp_0 e_rAp_1 e_rAp_2 zn5 e_rAp_3 e_rAp_4 zn4 e_rAp_5 zn3 zqh e_rAp_6 e_rAp_7 zn2 e_rAp_9 zn1 e_rAp_10 e_rAp_11 zg3 e_rAp_13
def badJ (a b:Evt):Bool:=a.done && b.done && (a.point == b.point)
def badP (l:List Evt) (i j:Nat):Bool:=match l[i]?,l[j]? with | some a,some b=>badJ a b | _,_=>false
def badI (l:List Evt) (i:Nat):Bool:=match l[i]? with | some a=>a.done && decide (a.point < 1) | none=>false
def okI (l:List Evt) (i:Nat):Bool:=((List.range i).all fun j=>!badP l i j) && !badI l i
def z56 (l:List Evt):Bool:=(List.range l.length).all (okI l)
theorem zrk {l:List Evt} (h:∀ i,i < l.length->okI l i = true):z56 l = true:=by
 unfold z56
 rw [List.all_eq_true]
 exact fun i hi=>h i (List.mem_range.1 hi)
theorem z9n {l:List Evt} {i:Nat} (hi:i < l.length) (h:okI l i = false):z56 l = false:=by
 cases hA:z56 l with
 | false=>rfl
 | true =>
  unfold z56 at hA
  rw [List.all_eq_true] at hA
  rw [hA i (List.mem_range.2 hi)] at h; cases h
theorem okI_bad {l:List Evt} {i j:Nat} (hj:j < i) (h:badP l i j = true):okI l i = false:=by
 unfold okI
 have:((List.range i).all fun j=>!badP l i j) = false:=by
  rw [List.all_eq_false]
  exact ⟨j,List.mem_range.2 hj,by rw [h]; decide⟩
 rw [this]; rfl
theorem okI_of {l:List Evt} {i:Nat} (h:∀ j,j < i->badP l i j = false):okI l i = !badI l i:=by
 unfold okI
 have:((List.range i).all fun j=>!badP l i j) = true:=by
  rw [List.all_eq_true]
  exact fun j hj=>by rw [h j (List.mem_range.1 hj)]; rfl
 rw [this,Bool.true_and]
def apOI (l:List Evt) (m:Nat) (σ:St):Prop :=
 ∃ i:Nat,i≤l.length∧m = l.length - i∧(∀ i',i' < i->okI l i' = true)∧σ.T 0 = .sl (l.map Evt.a)∧σ.T 3 = .int .i64 i
def apII (l:List Evt) (i:Nat) (m:Nat) (σ:St):Prop :=
 ∃ j:Nat,j≤i∧m = i - j∧(∀ j',j' < j->badP l i j' = false)∧σ.T 0 = .sl (l.map Evt.a)∧σ.T 3 = .int .i64 i∧σ.T 4 = .int .i64 j
set_option maxHeartbeats 8000000 in
theorem rAp_ok (l:List Evt) (hl:l.length≤100000):AFn Try.prog 26 [.sl (l.map Evt.a)] (.bool (z56 l)):=by
 refine fn_rAp rfl ?_
 obtain ⟨R,hR⟩:∃ R,z56 l = R:=⟨_,rfl⟩
 rw [hR]
 simp (maxSteps:=9^7) only [go_sem,↓reduceIte,reduceCtorEq,Nat.reduceEqDiff,Nat.reduceBEq,Nat.reduceAdd,Nat.reduceSub,Nat.reduceMul,Nat.reduceLT,Nat.reduceLeDiff,Nat.reduceBNe,Int.reduceBEq,Int.reduceBNe,Int.reduceLT,Int.reduceLE,nul,Evt.a]
 refine z0f (apOI l) (k:=l.length) ⟨0,Nat.zero_le _,rfl,fun i' hi'=>by omega,?_,?_⟩ ?_
 iterate 2 focus ((simp (maxSteps:=9^7) only [go_sem,↓reduceIte,reduceCtorEq,Nat.reduceEqDiff,Nat.reduceBEq,Nat.reduceAdd,Nat.reduceSub,Nat.reduceMul,Nat.reduceLT,Nat.reduceLeDiff,Nat.reduceBNe,Int.reduceBEq,Int.reduceBNe,Int.reduceLT,Int.reduceLE,nul,Evt.a]) <;> rfl)
 rintro m σ ⟨i,hi,rfl,hok,t0,t3⟩
 simp only [zkd]
 by_cases hlt:i < l.length
 case neg =>
  have hlt':¬ (i:Int) < (l.length:Int):=by omega
  have e:=zrk fun i' hi'=>hok i' (by omega)
  rw [e] at hR
  subst hR
  simp (maxSteps:=9^7) only [go_sem,↓reduceIte,reduceCtorEq,Nat.reduceEqDiff,Nat.reduceBEq,Nat.reduceAdd,Nat.reduceSub,Nat.reduceMul,Nat.reduceLT,Nat.reduceLeDiff,Nat.reduceBNe,Int.reduceBEq,Int.reduceBNe,Int.reduceLT,Int.reduceLE,nul,Evt.a,t0,t3,hlt',List.length_map]
 have hlt':(i:Int) < (l.length:Int):=by omega
 obtain ⟨x,hx⟩:=z1w hlt
 have hge:=z1b (f:=Evt.a) hx
 simp only [Evt.a] at hge
 have hw:=z5s (j:=i) (by omega)
 have z0:(0:Int)≤(i:Int):=Int.natCast_nonneg i
 simp (maxSteps:=9^7) only [go_sem,↓reduceIte,reduceCtorEq,Nat.reduceEqDiff,Nat.reduceBEq,Nat.reduceAdd,Nat.reduceSub,Nat.reduceMul,Nat.reduceLT,Nat.reduceLeDiff,Nat.reduceBNe,Int.reduceBEq,Int.reduceBNe,Int.reduceLT,Int.reduceLE,nul,Evt.a,t0,t3,hlt',List.length_map]
 refine z0f (apII l i) (k:=i) ⟨0,Nat.zero_le _,rfl,fun j' hj'=>by omega,?_,?_,?_⟩ ?_
 iterate 3 focus ((simp (maxSteps:=9^7) only [go_sem,↓reduceIte,reduceCtorEq,Nat.reduceEqDiff,Nat.reduceBEq,Nat.reduceAdd,Nat.reduceSub,Nat.reduceMul,Nat.reduceLT,Nat.reduceLeDiff,Nat.reduceBNe,Int.reduceBEq,Int.reduceBNe,Int.reduceLT,Int.reduceLE,nul,Evt.a,t0,t3]) <;> rfl)
 clear t0 t3
 rintro m σ ⟨j,hj,rfl,hbp,t0,t3,t4⟩
 simp only [ztz]
 by_cases hjt:j < i
 case neg =>
  have hjt':¬ (j:Int) < (i:Int):=by omega
  have ok:=okI_of (l:=l) (i:=i) fun j' hj'=>hbp j' (by omega)
  unfold badI at ok
  rw [hx] at ok
  cases hd:x.done with
  | false =>
   have ok':okI l i = true:=by rw [ok]; simp [hd]
   simp (maxSteps:=9^7) only [go_sem,↓reduceIte,reduceCtorEq,Nat.reduceEqDiff,Nat.reduceBEq,Nat.reduceAdd,Nat.reduceSub,Nat.reduceMul,Nat.reduceLT,Nat.reduceLeDiff,Nat.reduceBNe,Int.reduceBEq,Int.reduceBNe,Int.reduceLT,Int.reduceLE,nul,Evt.a,t0,t3,t4,hjt',hlt,hlt',hge,hd,hw,z0,List.length_map,Int.toNat_natCast]
   (repeat refine And.intro (by omega) ?_)
   refine ⟨l.length - (i + 1),by omega,i + 1,by omega,rfl,fun i' hi'=>?_,?_,?_⟩
   ·rcases Nat.lt_or_ge i' i with h | h
    ·exact hok i' h
    ·rw [show i' = i by omega]; exact ok'
   iterate 2 focus ((simp (maxSteps:=9^7) only [go_sem,↓reduceIte,reduceCtorEq,Nat.reduceEqDiff,Nat.reduceBEq,Nat.reduceAdd,Nat.reduceSub,Nat.reduceMul,Nat.reduceLT,Nat.reduceLeDiff,Nat.reduceBNe,Int.reduceBEq,Int.reduceBNe,Int.reduceLT,Int.reduceLE,nul,Evt.a,t0,hw]) <;> rfl)
  | true =>
   by_cases hp:x.point < 1
   ·have ok':okI l i = false:=by rw [ok]; simp [hd,hp]
    rw [z9n hlt ok'] at hR
    subst hR
    simp (maxSteps:=9^7) only [go_sem,↓reduceIte,reduceCtorEq,Nat.reduceEqDiff,Nat.reduceBEq,Nat.reduceAdd,Nat.reduceSub,Nat.reduceMul,Nat.reduceLT,Nat.reduceLeDiff,Nat.reduceBNe,Int.reduceBEq,Int.reduceBNe,Int.reduceLT,Int.reduceLE,nul,Evt.a,t0,t3,t4,hjt',hlt,hlt',hge,hd,hp,hw,z0,List.length_map,Int.toNat_natCast]
   ·have ok':okI l i = true:=by rw [ok]; simp [hp]
    simp (maxSteps:=9^7) only [go_sem,↓reduceIte,reduceCtorEq,Nat.reduceEqDiff,Nat.reduceBEq,Nat.reduceAdd,Nat.reduceSub,Nat.reduceMul,Nat.reduceLT,Nat.reduceLeDiff,Nat.reduceBNe,Int.reduceBEq,Int.reduceBNe,Int.reduceLT,Int.reduceLE,nul,Evt.a,t0,t3,t4,hjt',hlt,hlt',hge,hd,hp,hw,z0,List.length_map,Int.toNat_natCast]
    (repeat refine And.intro (by omega) ?_)
    refine ⟨l.length - (i + 1),by omega,i + 1,by omega,rfl,fun i' hi'=>?_,?_,?_⟩
    ·rcases Nat.lt_or_ge i' i with h | h
     ·exact hok i' h
     ·rw [show i' = i by omega]; exact ok'
    iterate 2 focus ((simp (maxSteps:=9^7) only [go_sem,↓reduceIte,reduceCtorEq,Nat.reduceEqDiff,Nat.reduceBEq,Nat.reduceAdd,Nat.reduceSub,Nat.reduceMul,Nat.reduceLT,Nat.reduceLeDiff,Nat.reduceBNe,Int.reduceBEq,Int.reduceBNe,Int.reduceLT,Int.reduceLE,nul,Evt.a,t0,hw]) <;> rfl)
 have hjt':(j:Int) < (i:Int):=by omega
 have hjl:j < l.length:=by omega
 have hjl':(j:Int) < (l.length:Int):=by omega
 obtain ⟨y,hy⟩:=z1w hjl
 have hgy:=z1b (f:=Evt.a) hy
 simp only [Evt.a] at hgy
 have hwj:=z5s (j:=j) (by omega)
 have z1:(0:Int)≤(j:Int):=Int.natCast_nonneg j
 have bp:badP l i j = (x.done && y.done && (x.point == y.point)):=by unfold badP badJ; rw [hx,hy]
 have stepF:badP l i j = false->∀ σ':St,σ'.T 0 = .sl (l.map Evt.a)->σ'.T 3 = .int .i64 i->σ'.T 4 = .int .i64 ((j + 1:Nat):Int)->∃ m,m < i - j∧apII l i m σ':=fun hb σ' a1 a2 a3 =>
  ⟨i - (j + 1),by omega,j + 1,by omega,rfl,fun j' hj'=>by
   rcases Nat.lt_or_ge j' j with h | h
   ·exact hbp j' h
   ·rw [show j' = j by omega]; exact hb,a1,a2,a3⟩
 cases hd:x.done with
 | false =>
  rw [hd,Bool.false_and,Bool.false_and] at bp
  simp (maxSteps:=9^7) only [go_sem,↓reduceIte,reduceCtorEq,Nat.reduceEqDiff,Nat.reduceBEq,Nat.reduceAdd,Nat.reduceSub,Nat.reduceMul,Nat.reduceLT,Nat.reduceLeDiff,Nat.reduceBNe,Int.reduceBEq,Int.reduceBNe,Int.reduceLT,Int.reduceLE,nul,Evt.a,t0,t3,t4,hjt',hlt,hlt',hjl,hjl',hge,hgy,hd,hwj,z0,z1,List.length_map,Int.toNat_natCast]
  (repeat refine And.intro (by omega) ?_)
  refine stepF bp _ ?_ ?_ ?_
  iterate 3 focus ((simp (maxSteps:=9^7) only [go_sem,↓reduceIte,reduceCtorEq,Nat.reduceEqDiff,Nat.reduceBEq,Nat.reduceAdd,Nat.reduceSub,Nat.reduceMul,Nat.reduceLT,Nat.reduceLeDiff,Nat.reduceBNe,Int.reduceBEq,Int.reduceBNe,Int.reduceLT,Int.reduceLE,nul,Evt.a,t0,t3,hwj]) <;> rfl)
 | true =>
  cases hdy:y.done with
  | false =>
   rw [hd,hdy,Bool.true_and,Bool.false_and] at bp
   simp (maxSteps:=9^7) only [go_sem,↓reduceIte,reduceCtorEq,Nat.reduceEqDiff,Nat.reduceBEq,Nat.reduceAdd,Nat.reduceSub,Nat.reduceMul,Nat.reduceLT,Nat.reduceLeDiff,Nat.reduceBNe,Int.reduceBEq,Int.reduceBNe,Int.reduceLT,Int.reduceLE,nul,Evt.a,t0,t3,t4,hjt',hlt,hlt',hjl,hjl',hge,hgy,hd,hdy,hwj,z0,z1,List.length_map,Int.toNat_natCast]
   (repeat refine And.intro (by omega) ?_)
   refine stepF bp _ ?_ ?_ ?_
   iterate 3 focus ((simp (maxSteps:=9^7) only [go_sem,↓reduceIte,reduceCtorEq,Nat.reduceEqDiff,Nat.reduceBEq,Nat.reduceAdd,Nat.reduceSub,Nat.reduceMul,Nat.reduceLT,Nat.reduceLeDiff,Nat.reduceBNe,Int.reduceBEq,Int.reduceBNe,Int.reduceLT,Int.reduceLE,nul,Evt.a,t0,t3,hwj]) <;> rfl)
  | true =>
   cases hpe:(x.point == y.point) with
   | false =>
    rw [hd,hdy,hpe] at bp
    simp (maxSteps:=9^7) only [go_sem,↓reduceIte,reduceCtorEq,Nat.reduceEqDiff,Nat.reduceBEq,Nat.reduceAdd,Nat.reduceSub,Nat.reduceMul,Nat.reduceLT,Nat.reduceLeDiff,Nat.reduceBNe,Int.reduceBEq,Int.reduceBNe,Int.reduceLT,Int.reduceLE,nul,Evt.a,t0,t3,t4,hjt',hlt,hlt',hjl,hjl',hge,hgy,hd,hdy,hpe,hwj,z0,z1,List.length_map,Int.toNat_natCast]
    (repeat refine And.intro (by omega) ?_)
    refine stepF bp _ ?_ ?_ ?_
    iterate 3 focus ((simp (maxSteps:=9^7) only [go_sem,↓reduceIte,reduceCtorEq,Nat.reduceEqDiff,Nat.reduceBEq,Nat.reduceAdd,Nat.reduceSub,Nat.reduceMul,Nat.reduceLT,Nat.reduceLeDiff,Nat.reduceBNe,Int.reduceBEq,Int.reduceBNe,Int.reduceLT,Int.reduceLE,nul,Evt.a,t0,t3,hwj]) <;> rfl)
   | true =>
    rw [hd,hdy,hpe] at bp
    rw [z9n hlt (okI_bad hjt bp)] at hR
    subst hR
    simp (maxSteps:=9^7) only [go_sem,↓reduceIte,reduceCtorEq,Nat.reduceEqDiff,Nat.reduceBEq,Nat.reduceAdd,Nat.reduceSub,Nat.reduceMul,Nat.reduceLT,Nat.reduceLeDiff,Nat.reduceBNe,Int.reduceBEq,Int.reduceBNe,Int.reduceLT,Int.reduceLE,nul,Evt.a,t0,t3,t4,hjt',hlt,hlt',hjl,hjl',hge,hgy,hd,hdy,hpe,hwj,z0,z1,List.length_map,Int.toNat_natCast]
end
end Go.Proofs.Ytolocaankfcjiaa
