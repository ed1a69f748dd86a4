/-
  Part 15 of a proof: SyC, SyD, SyE, SyF.
-/
import Derived.Laws.OwnMore
import Derived.Deep.AppendLies
import Derived.Test.YtlhblpbfhfhlpaaGreatDoorSB14
set_option linter.unusedVariables false
set_option linter.unusedSimpArgs false
set_option maxRecDepth 100000
attribute [local go_sem] reduceCtorEq Nat.reduceEqDiff Nat.reduceBEq Nat.reduceAdd Nat.reduceSub Nat.reduceMul Nat.reduceLT Nat.reduceLeDiff Nat.reduceBNe Int.reduceBEq Int.reduceBNe Int.reduceLT Int.reduceLE
attribute [local go_sem ↓] reduceIte
namespace Go.Proofs.YtlhblpbfhfhlpaaGreatDoor
attribute [local go_sem] Msg.a Par.a
section
open Go.RowKit
attribute [local go_sem ↓] z1y z0n
attribute [local go_sem ↓] ir_hix
attribute [local go_sem] zkt e_hix_0 e_hix_1 zdp e_hix_2 e_hix_3 e_hix_4 zeg e_hix_5 e_hix_6 e_hix_8
attribute [local go_sem ↓] ir_hct
attribute [local go_sem] zku e_hct_0 e_hct_1 zdq
attribute [local go_sem ↓] zlh
attribute [local go_sem] zdw zqw zqv zqu z87 zqt z8c zqs zqr z86 zqq
attribute [local go_sem ↓] zli
attribute [local go_sem] zdx zr0 zqz zqy zqx z88
attribute [local go_sem ↓] ir_ltc
attribute [local go_sem] zks e_ltc_0 e_ltc_1 zef
def addS (s w:ByteArray):ByteArray:=if s.toList == (⟨#[]⟩:ByteArray).toList then w else s ++ ⟨#[32]⟩ ++ w
theorem z1b (s w:ByteArray) (hs:s.size + w.size≤1000000000):AFn Tryz.prog 22 [.str s,.str w] (.str (addS s w)):=by
 refine fn_r57a rfl ?_
 unfold addS
 cases q:s.toList == (⟨#[]⟩:ByteArray).toList
 ·rw [if_neg (by simp)]
  simp (maxSteps:=9^7) only [go_sem,Nd.a,Hld.a,q,List.size_toArray,List.length_cons,List.length_nil]
  omega
 ·rw [if_pos rfl]
  simp (maxSteps:=9^7) only [go_sem,Nd.a,Hld.a,q]
def ltcW (s:ByteArray) (h:Hld):ByteArray:=s ++ decS h.thread ++ ⟨#[46]⟩ ++ decS h.slot
theorem z2d (n:Int) (h:inI n):(decS n).size≤30:=by
 have:=Lib.itoa_length_le n h.1 h.2
 rw [decS_size]
 omega
theorem ltc_ok (s:ByteArray) (h:Hld) (ho:h.ok) (hs:s.size≤100):AFn Tryz.prog 40 [.str s,h.a] (.str (ltcW s h)):=by
 refine fn_ltc rfl ?_
 have c1:=zr2 h.thread ho.thread
 have c2:=zr2 h.slot ho.slot
 have z1:=z2d h.thread ho.thread
 have z2:=z2d h.slot ho.slot
 unfold ltcW
 simp only [Hld.a]
 (repeat (first | simp (maxSteps:=9^7) only [go_sem,Nd.a,Hld.a,List.size_toArray,List.length_cons,List.length_nil,ByteArray.size_append] | refine z01 (c1) ?_ | refine z00 (c1) ?_ | refine z01 (c2) ?_ | refine z00 (c2) ?_ | refine And.intro (by omega) ?_ | refine And.intro (fun d hd=>by (repeat (rcases hd with rfl | hd; · exact ⟨rfl,rfl⟩)); cases hd) ?_))
 omega
def hixJ (l:List Hld) (h:Hld) (r:Int) (k:Nat) (σ:St):Prop :=
 ∃ j:Nat,j≤l.length∧k = l.length - j∧σ.T 0 = .sl (l.map Hld.a)∧σ.T 3 = .ptr 3 0 0∧σ.H 3 = some ⟨3,53,[.agg [.int .i64 h.thread,.int .i64 h.slot,.bool h.wr]],0⟩∧σ.T 7 = .int .i64 l.length∧σ.T 8 = .int .i64 j∧idxG (hldE h) (l.drop j) j = r
set_option maxHeartbeats 4000000 in
theorem hix_ok (l:List Hld) (h:Hld) (hl:l.length≤1000000):AFn Tryz.prog 62 [.sl (l.map Hld.a),h.a] (.int .i64 (idxG (hldE h) l 0)):=by
 refine fn_hix rfl ?_
 simp only [Hld.a]
 simp (maxSteps:=9^7) only [go_sem,Nd.a,Hld.a,List.length_map]
 refine z0c (hixJ l h (idxG (hldE h) l 0)) (k:=l.length) ⟨0,by omega,rfl,?_,?_,?_,?_,?_,rfl⟩ ?_ <;> try ((simp (maxSteps:=9^7) only [go_sem,Nd.a,Hld.a,List.length_map]) <;> rfl)
 rintro k σ ⟨j,hj,rfl,t0,t3,h3,t7,t8,hr⟩
 simp only [zpv]
 by_cases hlt:j < l.length
 case neg =>
  have hlt':¬ (j:Int) < (l.length:Int):=by omega
  have hr':idxG (hldE h) l 0 = -1:=by rw [← hr,List.drop_eq_nil_of_le (by omega)]; rfl
  simp (maxSteps:=9^7) only [go_sem,Nd.a,Hld.a,t0,t3,h3,t7,t8,hlt',hr',List.length_map]
 have hlt':(j:Int) < (l.length:Int):=by omega
 obtain ⟨x,hx⟩:=z0o hlt
 have hg:=z0v (f:=Hld.a) hx
 simp only [Hld.a] at hg
 have hw:=z2s (j:=j) (by omega)
 rw [z0u hx,idxG] at hr
 unfold hldE at hr
 cases q1:h.thread == x.thread
 case false =>
  rw [q1,Bool.false_and,if_neg (by simp)] at hr
  simp (maxSteps:=9^7) only [go_sem,Nd.a,Hld.a,t0,t3,h3,t7,t8,hlt',hg,hlt,q1,hw,List.length_map,Int.toNat_natCast]
  (repeat refine And.intro (by omega) ?_)
  refine ⟨l.length - (j + 1),by omega,j + 1,by omega,rfl,?_,?_,?_,?_,?_,hr⟩ <;> (simp (maxSteps:=9^7) only [go_sem,Nd.a,Hld.a,t0,t3,h3,t7,t8,hw])
 cases q2:h.slot == x.slot
 case false =>
  rw [q1,q2,Bool.false_and,Bool.and_false,if_neg (by simp)] at hr
  simp (maxSteps:=9^7) only [go_sem,Nd.a,Hld.a,t0,t3,h3,t7,t8,hlt',hg,hlt,q1,q2,hw,List.length_map,Int.toNat_natCast]
  (repeat refine And.intro (by omega) ?_)
  refine ⟨l.length - (j + 1),by omega,j + 1,by omega,rfl,?_,?_,?_,?_,?_,hr⟩ <;> (simp (maxSteps:=9^7) only [go_sem,Nd.a,Hld.a,t0,t3,h3,t7,t8,hw])
 cases q3:h.wr == x.wr
 case false =>
  rw [q1,q2,q3,Bool.and_false,Bool.and_false,if_neg (by simp)] at hr
  simp (maxSteps:=9^7) only [go_sem,Nd.a,Hld.a,t0,t3,h3,t7,t8,hlt',hg,hlt,q1,q2,q3,hw,List.length_map,Int.toNat_natCast]
  (repeat refine And.intro (by omega) ?_)
  refine ⟨l.length - (j + 1),by omega,j + 1,by omega,rfl,?_,?_,?_,?_,?_,hr⟩ <;> (simp (maxSteps:=9^7) only [go_sem,Nd.a,Hld.a,t0,t3,h3,t7,t8,hw])
 rw [q1,q2,q3,Bool.and_self,Bool.and_self,if_pos rfl] at hr
 simp (maxSteps:=9^7) only [go_sem,Nd.a,Hld.a,t0,t3,h3,t7,t8,hlt',hg,hlt,q1,q2,q3,← hr,List.length_map,Int.toNat_natCast]
 exact ⟨by omega,hr.symm⟩
theorem hct_ok (l:List Hld) (h:Hld) (hl:l.length≤1000000):AFn Tryz.prog 39 [.sl (l.map Hld.a),h.a] (.bool (l.any (hldE h))):=by
 refine fn_hct rfl ?_
 have c:=hix_ok l h hl
 rw [← zeb (hldE h) l 0]
 simp only [Hld.a] at c ⊢
 (repeat (first | simp (maxSteps:=9^7) only [go_sem,Nd.a,Hld.a] | refine z01 (c) ?_ | refine z00 (c) ?_ | refine And.intro (by omega) ?_ | refine And.intro (fun d hd=>by (repeat (rcases hd with rfl | hd; · exact ⟨rfl,rfl⟩)); cases hd) ?_))
def r57hI (l:List Hld) (h:Hld) (R:Bool) (k:Nat) (σ:St):Prop :=
 ∃ j:Nat,j≤l.length∧k = l.length - j∧σ.T 0 = .sl (l.map Hld.a)∧σ.T 3 = .ptr 3 0 0∧σ.H 3 = some ⟨3,53,[.agg [.int .i64 h.thread,.int .i64 h.slot,.bool h.wr]],0⟩∧σ.T 5 = .int .i64 j∧(l.drop j).any (fun x=>hldE x h) = R
set_option maxHeartbeats 4000000 in
theorem r57h_ok (l:List Hld) (h:Hld) (hl:l.length≤1000000):AFn Tryz.prog 21 [.sl (l.map Hld.a),h.a] (.bool (l.any (fun x=>hldE x h))):=by
 refine fn_r57h rfl ?_
 simp only [Hld.a]
 simp (maxSteps:=9^7) only [go_sem,Nd.a,Hld.a,List.length_map]
 refine z0c (r57hI l h (l.any (fun x=>hldE x h))) (k:=l.length) ⟨0,by omega,rfl,?_,?_,?_,?_,rfl⟩ ?_ <;> try ((simp (maxSteps:=9^7) only [go_sem,Nd.a,Hld.a,List.length_map]) <;> rfl)
 rintro k σ ⟨j,hj,rfl,t0,t3,h3,t5,hr⟩
 simp only [zh3]
 by_cases hlt:j < l.length
 case neg =>
  have hlt':¬ (j:Int) < (l.length:Int):=by omega
  have hr':(l.any fun x=>hldE x h) = false:=by rw [← hr,List.drop_eq_nil_of_le (by omega)]; rfl
  simp (maxSteps:=9^7) only [go_sem,Nd.a,Hld.a,t0,t3,h3,t5,hlt',hr',List.length_map]
 have hlt':(j:Int) < (l.length:Int):=by omega
 obtain ⟨x,hx⟩:=z0o hlt
 have hg:=z0v (f:=Hld.a) hx
 simp only [Hld.a] at hg
 have hw:=z2s (j:=j) (by omega)
 rw [z0u hx,List.any_cons] at hr
 have hE:hldE x h = ((x.thread == h.thread) && ((x.slot == h.slot) && (x.wr == h.wr))):=rfl
 cases q1:x.thread == h.thread
 case false =>
  rw [hE,q1,Bool.false_and,Bool.false_or] at hr
  simp (maxSteps:=9^7) only [go_sem,Nd.a,Hld.a,t0,t3,h3,t5,hlt',hg,hlt,q1,hw,List.length_map,Int.toNat_natCast]
  (repeat refine And.intro (by omega) ?_)
  refine ⟨l.length - (j + 1),by omega,j + 1,by omega,rfl,?_,?_,?_,?_,hr⟩ <;> (simp (maxSteps:=9^7) only [go_sem,Nd.a,Hld.a,t0,t3,h3,t5,hw])
 cases q2:x.slot == h.slot
 case false =>
  rw [hE,q1,q2,Bool.false_and,Bool.and_false,Bool.false_or] at hr
  simp (maxSteps:=9^7) only [go_sem,Nd.a,Hld.a,t0,t3,h3,t5,hlt',hg,hlt,q1,q2,hw,List.length_map,Int.toNat_natCast]
  (repeat refine And.intro (by omega) ?_)
  refine ⟨l.length - (j + 1),by omega,j + 1,by omega,rfl,?_,?_,?_,?_,hr⟩ <;> (simp (maxSteps:=9^7) only [go_sem,Nd.a,Hld.a,t0,t3,h3,t5,hw])
 cases q3:x.wr == h.wr
 case false =>
  rw [hE,q1,q2,q3,Bool.and_false,Bool.and_false,Bool.false_or] at hr
  simp (maxSteps:=9^7) only [go_sem,Nd.a,Hld.a,t0,t3,h3,t5,hlt',hg,hlt,q1,q2,q3,hw,List.length_map,Int.toNat_natCast]
  (repeat refine And.intro (by omega) ?_)
  refine ⟨l.length - (j + 1),by omega,j + 1,by omega,rfl,?_,?_,?_,?_,hr⟩ <;> (simp (maxSteps:=9^7) only [go_sem,Nd.a,Hld.a,t0,t3,h3,t5,hw])
 rw [hE,q1,q2,q3,Bool.and_self,Bool.and_self,Bool.true_or] at hr
 simp (maxSteps:=9^7) only [go_sem,Nd.a,Hld.a,t0,t3,h3,t5,hlt',hg,hlt,q1,q2,q3,← hr,List.length_map,Int.toNat_natCast]
 all_goals omega
end
section
open Go.RowKit
attribute [local go_sem ↓] z1y z0n
def r_shl_0:Reg:=⟨[],[⟨.mknil 1 9,some 4,none,[],[]⟩],[4],[],false⟩
def r_shl_1:Reg:=⟨[],[⟨.mknil 1 9,some 5,none,[],[]⟩],[5],[],false⟩
def zjg:List ROp:=[⟨.mv (.t 1),some 10,none,[],[]⟩,⟨.len false (.t 10),some 11,none,[],[]⟩,⟨.mv (.c (.int .i64 0)),some 12,none,[],[]⟩]
def r_shl_2:Reg:=⟨[],zjg,[],[],false⟩
def r_shl_3:Reg:=⟨[],[⟨.bin .lss (.t 12) (.t 11),some 13,none,[],[]⟩],[],[],false⟩
def zjf:List ROp:=[⟨.iaddr 3 (.t 10) (.t 12),some 14,none,[7],[]⟩,⟨.load 3 true (.t 14),some 15,none,[7],[]⟩,⟨.alloc 3 53 (.agg [(.int .i64 0),(.int .i64 0),(.bool false)]),some 7,none,[],[]⟩,⟨.store 3 (.t 7) (.t 15),none,none,[],[]⟩]
def r_shl_4:Reg:=⟨[],zjf,[7],[],false⟩
def zje:List ROp:=[⟨.mv (.t 0),some 16,none,[18],[]⟩,⟨.load 3 true (.t 7),some 17,none,[18],[]⟩,⟨.callv (.c (.clo 39 [] [])) [(.t 16),(.t 17)],some 18,none,[],[]⟩]
def r_shl_5:Reg:=⟨[],zje,[18],[],false⟩
def r_shl_6:Reg:=⟨[],[⟨.faddr 2 (.t 7),some 19,none,[],[]⟩,⟨.load 1 false (.t 19),some 20,none,[],[]⟩],[],[],false⟩
def zjd:List ROp:=[⟨.mv (.t 5),some 21,none,[23,25],[]⟩,⟨.load 3 true (.t 7),some 22,none,[23,25],[]⟩,⟨.callv (.c (.clo 40 [] [])) [(.c (.str ⟨#[43]⟩)),(.t 22)],some 23,none,[25],[]⟩,⟨.bin .add (.t 23) (.c (.str ⟨#[119]⟩)),some 24,none,[25],[]⟩,⟨.bsl 1 9 [(.t 24)],some 25,none,[],[]⟩,⟨.append 1 9 16 (.t 21) (.t 25),some 26,none,[],[]⟩,⟨.mv (.t 26),some 5,none,[],[]⟩]
def r_shl_7:Reg:=⟨[],zjd,[23,25],[],false⟩
def zjc:List ROp:=[⟨.mv (.t 5),some 27,none,[29,31],[]⟩,⟨.load 3 true (.t 7),some 28,none,[29,31],[]⟩,⟨.callv (.c (.clo 40 [] [])) [(.c (.str ⟨#[43]⟩)),(.t 28)],some 29,none,[31],[]⟩,⟨.bin .add (.t 29) (.c (.str ⟨#[114]⟩)),some 30,none,[31],[]⟩,⟨.bsl 1 9 [(.t 30)],some 31,none,[],[]⟩,⟨.append 1 9 16 (.t 27) (.t 31),some 32,none,[],[]⟩,⟨.mv (.t 32),some 5,none,[],[]⟩]
def r_shl_8:Reg:=⟨[],zjc,[29,31],[],false⟩
def r_shl_9:Reg:=⟨[],[⟨.bin .add (.t 12) (.c (.int .i64 1)),some 33,none,[],[]⟩,⟨.mv (.t 33),some 12,none,[],[]⟩],[],[],false⟩
def zgq:IR:=(.seq (.reg r_shl_3)
 (.seq (.cond (.t 13) .skip
 (.exit 0))
 (.seq (.block 1 (.seq (.reg r_shl_4)
 (.seq (.seq (.reg r_shl_5)
 (.cond (.t 18) (.exit 1)
 .skip))
 (.seq (.reg r_shl_6)
 (.cond (.t 20) (.reg r_shl_7)
 (.reg r_shl_8))))))
 (.reg r_shl_9))))
def zd4:List ROp:=[⟨.mv (.t 0),some 34,none,[],[]⟩,⟨.len false (.t 34),some 35,none,[],[]⟩,⟨.mv (.c (.int .i64 0)),some 36,none,[],[]⟩]
def zn7:Reg:=⟨[],zd4,[],[],false⟩
def zn6:Reg:=⟨[],[⟨.bin .lss (.t 36) (.t 35),some 37,none,[],[]⟩],[],[],false⟩
def zd3:List ROp:=[⟨.iaddr 3 (.t 34) (.t 36),some 38,none,[9],[]⟩,⟨.load 3 true (.t 38),some 39,none,[9],[]⟩,⟨.alloc 3 53 (.agg [(.int .i64 0),(.int .i64 0),(.bool false)]),some 9,none,[],[]⟩,⟨.store 3 (.t 9) (.t 39),none,none,[],[]⟩]
def zn5:Reg:=⟨[],zd3,[9],[],false⟩
def zd2:List ROp:=[⟨.mv (.t 1),some 40,none,[42],[]⟩,⟨.load 3 true (.t 9),some 41,none,[42],[]⟩,⟨.callv (.c (.clo 39 [] [])) [(.t 40),(.t 41)],some 42,none,[],[]⟩,⟨.un .not (.t 42),some 43,none,[],[]⟩]
def zn4:Reg:=⟨[],zd2,[42],[],false⟩
def zd1:List ROp:=[⟨.mv (.t 5),some 44,none,[46,47],[]⟩,⟨.load 3 true (.t 9),some 45,none,[46,47],[]⟩,⟨.callv (.c (.clo 40 [] [])) [(.c (.str ⟨#[45]⟩)),(.t 45)],some 46,none,[47],[]⟩,⟨.bsl 1 9 [(.t 46)],some 47,none,[],[]⟩,⟨.append 1 9 16 (.t 44) (.t 47),some 48,none,[],[]⟩,⟨.mv (.t 48),some 5,none,[],[]⟩]
def zn3:Reg:=⟨[],zd1,[46,47],[],false⟩
def zn2:Reg:=⟨[],[⟨.bin .add (.t 36) (.c (.int .i64 1)),some 49,none,[],[]⟩,⟨.mv (.t 49),some 36,none,[],[]⟩],[],[],false⟩
def zgp:IR:=(.seq (.reg zn6)
 (.seq (.cond (.t 37) .skip
 (.exit 2))
 (.seq (.block 3 (.seq (.reg zn5)
 (.seq (.reg zn4)
 (.cond (.t 43) (.reg zn3)
 .skip))))
 (.reg zn2))))
def zn1:Reg:=⟨[],[⟨.mv (.t 5),some 50,none,[],[]⟩,⟨.mv (.t 50),some 4,none,[],[]⟩],[],[],false⟩
def ir_shl:IR:=(.seq (.reg r_shl_0)
 (.seq (.reg r_shl_1)
 (.seq (.seq (.reg r_shl_2)
 (.block 0 (.loop zgq)))
 (.seq (.seq (.reg zn7)
 (.block 2 (.loop zgp)))
 (.seq (.reg zn1)
 .ret)))))
def res_shl:List RDesc:=[(.tmp 4)]
theorem e_shl_0:EqR r_shl_0 [⟨.mknil 1 9,some 4,none,[],[]⟩] [4]:=fun _ _ _=>rfl
theorem e_shl_1:EqR r_shl_1 [⟨.mknil 1 9,some 5,none,[],[]⟩] [5]:=fun _ _ _=>rfl
theorem e_shl_2:EqR r_shl_2 zjg []:=fun _ _ _=>rfl
theorem e_shl_3:EqR r_shl_3 [⟨.bin .lss (.t 12) (.t 11),some 13,none,[],[]⟩] []:=fun _ _ _=>rfl
theorem e_shl_4:EqR r_shl_4 zjf [7]:=fun _ _ _=>rfl
theorem e_shl_5:EqR r_shl_5 zje [18]:=fun _ _ _=>rfl
theorem e_shl_6:EqR r_shl_6 [⟨.faddr 2 (.t 7),some 19,none,[],[]⟩,⟨.load 1 false (.t 19),some 20,none,[],[]⟩] []:=fun _ _ _=>rfl
theorem e_shl_7:EqR r_shl_7 zjd [23,25]:=fun _ _ _=>rfl
theorem e_shl_8:EqR r_shl_8 zjc [29,31]:=fun _ _ _=>rfl
theorem e_shl_9:EqR r_shl_9 [⟨.bin .add (.t 12) (.c (.int .i64 1)),some 33,none,[],[]⟩,⟨.mv (.t 33),some 12,none,[],[]⟩] []:=fun _ _ _=>rfl
theorem e_shl_11:EqR zn7 zd4 []:=fun _ _ _=>rfl
theorem e_shl_12:EqR zn6 [⟨.bin .lss (.t 36) (.t 35),some 37,none,[],[]⟩] []:=fun _ _ _=>rfl
theorem e_shl_13:EqR zn5 zd3 [9]:=fun _ _ _=>rfl
theorem e_shl_14:EqR zn4 zd2 [42]:=fun _ _ _=>rfl
theorem e_shl_15:EqR zn3 zd1 [46,47]:=fun _ _ _=>rfl
theorem e_shl_16:EqR zn2 [⟨.bin .add (.t 36) (.c (.int .i64 1)),some 49,none,[],[]⟩,⟨.mv (.t 49),some 36,none,[],[]⟩] []:=fun _ _ _=>rfl
theorem e_shl_18:EqR zn1 [⟨.mv (.t 5),some 50,none,[],[]⟩,⟨.mv (.t 50),some 4,none,[],[]⟩] []:=fun _ _ _=>rfl
theorem fn_shl {args:List AV} {r:AV} (ha:args.length.ble Tryz.f17.ntmps = true) (h:run (AFn Tryz.prog) ir_shl (endQ res_shl r) (z0h args)):AFn Tryz.prog 17 args r :=
 AFn.of_code (pv:=false) (hint:=fun _=>[]) (c:=Tryz.f17.body.getD .skip) (by kernel_rfl) (by kernel_rfl) Tryz.func17 (by kernel_rfl) (by kernel_rfl) (by kernel_rfl) (of_decide_eq_true (by kernel_rfl)) (Nat.le_of_ble_eq_true ha) (Nat.le_of_ble_eq_true (by kernel_rfl)) (z0g h)
def r_snd_0:Reg:=⟨[],[⟨.mknil 1 9,some 4,none,[],[]⟩],[4],[],false⟩
def r_snd_1:Reg:=⟨[],[⟨.mknil 1 9,some 5,none,[],[]⟩],[5],[],false⟩
def zjb:List ROp:=[⟨.mv (.t 1),some 8,none,[],[]⟩,⟨.len false (.t 8),some 9,none,[],[]⟩,⟨.mv (.c (.int .i64 0)),some 10,none,[],[]⟩]
def r_snd_2:Reg:=⟨[],zjb,[],[],false⟩
def r_snd_3:Reg:=⟨[],[⟨.bin .lss (.t 10) (.t 9),some 11,none,[],[]⟩],[],[],false⟩
def zja:List ROp:=[⟨.iaddr 10 (.t 8) (.t 10),some 12,none,[7],[]⟩,⟨.load 10 true (.t 12),some 13,none,[7],[]⟩,⟨.alloc 10 60 (.agg [(.int .i64 0),(.int .i64 0),(.sl []),(.sl []),(.str ⟨#[]⟩),(.bool false),(.int .i64 0),(.int .i64 0),(.sl []),(.sl [])]),some 7,none,[],[]⟩,⟨.store 10 (.t 7) (.t 13),none,none,[],[]⟩]
def r_snd_4:Reg:=⟨[],zja,[7],[],false⟩
def zj9:List ROp:=[⟨.mv (.t 0),some 14,none,[16],[]⟩,⟨.mkfn 42 [] [(.t 7)],some 15,none,[16],[]⟩,⟨.callv (.c (.clo 41 [] [])) [(.t 14),(.t 15)],some 16,none,[],[]⟩,⟨.un .not (.t 16),some 17,none,[],[]⟩]
def r_snd_5:Reg:=⟨[],zj9,[16],[],false⟩
def zj8:List ROp:=[⟨.mv (.t 5),some 18,none,[21,23],[]⟩,⟨.faddr 0 (.t 7),some 19,none,[21,23],[]⟩,⟨.load 1 false (.t 19),some 20,none,[21,23],[]⟩,⟨.callv (.c (.clo 32 [] [])) [(.t 20)],some 21,none,[23],[]⟩,⟨.bin .add (.c (.str ⟨#[126]⟩)) (.t 21),some 22,none,[23],[]⟩,⟨.bsl 1 9 [(.t 22)],some 23,none,[],[]⟩,⟨.append 1 9 16 (.t 18) (.t 23),some 24,none,[],[]⟩,⟨.mv (.t 24),some 5,none,[],[]⟩]
def r_snd_6:Reg:=⟨[],zj8,[21,23],[],false⟩
def r_snd_7:Reg:=⟨[],[⟨.bin .add (.t 10) (.c (.int .i64 1)),some 25,none,[],[]⟩,⟨.mv (.t 25),some 10,none,[],[]⟩],[],[],false⟩
def zn0:IR:=(.seq (.reg r_snd_3)
 (.seq (.cond (.t 11) .skip
 (.exit 0))
 (.seq (.block 1 (.seq (.reg r_snd_4)
 (.seq (.reg r_snd_5)
 (.cond (.t 17) (.reg r_snd_6)
 .skip))))
 (.reg r_snd_7))))
def r_snd_9:Reg:=⟨[],[⟨.mv (.t 5),some 26,none,[],[]⟩,⟨.mv (.t 26),some 4,none,[],[]⟩],[],[],false⟩
def ir_snd:IR:=(.seq (.reg r_snd_0)
 (.seq (.reg r_snd_1)
 (.seq (.seq (.reg r_snd_2)
 (.block 0 (.loop zn0)))
 (.seq (.reg r_snd_9)
 .ret))))
def res_snd:List RDesc:=[(.tmp 4)]
theorem e_snd_0:EqR r_snd_0 [⟨.mknil 1 9,some 4,none,[],[]⟩] [4]:=fun _ _ _=>rfl
theorem e_snd_1:EqR r_snd_1 [⟨.mknil 1 9,some 5,none,[],[]⟩] [5]:=fun _ _ _=>rfl
theorem e_snd_2:EqR r_snd_2 zjb []:=fun _ _ _=>rfl
theorem e_snd_3:EqR r_snd_3 [⟨.bin .lss (.t 10) (.t 9),some 11,none,[],[]⟩] []:=fun _ _ _=>rfl
theorem e_snd_4:EqR r_snd_4 zja [7]:=fun _ _ _=>rfl
theorem e_snd_5:EqR r_snd_5 zj9 [16]:=fun _ _ _=>rfl
theorem e_snd_6:EqR r_snd_6 zj8 [21,23]:=fun _ _ _=>rfl
theorem e_snd_7:EqR r_snd_7 [⟨.bin .add (.t 10) (.c (.int .i64 1)),some 25,none,[],[]⟩,⟨.mv (.t 25),some 10,none,[],[]⟩] []:=fun _ _ _=>rfl
theorem e_snd_9:EqR r_snd_9 [⟨.mv (.t 5),some 26,none,[],[]⟩,⟨.mv (.t 26),some 4,none,[],[]⟩] []:=fun _ _ _=>rfl
theorem fn_snd {args:List AV} {r:AV} (ha:args.length.ble Tryz.f18.ntmps = true) (h:run (AFn Tryz.prog) ir_snd (endQ res_snd r) (z0h args)):AFn Tryz.prog 18 args r :=
 AFn.of_code (pv:=false) (hint:=fun _=>[]) (c:=Tryz.f18.body.getD .skip) (by kernel_rfl) (by kernel_rfl) Tryz.func18 (by kernel_rfl) (by kernel_rfl) (by kernel_rfl) (of_decide_eq_true (by kernel_rfl)) (Nat.le_of_ble_eq_true ha) (Nat.le_of_ble_eq_true (by kernel_rfl)) (z0g h)
attribute [local go_sem ↓] ir_shl
attribute [local go_sem] res_shl e_shl_0 e_shl_1 e_shl_2 zjg e_shl_3 e_shl_4 zjf e_shl_5 zje e_shl_6 e_shl_7 zjd e_shl_8 zjc e_shl_9 e_shl_11 zd4 e_shl_12 e_shl_13 zd3 e_shl_14 zd2 e_shl_15 zd1 e_shl_16 e_shl_18
attribute [local go_sem ↓] ir_snd
attribute [local go_sem] res_snd e_snd_0 e_snd_1 e_snd_2 zjb e_snd_3 e_snd_4 zja e_snd_5 zj9 e_snd_6 zj8 e_snd_7 e_snd_9
def z2b (h:Hld):ByteArray:=ltcW ⟨#[43]⟩ h ++ if h.wr then ⟨#[119]⟩ else ⟨#[114]⟩
def z1z (h:Hld):ByteArray:=ltcW ⟨#[45]⟩ h
def newH (a l:List Hld):List Hld:=l.filter fun h=>!a.any (hldE h)
def z3x (a b:List Hld):List ByteArray:=(newH a b).map z2b ++ (newH b a).map z1z
theorem z6m {a b:List Hld} {j:Nat} {h:Hld} (hx:b[j]? = some h):newH a (b.take (j + 1)) = newH a (b.take j) ++ if a.any (hldE h) then [] else [h]:=by
 unfold newH
 rw [zd0 hx,List.filter_append]
 congr 1
 rw [List.filter_cons,List.filter_nil]
 show (if (!a.any (hldE h)) = true then [h] else []) = _
 cases a.any (hldE h) <;> rfl
theorem z2w (a l:List Hld):(newH a l).length≤l.length:=List.length_filter_le ..
theorem zlc (s:ByteArray) (h:Hld) (ho:h.ok):(ltcW s h).size≤s.size + 61:=by
 have z1:=z2d h.thread ho.thread
 have z2:=z2d h.slot ho.slot
 unfold ltcW
 simp only [ByteArray.size_append]
 have:(⟨#[46]⟩:ByteArray).size = 1:=rfl
 omega
theorem atHs {l:List Hld} {j:Nat} {h:Hld} (hj:l[j]? = some h):(l.map Hld.a).getD j .und = .agg [.int .i64 h.thread,.int .i64 h.slot,.bool h.wr]:=by
 rw [List.getD_eq_getElem?_getD,List.getElem?_map,hj]; rfl
def shlI (a b:List Hld) (k:Nat) (σ:St):Prop :=
 ∃ (j:Nat) (out:List ByteArray),j≤b.length∧k = b.length - j∧out = (newH a (b.take j)).map z2b∧σ.T 0 = .sl (a.map Hld.a)∧σ.T 1 = .sl (b.map Hld.a)∧σ.T 5 = .rs 5 0 out.length∧σ.H 5 = some ⟨1,9,out.map .str,0⟩∧σ.T 10 = .sl (b.map Hld.a)∧σ.T 11 = .int .i64 b.length∧σ.T 12 = .int .i64 j
def shlJ (a b:List Hld) (k:Nat) (σ:St):Prop :=
 ∃ (j:Nat) (out:List ByteArray),j≤a.length∧k = a.length - j∧out = (newH a b).map z2b ++ (newH b (a.take j)).map z1z∧σ.T 1 = .sl (b.map Hld.a)∧σ.T 5 = .rs 5 0 out.length∧σ.H 5 = some ⟨1,9,out.map .str,0⟩∧σ.T 34 = .sl (a.map Hld.a)∧σ.T 35 = .int .i64 a.length∧σ.T 36 = .int .i64 j
set_option maxHeartbeats 8000000 in
theorem shl_ok (a b:List Hld) (ha:∀ x,x ∈ a->x.ok) (hb:∀ x,x ∈ b->x.ok) (la:a.length≤100000) (lb:b.length≤100000):AFn Tryz.prog 17 [.sl (a.map Hld.a),.sl (b.map Hld.a)] (.own 1 9 ((z3x a b).map .str)):=by
 refine fn_shl rfl ?_
 simp (maxSteps:=9^7) only [go_sem,Nd.a,Hld.a,List.length_map]
 refine z0c (shlI a b) (k:=b.length) ⟨0,[],Nat.zero_le _,rfl,rfl,?_,?_,?_,?_,?_,?_,?_⟩ ?_ <;> try ((simp (maxSteps:=9^7) only [go_sem,Nd.a,Hld.a,List.length_map]) <;> rfl)
 rintro k σ ⟨j,out,hj,rfl,hout,t0,t1,t5,h5,t10,t11,t12⟩
 simp only [zgq]
 by_cases hlt:j < b.length
 case neg =>
  have hlt':¬ (j:Int) < (b.length:Int):=by omega
  rw [List.take_of_length_le (by omega)] at hout
  simp (maxSteps:=9^7) only [go_sem,Nd.a,Hld.a,t0,t1,t5,h5,t10,t11,t12,hlt',List.length_map]
  subst hout
  refine z0c (shlJ a b) (k:=a.length) ⟨0,(newH a b).map z2b,Nat.zero_le _,rfl,(by rw [List.take_zero]; exact (List.append_nil _).symm),?_,?_,?_,?_,?_,?_⟩ ?_ <;> try ((simp (maxSteps:=9^7) only [go_sem,Nd.a,Hld.a,t0,t1,t5,h5,List.length_map]) <;> rfl)
  clear t0 t1 t5 h5 t10 t11 t12 hlt hlt' hj
  clear σ
  rintro k σ ⟨j,out,hj,rfl,hout,t1,t5,h5,t34,t35,t36⟩
  simp only [zgp]
  by_cases hlt:j < a.length
  case neg =>
   have hlt':¬ (j:Int) < (a.length:Int):=by omega
   rw [List.take_of_length_le (by omega)] at hout
   subst hout
   have tk:((z3x a b).map AV.str).take ((newH a b).map z2b ++ (newH b a).map z1z).length = (z3x a b).map AV.str:=List.take_of_length_le (by simp [z3x])
   have hw:(newH a b).map z2b ++ (newH b a).map z1z = z3x a b:=rfl
   rw [hw] at t5 h5 tk
   simp (maxSteps:=9^7) only [go_sem,Nd.a,Hld.a,t1,t5,h5,t34,t35,t36,hlt',tk,List.length_map]
  have hlt':(j:Int) < (a.length:Int):=by omega
  obtain ⟨h,hh⟩:=z0o hlt
  have hg:=atHs hh
  have hw:=z2s (j:=j) (by omega)
  have ho:=ha h (List.mem_of_getElem? hh)
  have cc:=hct_ok b h (by omega)
  have cl:=ltc_ok ⟨#[45]⟩ h ho (by decide)
  simp only [Hld.a] at cc cl
  have hs:=z6m (a:=b) hh
  have hol:out.length≤300000:=by
   have e1:=z2w a b
   have e2:=z2w b (a.take j)
   rw [List.length_take] at e2
   rw [hout,List.length_append,List.length_map,List.length_map]
   omega
  have tk:(out.map AV.str).take out.length = out.map AV.str:=List.take_of_length_le (by simp)
  cases e:b.any (hldE h) with
  | true =>
   rw [e] at cc hs
   rw [if_pos rfl,List.append_nil] at hs
   (repeat (first | simp (maxSteps:=9^7) only [go_sem,Nd.a,Hld.a,t1,t5,h5,t34,t35,t36,hlt',hlt,hg,tk,List.length_map,Int.toNat_natCast] | refine z01 (cc) ?_ | refine z00 (cc) ?_ | refine z01 (cl) ?_ | refine z00 (cl) ?_ | refine And.intro (by omega) ?_ | refine And.intro (fun d hd=>by (repeat (rcases hd with rfl | hd; · exact ⟨rfl,rfl⟩)); cases hd) ?_))
   refine ⟨a.length - (j + 1),by omega,j + 1,out,by omega,rfl,by rw [hs]; exact hout,?_,?_,?_,?_,?_,?_⟩ <;> (simp (maxSteps:=9^7) only [go_sem,Nd.a,Hld.a,t1,t5,h5,t34,t35,t36,hw])
  | false =>
   rw [e] at cc hs
   rw [if_neg (by simp)] at hs
   have em:(out ++ [z1z h]).map AV.str = out.map AV.str ++ [AV.str (z1z h)]:=by rw [List.map_append]; rfl
   have el:(out ++ [z1z h]).length = out.length + 1:=by simp
   have eo:out ++ [z1z h] = (newH a b).map z2b ++ (newH b (a.take (j + 1))).map z1z:=by rw [hs,List.map_append,← List.append_assoc,← hout]; rfl
   have ew:ltcW ⟨#[45]⟩ h = z1z h:=rfl
   rw [ew] at cl
   (repeat (first | simp (maxSteps:=9^7) only [go_sem,Nd.a,Hld.a,t1,t5,h5,t34,t35,t36,hlt',hlt,hg,tk,List.length_map,Int.toNat_natCast] | refine z01 (cc) ?_ | refine z00 (cc) ?_ | refine z01 (cl) ?_ | refine z00 (cl) ?_ | refine And.intro (by omega) ?_ | refine And.intro (fun d hd=>by (repeat (rcases hd with rfl | hd; · exact ⟨rfl,rfl⟩)); cases hd) ?_))
   refine ⟨⟨⟨by omega,by omega⟩,fun d hd=>by rcases hd with rfl | hd; exact ⟨rfl,rfl⟩; cases hd⟩,a.length - (j + 1),by omega,j + 1,out ++ [z1z h],by omega,rfl,eo,?_,?_,?_,?_,?_,?_⟩ <;> (simp (maxSteps:=9^7) only [go_sem,Nd.a,Hld.a,t1,t5,h5,t34,t35,t36,hw,em,el])
 have hlt':(j:Int) < (b.length:Int):=by omega
 obtain ⟨h,hh⟩:=z0o hlt
 have hg:=atHs hh
 have hw:=z2s (j:=j) (by omega)
 have ho:=hb h (List.mem_of_getElem? hh)
 have cc:=hct_ok a h (by omega)
 have cl:=ltc_ok ⟨#[43]⟩ h ho (by decide)
 have lz:=zlc ⟨#[43]⟩ h ho
 have l1:(⟨#[43]⟩:ByteArray).size = 1:=rfl
 simp only [Hld.a] at cc cl
 have hs:=z6m (a:=a) hh
 have hol:out.length≤100000:=by
  have e2:=z2w a (b.take j)
  rw [List.length_take] at e2
  rw [hout,List.length_map]
  omega
 have tk:(out.map AV.str).take out.length = out.map AV.str:=List.take_of_length_le (by simp)
 cases e:a.any (hldE h) with
 | true =>
  rw [e] at cc hs
  rw [if_pos rfl,List.append_nil] at hs
  (repeat (first | simp (maxSteps:=9^7) only [go_sem,Nd.a,Hld.a,t0,t1,t5,h5,t10,t11,t12,hlt',hlt,hg,tk,List.length_map,Int.toNat_natCast] | refine z01 (cc) ?_ | refine z00 (cc) ?_ | refine z01 (cl) ?_ | refine z00 (cl) ?_ | refine And.intro (by omega) ?_ | refine And.intro (fun d hd=>by (repeat (rcases hd with rfl | hd; · exact ⟨rfl,rfl⟩)); cases hd) ?_))
  refine ⟨b.length - (j + 1),by omega,j + 1,out,by omega,rfl,by rw [hs]; exact hout,?_,?_,?_,?_,?_,?_,?_⟩ <;> (simp (maxSteps:=9^7) only [go_sem,Nd.a,Hld.a,t0,t1,t5,h5,t10,t11,t12,hw])
 | false =>
  rw [e] at cc hs
  rw [if_neg (by simp)] at hs
  have em:(out ++ [z2b h]).map AV.str = out.map AV.str ++ [AV.str (z2b h)]:=by rw [List.map_append]; rfl
  have el:(out ++ [z2b h]).length = out.length + 1:=by simp
  have eo:out ++ [z2b h] = (newH a (b.take (j + 1))).map z2b:=by rw [hs,List.map_append,← hout]; rfl
  cases q:h.wr with
  | true =>
   rw [q] at hg cc cl
   have ep:z2b h = ltcW ⟨#[43]⟩ h ++ ⟨#[119]⟩:=by unfold z2b; rw [q]; rfl
   rw [ep] at em el eo
   (repeat (first | simp (maxSteps:=9^7) only [go_sem,Nd.a,Hld.a,t0,t1,t5,h5,t10,t11,t12,hlt',hlt,hg,tk,q,List.length_map,Int.toNat_natCast,List.size_toArray,List.length_cons,List.length_nil] | refine z01 (cc) ?_ | refine z00 (cc) ?_ | refine z01 (cl) ?_ | refine z00 (cl) ?_ | refine And.intro (by omega) ?_ | refine And.intro (fun d hd=>by (repeat (rcases hd with rfl | hd; · exact ⟨rfl,rfl⟩)); cases hd) ?_))
   refine ⟨⟨⟨by omega,by omega⟩,fun d hd=>by rcases hd with rfl | hd; exact ⟨rfl,rfl⟩; cases hd⟩,b.length - (j + 1),by omega,j + 1,_,by omega,rfl,eo,?_,?_,?_,?_,?_,?_,?_⟩ <;> (simp (maxSteps:=9^7) only [go_sem,Nd.a,Hld.a,t0,t1,t5,h5,t10,t11,t12,hw,em,el])
  | false =>
   rw [q] at hg cc cl
   have ep:z2b h = ltcW ⟨#[43]⟩ h ++ ⟨#[114]⟩:=by unfold z2b; rw [q]; rfl
   rw [ep] at em el eo
   (repeat (first | simp (maxSteps:=9^7) only [go_sem,Nd.a,Hld.a,t0,t1,t5,h5,t10,t11,t12,hlt',hlt,hg,tk,q,List.length_map,Int.toNat_natCast,List.size_toArray,List.length_cons,List.length_nil] | refine z01 (cc) ?_ | refine z00 (cc) ?_ | refine z01 (cl) ?_ | refine z00 (cl) ?_ | refine And.intro (by omega) ?_ | refine And.intro (fun d hd=>by (repeat (rcases hd with rfl | hd; · exact ⟨rfl,rfl⟩)); cases hd) ?_))
   refine ⟨⟨⟨by omega,by omega⟩,fun d hd=>by rcases hd with rfl | hd; exact ⟨rfl,rfl⟩; cases hd⟩,b.length - (j + 1),by omega,j + 1,_,by omega,rfl,eo,?_,?_,?_,?_,?_,?_,?_⟩ <;> (simp (maxSteps:=9^7) only [go_sem,Nd.a,Hld.a,t0,t1,t5,h5,t10,t11,t12,hw,em,el])
def newN (a l:List Nd):List Nd:=l.filter fun n=>!a.any fun x=>ndE x n
def ndW (n:Nd):ByteArray:=⟨#[126]⟩ ++ decS n.slot
def z3m (a b:List Nd):List ByteArray:=(newN a b).map ndW
theorem zhw {a b:List Nd} {j:Nat} {n:Nd} (hx:b[j]? = some n):newN a (b.take (j + 1)) = newN a (b.take j) ++ if (a.any fun x=>ndE x n) then [] else [n]:=by
 unfold newN
 rw [zd0 hx,List.filter_append]
 congr 1
 rw [List.filter_cons,List.filter_nil]
 show (if (!a.any fun x=>ndE x n) = true then [n] else []) = _
 cases (a.any fun x=>ndE x n) <;> rfl
theorem ze3 (a l:List Nd):(newN a l).length≤l.length:=List.length_filter_le ..
def sndI (a b:List Nd) (k:Nat) (σ:St):Prop :=
 ∃ (j:Nat) (out:List ByteArray),j≤b.length∧k = b.length - j∧out = (newN a (b.take j)).map ndW∧σ.T 0 = .sl (a.map Nd.a)∧σ.T 5 = .rs 5 0 out.length∧σ.H 5 = some ⟨1,9,out.map .str,0⟩∧σ.T 8 = .sl (b.map Nd.a)∧σ.T 9 = .int .i64 b.length∧σ.T 10 = .int .i64 j
set_option maxHeartbeats 8000000 in
theorem snd_ok (a b:List Nd) (ha:∀ x,x ∈ a->x.few) (hb:∀ x,x ∈ b->x.few∧inI x.slot) (la:a.length≤100000) (lb:b.length≤100000):AFn Tryz.prog 18 [.sl (a.map Nd.a),.sl (b.map Nd.a)] (.own 1 9 ((z3m a b).map .str)):=by
 refine fn_snd rfl ?_
 simp (maxSteps:=9^7) only [go_sem,Nd.a,Hld.a,List.length_map]
 refine z0c (sndI a b) (k:=b.length) ⟨0,[],Nat.zero_le _,rfl,rfl,?_,?_,?_,?_,?_,?_⟩ ?_ <;> try ((simp (maxSteps:=9^7) only [go_sem,Nd.a,Hld.a,List.length_map]) <;> rfl)
 rintro k σ ⟨j,out,hj,rfl,hout,t0,t5,h5,t8,t9,t10⟩
 simp only [zn0]
 by_cases hlt:j < b.length
 case neg =>
  have hlt':¬ (j:Int) < (b.length:Int):=by omega
  rw [List.take_of_length_le (by omega)] at hout
  subst hout
  have hw:(newN a b).map ndW = z3m a b:=rfl
  rw [hw] at t5 h5
  have tk:((z3m a b).map AV.str).take (z3m a b).length = (z3m a b).map AV.str:=List.take_of_length_le (by simp)
  simp (maxSteps:=9^7) only [go_sem,Nd.a,Hld.a,t0,t5,h5,t8,t9,t10,hlt',tk,List.length_map]
 have hlt':(j:Int) < (b.length:Int):=by omega
 obtain ⟨n,hn⟩:=z0o hlt
 have hg:=z0v (f:=Nd.a) hn
 have hw:=z2s (j:=j) (by omega)
 obtain ⟨hf,hi⟩:=hb n (List.mem_of_getElem? hn)
 have cc:=ncf_ok a 42 [] [.rp [.int .i64 n.slot,.int .i64 n.level,.sl (n.pivots.map .str),.sl (n.kids.map (AV.int .i64)),.str n.high,.bool n.top,.int .i64 n.right,.int .i64 n.seen,.sl (n.msgs.map Msg.a),.sl (n.rows.map Par.a)]] (fun x=>ndE x n) (by omega) fun x hx=>nds1_ok x n (ha x hx) hf
 have cd:=zr2 n.slot hi
 have z1:=z2d n.slot hi
 simp only [Nd.a] at hg
 have hs:=zhw (a:=a) hn
 have hol:out.length≤100000:=by
  have e2:=ze3 a (b.take j)
  rw [List.length_take] at e2
  rw [hout,List.length_map]
  omega
 have tk:(out.map AV.str).take out.length = out.map AV.str:=List.take_of_length_le (by simp)
 cases e:(a.any fun x=>ndE x n) with
 | true =>
  rw [e] at cc hs
  rw [if_pos rfl,List.append_nil] at hs
  (repeat (first | simp (maxSteps:=9^7) only [go_sem,Nd.a,Hld.a,t0,t5,h5,t8,t9,t10,hlt',hlt,hg,tk,List.length_map,Int.toNat_natCast] | refine z01 (cc) ?_ | refine z00 (cc) ?_ | refine z01 (cd) ?_ | refine z00 (cd) ?_ | refine And.intro (by omega) ?_ | refine And.intro (fun d hd=>by (repeat (rcases hd with rfl | hd; · exact ⟨rfl,rfl⟩)); cases hd) ?_))
  refine ⟨b.length - (j + 1),by omega,j + 1,out,by omega,rfl,by rw [hs]; exact hout,?_,?_,?_,?_,?_,?_⟩ <;> (simp (maxSteps:=9^7) only [go_sem,Nd.a,Hld.a,t0,t5,h5,t8,t9,t10,hw])
 | false =>
  rw [e] at cc hs
  rw [if_neg (by simp)] at hs
  have em:(out ++ [ndW n]).map AV.str = out.map AV.str ++ [AV.str (ndW n)]:=by rw [List.map_append]; rfl
  have el:(out ++ [ndW n]).length = out.length + 1:=by simp
  have eo:out ++ [ndW n] = (newN a (b.take (j + 1))).map ndW:=by rw [hs,List.map_append,← hout]; rfl
  have ep:ndW n = ⟨#[126]⟩ ++ decS n.slot:=rfl
  rw [ep] at em el eo
  (repeat (first | simp (maxSteps:=9^7) only [go_sem,Nd.a,Hld.a,t0,t5,h5,t8,t9,t10,hlt',hlt,hg,tk,List.length_map,Int.toNat_natCast,List.size_toArray,List.length_cons,List.length_nil] | refine z01 (cc) ?_ | refine z00 (cc) ?_ | refine z01 (cd) ?_ | refine z00 (cd) ?_ | refine And.intro (by omega) ?_ | refine And.intro (fun d hd=>by (repeat (rcases hd with rfl | hd; · exact ⟨rfl,rfl⟩)); cases hd) ?_))
  refine ⟨⟨⟨by omega,by omega⟩,fun d hd=>by rcases hd with rfl | hd; exact ⟨rfl,rfl⟩; cases hd⟩,b.length - (j + 1),by omega,j + 1,_,by omega,rfl,eo,?_,?_,?_,?_,?_,?_⟩ <;> (simp (maxSteps:=9^7) only [go_sem,Nd.a,Hld.a,t0,t5,h5,t8,t9,t10,hw,em,el])
end
section
open Go.RowKit
attribute [local go_sem ↓] z1y z0n
def r_sev_0:Reg:=⟨[],[⟨.mknil 1 9,some 4,none,[],[]⟩],[4],[],false⟩
def r_sev_1:Reg:=⟨[],[⟨.mknil 1 9,some 5,none,[],[]⟩],[5],[],false⟩
def zjn:List ROp:=[⟨.mv (.t 1),some 9,none,[],[]⟩,⟨.len false (.t 9),some 10,none,[],[]⟩,⟨.mv (.c (.int .i64 0)),some 11,none,[],[]⟩]
def r_sev_2:Reg:=⟨[],zjn,[],[],false⟩
def r_sev_3:Reg:=⟨[],[⟨.bin .lss (.t 11) (.t 10),some 12,none,[],[]⟩],[],[],false⟩
def zjm:List ROp:=[⟨.mv (.t 11),some 13,none,[7],[]⟩,⟨.iaddr 15 (.t 9) (.t 11),some 14,none,[7],[]⟩,⟨.load 15 true (.t 14),some 15,none,[7],[]⟩,⟨.alloc 15 65 (.agg [(.int .i64 0),(.int .i64 0),(.str ⟨#[]⟩),(.str ⟨#[]⟩),(.bool false),(.str ⟨#[]⟩),(.int .i64 0),(.int .i64 0),(.bool false),(.str ⟨#[]⟩),(.sl []),(.int .i64 0),(.int .i64 0),(.int .i64 0),(.bool false)]),some 7,none,[],[]⟩,⟨.mv (.t 13),some 6,none,[],[]⟩,⟨.store 15 (.t 7) (.t 15),none,none,[],[]⟩]
def r_sev_4:Reg:=⟨[],zjm,[7],[],false⟩
def zjl:List ROp:=[⟨.alloc 15 65 (.agg [(.int .i64 0),(.int .i64 0),(.str ⟨#[]⟩),(.str ⟨#[]⟩),(.bool false),(.str ⟨#[]⟩),(.int .i64 0),(.int .i64 0),(.bool false),(.str ⟨#[]⟩),(.sl []),(.int .i64 0),(.int .i64 0),(.int .i64 0),(.bool false)]),some 8,none,[],[]⟩]
def r_sev_5:Reg:=⟨[],zjl,[8],[],false⟩
def zjk:List ROp:=[⟨.mv (.t 6),some 16,none,[],[]⟩,⟨.mv (.t 0),some 17,none,[],[]⟩,⟨.len false (.t 17),some 18,none,[],[]⟩,⟨.bin .lss (.t 16) (.t 18),some 19,none,[],[]⟩]
def r_sev_6:Reg:=⟨[],zjk,[],[],false⟩
def zjj:List ROp:=[⟨.mv (.t 0),some 20,none,[],[]⟩,⟨.mv (.t 6),some 21,none,[],[]⟩,⟨.iaddr 15 (.t 20) (.t 21),some 22,none,[],[]⟩,⟨.load 15 true (.t 22),some 23,none,[],[]⟩,⟨.store 15 (.t 8) (.t 23),none,none,[],[]⟩]
def r_sev_7:Reg:=⟨[],zjj,[],[],false⟩
def zji:List ROp:=[⟨.mv (.t 5),some 24,none,[26,28],[]⟩,⟨.mv (.t 6),some 25,none,[26,28],[]⟩,⟨.callv (.c (.clo 32 [] [])) [(.t 25)],some 26,none,[28],[]⟩,⟨.bin .add (.c (.str ⟨#[98,101,103,97,110,32]⟩)) (.t 26),some 27,none,[28],[]⟩,⟨.bsl 1 9 [(.t 27)],some 28,none,[],[]⟩,⟨.append 1 9 16 (.t 24) (.t 28),some 29,none,[],[]⟩,⟨.mv (.t 29),some 5,none,[],[]⟩]
def r_sev_8:Reg:=⟨[],zji,[26,28],[],false⟩
def zjh:List ROp:=[⟨.faddr 12 (.t 7),some 30,none,[],[]⟩,⟨.load 1 false (.t 30),some 31,none,[],[]⟩,⟨.faddr 12 (.t 8),some 32,none,[],[]⟩,⟨.load 1 false (.t 32),some 33,none,[],[]⟩,⟨.bin .neq (.t 31) (.t 33),some 34,none,[],[]⟩,⟨.mv (.t 34),some 35,none,[],[]⟩,⟨.faddr 12 (.t 7),some 36,(some (35,true)),[],[]⟩,⟨.load 1 false (.t 36),some 37,(some (35,true)),[],[]⟩,⟨.bin .neq (.t 37) (.c (.int .i64 0)),some 38,(some (35,true)),[],[]⟩,⟨.pick (.t 35) (.t 38) (.c (.bool false)),some 39,none,[],[]⟩]
def r_sev_9:Reg:=⟨[],zjh,[],[],false⟩
def zd7:List ROp:=[⟨.mv (.t 5),some 40,none,[42,44],[]⟩,⟨.mv (.t 6),some 41,none,[42,44],[]⟩,⟨.callv (.c (.clo 32 [] [])) [(.t 41)],some 42,none,[44],[]⟩,⟨.bin .add (.c (.str ⟨#[112,111,105,110,116,32]⟩)) (.t 42),some 43,none,[44],[]⟩,⟨.bsl 1 9 [(.t 43)],some 44,none,[],[]⟩,⟨.append 1 9 16 (.t 40) (.t 44),some 45,none,[],[]⟩,⟨.mv (.t 45),some 5,none,[],[]⟩]
def znc:Reg:=⟨[],zd7,[42,44],[],false⟩
def zd6:List ROp:=[⟨.faddr 14 (.t 7),some 46,none,[],[]⟩,⟨.load 1 false (.t 46),some 47,none,[],[]⟩,⟨.mv (.t 47),some 48,none,[],[]⟩,⟨.faddr 14 (.t 8),some 49,(some (48,true)),[],[]⟩,⟨.load 1 false (.t 49),some 50,(some (48,true)),[],[]⟩,⟨.un .not (.t 50),some 51,(some (48,true)),[],[]⟩,⟨.pick (.t 48) (.t 51) (.c (.bool false)),some 52,none,[],[]⟩]
def znb:Reg:=⟨[],zd6,[],[],false⟩
def zd5:List ROp:=[⟨.mv (.t 5),some 53,none,[55,57],[]⟩,⟨.mv (.t 6),some 54,none,[55,57],[]⟩,⟨.callv (.c (.clo 32 [] [])) [(.t 54)],some 55,none,[57],[]⟩,⟨.bin .add (.c (.str ⟨#[101,110,100,101,100,32]⟩)) (.t 55),some 56,none,[57],[]⟩,⟨.bsl 1 9 [(.t 56)],some 57,none,[],[]⟩,⟨.append 1 9 16 (.t 53) (.t 57),some 58,none,[],[]⟩,⟨.mv (.t 58),some 5,none,[],[]⟩]
def zna:Reg:=⟨[],zd5,[55,57],[],false⟩
def zn9:Reg:=⟨[],[⟨.bin .add (.t 11) (.c (.int .i64 1)),some 59,none,[],[]⟩,⟨.mv (.t 59),some 11,none,[],[]⟩],[],[],false⟩
def zgr:IR:=(.seq (.reg r_sev_3)
 (.seq (.cond (.t 12) .skip
 (.exit 0))
 (.seq (.block 1 (.seq (.reg r_sev_4)
 (.seq (.reg r_sev_5)
 (.seq (.seq (.reg r_sev_6)
 (.cond (.t 19) (.reg r_sev_7)
 (.reg r_sev_8)))
 (.seq (.seq (.reg r_sev_9)
 (.cond (.t 39) (.reg znc)
 .skip))
 (.seq (.reg znb)
 (.cond (.t 52) (.reg zna)
 .skip)))))))
 (.reg zn9))))
def zn8:Reg:=⟨[],[⟨.mv (.t 5),some 60,none,[],[]⟩,⟨.mv (.t 60),some 4,none,[],[]⟩],[],[],false⟩
def ir_sev:IR:=(.seq (.reg r_sev_0)
 (.seq (.reg r_sev_1)
 (.seq (.seq (.reg r_sev_2)
 (.block 0 (.loop zgr)))
 (.seq (.reg zn8)
 .ret))))
def res_sev:List RDesc:=[(.tmp 4)]
theorem e_sev_0:EqR r_sev_0 [⟨.mknil 1 9,some 4,none,[],[]⟩] [4]:=fun _ _ _=>rfl
theorem e_sev_1:EqR r_sev_1 [⟨.mknil 1 9,some 5,none,[],[]⟩] [5]:=fun _ _ _=>rfl
theorem e_sev_2:EqR r_sev_2 zjn []:=fun _ _ _=>rfl
theorem e_sev_3:EqR r_sev_3 [⟨.bin .lss (.t 11) (.t 10),some 12,none,[],[]⟩] []:=fun _ _ _=>rfl
theorem e_sev_4:EqR r_sev_4 zjm [7]:=fun _ _ _=>rfl
theorem e_sev_5:EqR r_sev_5 zjl [8]:=fun _ _ _=>rfl
theorem e_sev_6:EqR r_sev_6 zjk []:=fun _ _ _=>rfl
theorem e_sev_7:EqR r_sev_7 zjj []:=fun _ _ _=>rfl
theorem e_sev_8:EqR r_sev_8 zji [26,28]:=fun _ _ _=>rfl
theorem e_sev_9:EqR r_sev_9 zjh []:=fun _ _ _=>rfl
theorem e_sev_10:EqR znc zd7 [42,44]:=fun _ _ _=>rfl
theorem e_sev_11:EqR znb zd6 []:=fun _ _ _=>rfl
theorem e_sev_12:EqR zna zd5 [55,57]:=fun _ _ _=>rfl
theorem e_sev_13:EqR zn9 [⟨.bin .add (.t 11) (.c (.int .i64 1)),some 59,none,[],[]⟩,⟨.mv (.t 59),some 11,none,[],[]⟩] []:=fun _ _ _=>rfl
theorem e_sev_15:EqR zn8 [⟨.mv (.t 5),some 60,none,[],[]⟩,⟨.mv (.t 60),some 4,none,[],[]⟩] []:=fun _ _ _=>rfl
theorem fn_sev {args:List AV} {r:AV} (ha:args.length.ble Tryz.f19.ntmps = true) (h:run (AFn Tryz.prog) ir_sev (endQ res_sev r) (z0h args)):AFn Tryz.prog 19 args r :=
 AFn.of_code (pv:=false) (hint:=fun _=>[]) (c:=Tryz.f19.body.getD .skip) (by kernel_rfl) (by kernel_rfl) Tryz.func19 (by kernel_rfl) (by kernel_rfl) (by kernel_rfl) (of_decide_eq_true (by kernel_rfl)) (Nat.le_of_ble_eq_true ha) (Nat.le_of_ble_eq_true (by kernel_rfl)) (z0g h)
attribute [local go_sem ↓] ir_sev
attribute [local go_sem] res_sev e_sev_0 e_sev_1 e_sev_2 zjn e_sev_3 e_sev_4 zjm e_sev_5 zjl e_sev_6 zjk e_sev_7 zjj e_sev_8 zji e_sev_9 zjh e_sev_10 zd7 e_sev_11 zd6 e_sev_12 zd5 e_sev_13 e_sev_15
def zr8 (i:Nat):ByteArray:=⟨#[98,101,103,97,110,32]⟩ ++ decS i
def zhn (i:Nat):ByteArray:=⟨#[112,111,105,110,116,32]⟩ ++ decS i
def zio (i:Nat):ByteArray:=⟨#[101,110,100,101,100,32]⟩ ++ decS i
def evX:Option Evt->Nat->Evt->List ByteArray
 | none,i,e=>[zr8 i] ++ ((if (e.point != 0) = true then [zhn i] else []) ++ if e.done = true then [zio i] else [])
 | some y,i,e=>(if ((e.point != y.point) && (e.point != 0)) = true then [zhn i] else []) ++ if (e.done && !y.done) = true then [zio i] else []
def z09 (a:List Evt):List Evt->Nat->List ByteArray
 | [],_=>[]
 | e :: l,i=>evX a[i]? i e ++ z09 a l (i + 1)
def z26 (a b:List Evt):List ByteArray:=z09 a b 0
theorem zak (a:List Evt):∀ (l r:List Evt) (i:Nat),z09 a (l ++ r) i = z09 a l i ++ z09 a r (i + l.length)
 | [],r,i=>rfl
 | e :: l,r,i=>by
  rw [List.cons_append,z09,z09,zak a l r (i + 1),List.append_assoc,List.length_cons,show i + 1 + l.length = i + (l.length + 1) by omega]
theorem z7v {a b:List Evt} {j:Nat} {e:Evt} (he:b[j]? = some e):z09 a (b.take (j + 1)) 0 = z09 a (b.take j) 0 ++ evX a[j]? j e:=by
 have hj:=(List.getElem?_eq_some_iff.1 he).1
 rw [zd0 he,zak,List.length_take,Nat.zero_add,Nat.min_eq_left (by omega)]
 simp only [z09,List.append_nil]
theorem evX_len (o:Option Evt) (i:Nat) (e:Evt):(evX o i e).length≤3:=by
 cases o with
 | none=>simp only [evX]; split <;> split <;> simp
 | some y=>simp only [evX]; split <;> split <;> simp
theorem z3f (a:List Evt):∀ (l:List Evt) (i:Nat),(z09 a l i).length≤3 * l.length
 | [],i=>by simp [z09]
 | e :: l,i=>by
  have h1:=evX_len a[i]? i e
  have h2:=z3f a l (i + 1)
  rw [z09,List.length_append,List.length_cons]
  omega
def sevI (a b:List Evt) (k:Nat) (σ:St):Prop :=
 ∃ (j:Nat) (out:List ByteArray),j≤b.length∧k = b.length - j∧out = z09 a (b.take j) 0∧σ.T 0 = .sl (a.map Evt.a)∧σ.T 5 = .rs 5 0 out.length∧σ.H 5 = some ⟨1,9,out.map .str,0⟩∧σ.T 9 = .sl (b.map Evt.a)∧σ.T 10 = .int .i64 b.length∧σ.T 11 = .int .i64 j
set_option maxHeartbeats 40000000 in
theorem sev_ok (a b:List Evt) (la:a.length≤100000) (lb:b.length≤100000):AFn Tryz.prog 19 [.sl (a.map Evt.a),.sl (b.map Evt.a)] (.own 1 9 ((z26 a b).map .str)):=by
 refine fn_sev rfl ?_
 simp (maxSteps:=9^7) only [go_sem,Evt.a,nul,List.length_map]
 refine z0c (sevI a b) (k:=b.length) ⟨0,[],Nat.zero_le _,rfl,rfl,?_,?_,?_,?_,?_,?_⟩ ?_ <;> try ((simp (maxSteps:=9^7) only [go_sem,Evt.a,nul,List.length_map]) <;> rfl)
 rintro k σ ⟨j,out,hj,rfl,hout,t0,t5,h5,t9,t10,t11⟩
 simp only [zgr]
 by_cases hlt:j < b.length
 case neg =>
  have hlt':¬ (j:Int) < (b.length:Int):=by omega
  rw [List.take_of_length_le (by omega)] at hout
  subst hout
  have hw:z09 a b 0 = z26 a b:=rfl
  rw [hw] at t5 h5
  have tk:((z26 a b).map AV.str).take (z26 a b).length = (z26 a b).map AV.str:=List.take_of_length_le (by simp)
  simp (maxSteps:=9^7) only [go_sem,Evt.a,nul,t0,t5,h5,t9,t10,t11,hlt',tk,List.length_map]
 have hlt':(j:Int) < (b.length:Int):=by omega
 obtain ⟨e,he⟩:=z0o hlt
 have hg:=z0v (f:=Evt.a) he
 simp only [Evt.a] at hg
 have hw:=z2s (j:=j) (by omega)
 have hi:inI (j:Int):=by unfold inI; omega
 have cd:=zr2 (j:Int) hi
 have z1:=z2d (j:Int) hi
 have hs:=z7v (a:=a) he
 have hol:out.length≤300000:=by
  have e2:=z3f a (b.take j) 0
  rw [List.length_take] at e2
  rw [hout]
  omega
 have tk:(out.map AV.str).take out.length = out.map AV.str:=List.take_of_length_le (by simp)
 rw [← hout] at hs
 by_cases ha:j < a.length
 case neg =>
  have ha':¬ (j:Int) < (a.length:Int):=by omega
  have hy:a[j]? = none:=List.getElem?_eq_none (by omega)
  cases q2:e.point != 0 with
  | true =>
   cases q3:e.done with
   | true =>
    have hv:evX a[j]? j e = [⟨#[98,101,103,97,110,32]⟩ ++ decS (j:Int),⟨#[112,111,105,110,116,32]⟩ ++ decS (j:Int),⟨#[101,110,100,101,100,32]⟩ ++ decS (j:Int)]:=by rw [hy]; simp only [evX,q2,q3]; rfl
    rw [hv] at hs
    have em1:(out ++ [⟨#[98,101,103,97,110,32]⟩ ++ decS (j:Int)]).map AV.str = out.map AV.str ++ [AV.str (⟨#[98,101,103,97,110,32]⟩ ++ decS (j:Int))]:=by simp only [List.map_append,List.append_assoc]; rfl
    have tk1:List.take (out.length + 1) (out.map AV.str ++ [AV.str (⟨#[98,101,103,97,110,32]⟩ ++ decS (j:Int))]) = out.map AV.str ++ [AV.str (⟨#[98,101,103,97,110,32]⟩ ++ decS (j:Int))]:=List.take_of_length_le (by simp)
    have el1:(out ++ [⟨#[98,101,103,97,110,32]⟩ ++ decS (j:Int)]).length = out.length + 1:=by simp
    have em2:(out ++ [⟨#[98,101,103,97,110,32]⟩ ++ decS (j:Int),⟨#[112,111,105,110,116,32]⟩ ++ decS (j:Int)]).map AV.str = out.map AV.str ++ [AV.str (⟨#[98,101,103,97,110,32]⟩ ++ decS (j:Int))] ++ [AV.str (⟨#[112,111,105,110,116,32]⟩ ++ decS (j:Int))]:=by simp only [List.map_append,List.append_assoc]; rfl
    have tk2:List.take (out.length + 1 + 1) (out.map AV.str ++ [AV.str (⟨#[98,101,103,97,110,32]⟩ ++ decS (j:Int))] ++ [AV.str (⟨#[112,111,105,110,116,32]⟩ ++ decS (j:Int))]) = out.map AV.str ++ [AV.str (⟨#[98,101,103,97,110,32]⟩ ++ decS (j:Int))] ++ [AV.str (⟨#[112,111,105,110,116,32]⟩ ++ decS (j:Int))]:=List.take_of_length_le (by simp)
    have el2:(out ++ [⟨#[98,101,103,97,110,32]⟩ ++ decS (j:Int),⟨#[112,111,105,110,116,32]⟩ ++ decS (j:Int)]).length = out.length + 2:=by simp
    have em3:(out ++ [⟨#[98,101,103,97,110,32]⟩ ++ decS (j:Int),⟨#[112,111,105,110,116,32]⟩ ++ decS (j:Int),⟨#[101,110,100,101,100,32]⟩ ++ decS (j:Int)]).map AV.str = out.map AV.str ++ [AV.str (⟨#[98,101,103,97,110,32]⟩ ++ decS (j:Int))] ++ [AV.str (⟨#[112,111,105,110,116,32]⟩ ++ decS (j:Int))] ++ [AV.str (⟨#[101,110,100,101,100,32]⟩ ++ decS (j:Int))]:=by simp only [List.map_append,List.append_assoc]; rfl
    have tk3:List.take (out.length + 1 + 1 + 1) (out.map AV.str ++ [AV.str (⟨#[98,101,103,97,110,32]⟩ ++ decS (j:Int))] ++ [AV.str (⟨#[112,111,105,110,116,32]⟩ ++ decS (j:Int))] ++ [AV.str (⟨#[101,110,100,101,100,32]⟩ ++ decS (j:Int))]) = out.map AV.str ++ [AV.str (⟨#[98,101,103,97,110,32]⟩ ++ decS (j:Int))] ++ [AV.str (⟨#[112,111,105,110,116,32]⟩ ++ decS (j:Int))] ++ [AV.str (⟨#[101,110,100,101,100,32]⟩ ++ decS (j:Int))]:=List.take_of_length_le (by simp)
    have el3:(out ++ [⟨#[98,101,103,97,110,32]⟩ ++ decS (j:Int),⟨#[112,111,105,110,116,32]⟩ ++ decS (j:Int),⟨#[101,110,100,101,100,32]⟩ ++ decS (j:Int)]).length = out.length + 3:=by simp
    (repeat (first | simp (maxSteps:=9^7) only [go_sem,Evt.a,nul,t0,t5,h5,t9,t10,t11,hlt',hlt,hg,tk,List.length_map,Int.toNat_natCast,List.size_toArray,List.length_cons,List.length_nil,ha',q2,q3,tk1,tk2] | refine z01 (cd) ?_ | refine z00 (cd) ?_ | refine And.intro (by omega) ?_ | refine And.intro (fun d hd=>by (repeat (rcases hd with rfl | hd; · exact ⟨rfl,rfl⟩)); cases hd) ?_))
    refine ⟨⟨⟨by omega,by omega⟩,fun d hd=>by rcases hd with rfl | hd; exact ⟨rfl,rfl⟩; cases hd⟩,?_⟩
    (repeat (first | simp (maxSteps:=9^7) only [go_sem,Evt.a,nul,t0,t5,h5,t9,t10,t11,hlt',hlt,hg,tk,List.length_map,Int.toNat_natCast,List.size_toArray,List.length_cons,List.length_nil,ha',q2,q3,tk1,tk2] | refine z01 (cd) ?_ | refine z00 (cd) ?_ | refine And.intro (by omega) ?_ | refine And.intro (fun d hd=>by (repeat (rcases hd with rfl | hd; · exact ⟨rfl,rfl⟩)); cases hd) ?_))
    refine ⟨⟨⟨by omega,by omega⟩,fun d hd=>by rcases hd with rfl | hd; exact ⟨rfl,rfl⟩; cases hd⟩,?_⟩
    (repeat (first | simp (maxSteps:=9^7) only [go_sem,Evt.a,nul,t0,t5,h5,t9,t10,t11,hlt',hlt,hg,tk,List.length_map,Int.toNat_natCast,List.size_toArray,List.length_cons,List.length_nil,ha',q2,q3,tk1,tk2] | refine z01 (cd) ?_ | refine z00 (cd) ?_ | refine And.intro (by omega) ?_ | refine And.intro (fun d hd=>by (repeat (rcases hd with rfl | hd; · exact ⟨rfl,rfl⟩)); cases hd) ?_))
    refine ⟨⟨⟨by omega,by omega⟩,fun d hd=>by rcases hd with rfl | hd; exact ⟨rfl,rfl⟩; cases hd⟩,?_⟩
    refine ⟨b.length - (j + 1),by omega,j + 1,(out ++ [⟨#[98,101,103,97,110,32]⟩ ++ decS (j:Int),⟨#[112,111,105,110,116,32]⟩ ++ decS (j:Int),⟨#[101,110,100,101,100,32]⟩ ++ decS (j:Int)]),by omega,rfl,by rw [hs],?_,?_,?_,?_,?_,?_⟩ <;> (simp (maxSteps:=9^7) only [go_sem,Evt.a,nul,t0,t5,h5,t9,t10,t11,hw,em3,el3,tk1,tk2])
   | false =>
    have hv:evX a[j]? j e = [⟨#[98,101,103,97,110,32]⟩ ++ decS (j:Int),⟨#[112,111,105,110,116,32]⟩ ++ decS (j:Int)]:=by rw [hy]; simp only [evX,q2,q3]; rfl
    rw [hv] at hs
    have em1:(out ++ [⟨#[98,101,103,97,110,32]⟩ ++ decS (j:Int)]).map AV.str = out.map AV.str ++ [AV.str (⟨#[98,101,103,97,110,32]⟩ ++ decS (j:Int))]:=by simp only [List.map_append,List.append_assoc]; rfl
    have tk1:List.take (out.length + 1) (out.map AV.str ++ [AV.str (⟨#[98,101,103,97,110,32]⟩ ++ decS (j:Int))]) = out.map AV.str ++ [AV.str (⟨#[98,101,103,97,110,32]⟩ ++ decS (j:Int))]:=List.take_of_length_le (by simp)
    have el1:(out ++ [⟨#[98,101,103,97,110,32]⟩ ++ decS (j:Int)]).length = out.length + 1:=by simp
    have em2:(out ++ [⟨#[98,101,103,97,110,32]⟩ ++ decS (j:Int),⟨#[112,111,105,110,116,32]⟩ ++ decS (j:Int)]).map AV.str = out.map AV.str ++ [AV.str (⟨#[98,101,103,97,110,32]⟩ ++ decS (j:Int))] ++ [AV.str (⟨#[112,111,105,110,116,32]⟩ ++ decS (j:Int))]:=by simp only [List.map_append,List.append_assoc]; rfl
    have tk2:List.take (out.length + 1 + 1) (out.map AV.str ++ [AV.str (⟨#[98,101,103,97,110,32]⟩ ++ decS (j:Int))] ++ [AV.str (⟨#[112,111,105,110,116,32]⟩ ++ decS (j:Int))]) = out.map AV.str ++ [AV.str (⟨#[98,101,103,97,110,32]⟩ ++ decS (j:Int))] ++ [AV.str (⟨#[112,111,105,110,116,32]⟩ ++ decS (j:Int))]:=List.take_of_length_le (by simp)
    have el2:(out ++ [⟨#[98,101,103,97,110,32]⟩ ++ decS (j:Int),⟨#[112,111,105,110,116,32]⟩ ++ decS (j:Int)]).length = out.length + 2:=by simp
    (repeat (first | simp (maxSteps:=9^7) only [go_sem,Evt.a,nul,t0,t5,h5,t9,t10,t11,hlt',hlt,hg,tk,List.length_map,Int.toNat_natCast,List.size_toArray,List.length_cons,List.length_nil,ha',q2,q3,tk1] | refine z01 (cd) ?_ | refine z00 (cd) ?_ | refine And.intro (by omega) ?_ | refine And.intro (fun d hd=>by (repeat (rcases hd with rfl | hd; · exact ⟨rfl,rfl⟩)); cases hd) ?_))
    refine ⟨⟨⟨by omega,by omega⟩,fun d hd=>by rcases hd with rfl | hd; exact ⟨rfl,rfl⟩; cases hd⟩,?_⟩
    (repeat (first | simp (maxSteps:=9^7) only [go_sem,Evt.a,nul,t0,t5,h5,t9,t10,t11,hlt',hlt,hg,tk,List.length_map,Int.toNat_natCast,List.size_toArray,List.length_cons,List.length_nil,ha',q2,q3,tk1] | refine z01 (cd) ?_ | refine z00 (cd) ?_ | refine And.intro (by omega) ?_ | refine And.intro (fun d hd=>by (repeat (rcases hd with rfl | hd; · exact ⟨rfl,rfl⟩)); cases hd) ?_))
    refine ⟨⟨⟨by omega,by omega⟩,fun d hd=>by rcases hd with rfl | hd; exact ⟨rfl,rfl⟩; cases hd⟩,?_⟩
    refine ⟨b.length - (j + 1),by omega,j + 1,(out ++ [⟨#[98,101,103,97,110,32]⟩ ++ decS (j:Int),⟨#[112,111,105,110,116,32]⟩ ++ decS (j:Int)]),by omega,rfl,by rw [hs],?_,?_,?_,?_,?_,?_⟩ <;> (simp (maxSteps:=9^7) only [go_sem,Evt.a,nul,t0,t5,h5,t9,t10,t11,hw,em2,el2,tk1])
  | false =>
   cases q3:e.done with
   | true =>
    have hv:evX a[j]? j e = [⟨#[98,101,103,97,110,32]⟩ ++ decS (j:Int),⟨#[101,110,100,101,100,32]⟩ ++ decS (j:Int)]:=by rw [hy]; simp only [evX,q2,q3]; rfl
    rw [hv] at hs
    have em1:(out ++ [⟨#[98,101,103,97,110,32]⟩ ++ decS (j:Int)]).map AV.str = out.map AV.str ++ [AV.str (⟨#[98,101,103,97,110,32]⟩ ++ decS (j:Int))]:=by simp only [List.map_append,List.append_assoc]; rfl
    have tk1:List.take (out.length + 1) (out.map AV.str ++ [AV.str (⟨#[98,101,103,97,110,32]⟩ ++ decS (j:Int))]) = out.map AV.str ++ [AV.str (⟨#[98,101,103,97,110,32]⟩ ++ decS (j:Int))]:=List.take_of_length_le (by simp)
    have el1:(out ++ [⟨#[98,101,103,97,110,32]⟩ ++ decS (j:Int)]).length = out.length + 1:=by simp
    have em2:(out ++ [⟨#[98,101,103,97,110,32]⟩ ++ decS (j:Int),⟨#[101,110,100,101,100,32]⟩ ++ decS (j:Int)]).map AV.str = out.map AV.str ++ [AV.str (⟨#[98,101,103,97,110,32]⟩ ++ decS (j:Int))] ++ [AV.str (⟨#[101,110,100,101,100,32]⟩ ++ decS (j:Int))]:=by simp only [List.map_append,List.append_assoc]; rfl
    have tk2:List.take (out.length + 1 + 1) (out.map AV.str ++ [AV.str (⟨#[98,101,103,97,110,32]⟩ ++ decS (j:Int))] ++ [AV.str (⟨#[101,110,100,101,100,32]⟩ ++ decS (j:Int))]) = out.map AV.str ++ [AV.str (⟨#[98,101,103,97,110,32]⟩ ++ decS (j:Int))] ++ [AV.str (⟨#[101,110,100,101,100,32]⟩ ++ decS (j:Int))]:=List.take_of_length_le (by simp)
    have el2:(out ++ [⟨#[98,101,103,97,110,32]⟩ ++ decS (j:Int),⟨#[101,110,100,101,100,32]⟩ ++ decS (j:Int)]).length = out.length + 2:=by simp
    (repeat (first | simp (maxSteps:=9^7) only [go_sem,Evt.a,nul,t0,t5,h5,t9,t10,t11,hlt',hlt,hg,tk,List.length_map,Int.toNat_natCast,List.size_toArray,List.length_cons,List.length_nil,ha',q2,q3,tk1] | refine z01 (cd) ?_ | refine z00 (cd) ?_ | refine And.intro (by omega) ?_ | refine And.intro (fun d hd=>by (repeat (rcases hd with rfl | hd; · exact ⟨rfl,rfl⟩)); cases hd) ?_))
    refine ⟨⟨⟨by omega,by omega⟩,fun d hd=>by rcases hd with rfl | hd; exact ⟨rfl,rfl⟩; cases hd⟩,?_⟩
    (repeat (first | simp (maxSteps:=9^7) only [go_sem,Evt.a,nul,t0,t5,h5,t9,t10,t11,hlt',hlt,hg,tk,List.length_map,Int.toNat_natCast,List.size_toArray,List.length_cons,List.length_nil,ha',q2,q3,tk1] | refine z01 (cd) ?_ | refine z00 (cd) ?_ | refine And.intro (by omega) ?_ | refine And.intro (fun d hd=>by (repeat (rcases hd with rfl | hd; · exact ⟨rfl,rfl⟩)); cases hd) ?_))
    refine ⟨⟨⟨by omega,by omega⟩,fun d hd=>by rcases hd with rfl | hd; exact ⟨rfl,rfl⟩; cases hd⟩,?_⟩
    refine ⟨b.length - (j + 1),by omega,j + 1,(out ++ [⟨#[98,101,103,97,110,32]⟩ ++ decS (j:Int),⟨#[101,110,100,101,100,32]⟩ ++ decS (j:Int)]),by omega,rfl,by rw [hs],?_,?_,?_,?_,?_,?_⟩ <;> (simp (maxSteps:=9^7) only [go_sem,Evt.a,nul,t0,t5,h5,t9,t10,t11,hw,em2,el2,tk1])
   | false =>
    have hv:evX a[j]? j e = [⟨#[98,101,103,97,110,32]⟩ ++ decS (j:Int)]:=by rw [hy]; simp only [evX,q2,q3]; rfl
    rw [hv] at hs
    have em1:(out ++ [⟨#[98,101,103,97,110,32]⟩ ++ decS (j:Int)]).map AV.str = out.map AV.str ++ [AV.str (⟨#[98,101,103,97,110,32]⟩ ++ decS (j:Int))]:=by simp only [List.map_append,List.append_assoc]; rfl
    have tk1:List.take (out.length + 1) (out.map AV.str ++ [AV.str (⟨#[98,101,103,97,110,32]⟩ ++ decS (j:Int))]) = out.map AV.str ++ [AV.str (⟨#[98,101,103,97,110,32]⟩ ++ decS (j:Int))]:=List.take_of_length_le (by simp)
    have el1:(out ++ [⟨#[98,101,103,97,110,32]⟩ ++ decS (j:Int)]).length = out.length + 1:=by simp
    (repeat (first | simp (maxSteps:=9^7) only [go_sem,Evt.a,nul,t0,t5,h5,t9,t10,t11,hlt',hlt,hg,tk,List.length_map,Int.toNat_natCast,List.size_toArray,List.length_cons,List.length_nil,ha',q2,q3] | refine z01 (cd) ?_ | refine z00 (cd) ?_ | refine And.intro (by omega) ?_ | refine And.intro (fun d hd=>by (repeat (rcases hd with rfl | hd; · exact ⟨rfl,rfl⟩)); cases hd) ?_))
    refine ⟨⟨⟨by omega,by omega⟩,fun d hd=>by rcases hd with rfl | hd; exact ⟨rfl,rfl⟩; cases hd⟩,?_⟩
    refine ⟨b.length - (j + 1),by omega,j + 1,(out ++ [⟨#[98,101,103,97,110,32]⟩ ++ decS (j:Int)]),by omega,rfl,by rw [hs],?_,?_,?_,?_,?_,?_⟩ <;> (simp (maxSteps:=9^7) only [go_sem,Evt.a,nul,t0,t5,h5,t9,t10,t11,hw,em1,el1])
 have ha':(j:Int) < (a.length:Int):=by omega
 obtain ⟨y,hy⟩:=z0o ha
 have hgy:=z0v (f:=Evt.a) hy
 simp only [Evt.a] at hgy
 cases q1:e.point != y.point with
 | true =>
  cases q2:e.point != 0 with
  | true =>
   cases q3:e.done with
   | true =>
    cases q4:y.done with
    | true =>
     have hv:evX a[j]? j e = [⟨#[112,111,105,110,116,32]⟩ ++ decS (j:Int)]:=by rw [hy]; simp only [evX,q1,q2,q3,q4]; rfl
     rw [hv] at hs
     have em1:(out ++ [⟨#[112,111,105,110,116,32]⟩ ++ decS (j:Int)]).map AV.str = out.map AV.str ++ [AV.str (⟨#[112,111,105,110,116,32]⟩ ++ decS (j:Int))]:=by simp only [List.map_append,List.append_assoc]; rfl
     have tk1:List.take (out.length + 1) (out.map AV.str ++ [AV.str (⟨#[112,111,105,110,116,32]⟩ ++ decS (j:Int))]) = out.map AV.str ++ [AV.str (⟨#[112,111,105,110,116,32]⟩ ++ decS (j:Int))]:=List.take_of_length_le (by simp)
     have el1:(out ++ [⟨#[112,111,105,110,116,32]⟩ ++ decS (j:Int)]).length = out.length + 1:=by simp
     (repeat (first | simp (maxSteps:=9^7) only [go_sem,Evt.a,nul,t0,t5,h5,t9,t10,t11,hlt',hlt,hg,tk,List.length_map,Int.toNat_natCast,List.size_toArray,List.length_cons,List.length_nil,ha',ha,hgy,q1,q2,q3,q4] | refine z01 (cd) ?_ | refine z00 (cd) ?_ | refine And.intro (by omega) ?_ | refine And.intro (fun d hd=>by (repeat (rcases hd with rfl | hd; · exact ⟨rfl,rfl⟩)); cases hd) ?_))
     refine ⟨⟨⟨by omega,by omega⟩,fun d hd=>by rcases hd with rfl | hd; exact ⟨rfl,rfl⟩; cases hd⟩,?_⟩
     refine ⟨b.length - (j + 1),by omega,j + 1,(out ++ [⟨#[112,111,105,110,116,32]⟩ ++ decS (j:Int)]),by omega,rfl,by rw [hs],?_,?_,?_,?_,?_,?_⟩ <;> (simp (maxSteps:=9^7) only [go_sem,Evt.a,nul,t0,t5,h5,t9,t10,t11,hw,em1,el1])
    | false =>
     have hv:evX a[j]? j e = [⟨#[112,111,105,110,116,32]⟩ ++ decS (j:Int),⟨#[101,110,100,101,100,32]⟩ ++ decS (j:Int)]:=by rw [hy]; simp only [evX,q1,q2,q3,q4]; rfl
     rw [hv] at hs
     have em1:(out ++ [⟨#[112,111,105,110,116,32]⟩ ++ decS (j:Int)]).map AV.str = out.map AV.str ++ [AV.str (⟨#[112,111,105,110,116,32]⟩ ++ decS (j:Int))]:=by simp only [List.map_append,List.append_assoc]; rfl
     have tk1:List.take (out.length + 1) (out.map AV.str ++ [AV.str (⟨#[112,111,105,110,116,32]⟩ ++ decS (j:Int))]) = out.map AV.str ++ [AV.str (⟨#[112,111,105,110,116,32]⟩ ++ decS (j:Int))]:=List.take_of_length_le (by simp)
     have el1:(out ++ [⟨#[112,111,105,110,116,32]⟩ ++ decS (j:Int)]).length = out.length + 1:=by simp
     have em2:(out ++ [⟨#[112,111,105,110,116,32]⟩ ++ decS (j:Int),⟨#[101,110,100,101,100,32]⟩ ++ decS (j:Int)]).map AV.str = out.map AV.str ++ [AV.str (⟨#[112,111,105,110,116,32]⟩ ++ decS (j:Int))] ++ [AV.str (⟨#[101,110,100,101,100,32]⟩ ++ decS (j:Int))]:=by simp only [List.map_append,List.append_assoc]; rfl
     have tk2:List.take (out.length + 1 + 1) (out.map AV.str ++ [AV.str (⟨#[112,111,105,110,116,32]⟩ ++ decS (j:Int))] ++ [AV.str (⟨#[101,110,100,101,100,32]⟩ ++ decS (j:Int))]) = out.map AV.str ++ [AV.str (⟨#[112,111,105,110,116,32]⟩ ++ decS (j:Int))] ++ [AV.str (⟨#[101,110,100,101,100,32]⟩ ++ decS (j:Int))]:=List.take_of_length_le (by simp)
     have el2:(out ++ [⟨#[112,111,105,110,116,32]⟩ ++ decS (j:Int),⟨#[101,110,100,101,100,32]⟩ ++ decS (j:Int)]).length = out.length + 2:=by simp
     (repeat (first | simp (maxSteps:=9^7) only [go_sem,Evt.a,nul,t0,t5,h5,t9,t10,t11,hlt',hlt,hg,tk,List.length_map,Int.toNat_natCast,List.size_toArray,List.length_cons,List.length_nil,ha',ha,hgy,q1,q2,q3,q4,tk1] | refine z01 (cd) ?_ | refine z00 (cd) ?_ | refine And.intro (by omega) ?_ | refine And.intro (fun d hd=>by (repeat (rcases hd with rfl | hd; · exact ⟨rfl,rfl⟩)); cases hd) ?_))
     refine ⟨⟨⟨by omega,by omega⟩,fun d hd=>by rcases hd with rfl | hd; exact ⟨rfl,rfl⟩; cases hd⟩,?_⟩
     (repeat (first | simp (maxSteps:=9^7) only [go_sem,Evt.a,nul,t0,t5,h5,t9,t10,t11,hlt',hlt,hg,tk,List.length_map,Int.toNat_natCast,List.size_toArray,List.length_cons,List.length_nil,ha',ha,hgy,q1,q2,q3,q4,tk1] | refine z01 (cd) ?_ | refine z00 (cd) ?_ | refine And.intro (by omega) ?_ | refine And.intro (fun d hd=>by (repeat (rcases hd with rfl | hd; · exact ⟨rfl,rfl⟩)); cases hd) ?_))
     refine ⟨⟨⟨by omega,by omega⟩,fun d hd=>by rcases hd with rfl | hd; exact ⟨rfl,rfl⟩; cases hd⟩,?_⟩
     refine ⟨b.length - (j + 1),by omega,j + 1,(out ++ [⟨#[112,111,105,110,116,32]⟩ ++ decS (j:Int),⟨#[101,110,100,101,100,32]⟩ ++ decS (j:Int)]),by omega,rfl,by rw [hs],?_,?_,?_,?_,?_,?_⟩ <;> (simp (maxSteps:=9^7) only [go_sem,Evt.a,nul,t0,t5,h5,t9,t10,t11,hw,em2,el2,tk1])
   | false =>
    cases q4:y.done with
    | true =>
     have hv:evX a[j]? j e = [⟨#[112,111,105,110,116,32]⟩ ++ decS (j:Int)]:=by rw [hy]; simp only [evX,q1,q2,q3,q4]; rfl
     rw [hv] at hs
     have em1:(out ++ [⟨#[112,111,105,110,116,32]⟩ ++ decS (j:Int)]).map AV.str = out.map AV.str ++ [AV.str (⟨#[112,111,105,110,116,32]⟩ ++ decS (j:Int))]:=by simp only [List.map_append,List.append_assoc]; rfl
     have tk1:List.take (out.length + 1) (out.map AV.str ++ [AV.str (⟨#[112,111,105,110,116,32]⟩ ++ decS (j:Int))]) = out.map AV.str ++ [AV.str (⟨#[112,111,105,110,116,32]⟩ ++ decS (j:Int))]:=List.take_of_length_le (by simp)
     have el1:(out ++ [⟨#[112,111,105,110,116,32]⟩ ++ decS (j:Int)]).length = out.length + 1:=by simp
     (repeat (first | simp (maxSteps:=9^7) only [go_sem,Evt.a,nul,t0,t5,h5,t9,t10,t11,hlt',hlt,hg,tk,List.length_map,Int.toNat_natCast,List.size_toArray,List.length_cons,List.length_nil,ha',ha,hgy,q1,q2,q3,q4] | refine z01 (cd) ?_ | refine z00 (cd) ?_ | refine And.intro (by omega) ?_ | refine And.intro (fun d hd=>by (repeat (rcases hd with rfl | hd; · exact ⟨rfl,rfl⟩)); cases hd) ?_))
     refine ⟨⟨⟨by omega,by omega⟩,fun d hd=>by rcases hd with rfl | hd; exact ⟨rfl,rfl⟩; cases hd⟩,?_⟩
     refine ⟨b.length - (j + 1),by omega,j + 1,(out ++ [⟨#[112,111,105,110,116,32]⟩ ++ decS (j:Int)]),by omega,rfl,by rw [hs],?_,?_,?_,?_,?_,?_⟩ <;> (simp (maxSteps:=9^7) only [go_sem,Evt.a,nul,t0,t5,h5,t9,t10,t11,hw,em1,el1])
    | false =>
     have hv:evX a[j]? j e = [⟨#[112,111,105,110,116,32]⟩ ++ decS (j:Int)]:=by rw [hy]; simp only [evX,q1,q2,q3,q4]; rfl
     rw [hv] at hs
     have em1:(out ++ [⟨#[112,111,105,110,116,32]⟩ ++ decS (j:Int)]).map AV.str = out.map AV.str ++ [AV.str (⟨#[112,111,105,110,116,32]⟩ ++ decS (j:Int))]:=by simp only [List.map_append,List.append_assoc]; rfl
     have tk1:List.take (out.length + 1) (out.map AV.str ++ [AV.str (⟨#[112,111,105,110,116,32]⟩ ++ decS (j:Int))]) = out.map AV.str ++ [AV.str (⟨#[112,111,105,110,116,32]⟩ ++ decS (j:Int))]:=List.take_of_length_le (by simp)
     have el1:(out ++ [⟨#[112,111,105,110,116,32]⟩ ++ decS (j:Int)]).length = out.length + 1:=by simp
     (repeat (first | simp (maxSteps:=9^7) only [go_sem,Evt.a,nul,t0,t5,h5,t9,t10,t11,hlt',hlt,hg,tk,List.length_map,Int.toNat_natCast,List.size_toArray,List.length_cons,List.length_nil,ha',ha,hgy,q1,q2,q3,q4] | refine z01 (cd) ?_ | refine z00 (cd) ?_ | refine And.intro (by omega) ?_ | refine And.intro (fun d hd=>by (repeat (rcases hd with rfl | hd; · exact ⟨rfl,rfl⟩)); cases hd) ?_))
     refine ⟨⟨⟨by omega,by omega⟩,fun d hd=>by rcases hd with rfl | hd; exact ⟨rfl,rfl⟩; cases hd⟩,?_⟩
     refine ⟨b.length - (j + 1),by omega,j + 1,(out ++ [⟨#[112,111,105,110,116,32]⟩ ++ decS (j:Int)]),by omega,rfl,by rw [hs],?_,?_,?_,?_,?_,?_⟩ <;> (simp (maxSteps:=9^7) only [go_sem,Evt.a,nul,t0,t5,h5,t9,t10,t11,hw,em1,el1])
  | false =>
   cases q3:e.done with
   | true =>
    cases q4:y.done with
    | true =>
     have hv:evX a[j]? j e = ([]:List ByteArray):=by rw [hy]; simp only [evX,q1,q2,q3,q4]; rfl
     rw [hv] at hs
     (repeat (first | simp (maxSteps:=9^7) only [go_sem,Evt.a,nul,t0,t5,h5,t9,t10,t11,hlt',hlt,hg,tk,List.length_map,Int.toNat_natCast,List.size_toArray,List.length_cons,List.length_nil,ha',ha,hgy,q1,q2,q3,q4] | refine z01 (cd) ?_ | refine z00 (cd) ?_ | refine And.intro (by omega) ?_ | refine And.intro (fun d hd=>by (repeat (rcases hd with rfl | hd; · exact ⟨rfl,rfl⟩)); cases hd) ?_))
     refine ⟨b.length - (j + 1),by omega,j + 1,out,by omega,rfl,by rw [hs,List.append_nil],?_,?_,?_,?_,?_,?_⟩ <;> (simp (maxSteps:=9^7) only [go_sem,Evt.a,nul,t0,t5,h5,t9,t10,t11,hw])
    | false =>
     have hv:evX a[j]? j e = [⟨#[101,110,100,101,100,32]⟩ ++ decS (j:Int)]:=by rw [hy]; simp only [evX,q1,q2,q3,q4]; rfl
     rw [hv] at hs
     have em1:(out ++ [⟨#[101,110,100,101,100,32]⟩ ++ decS (j:Int)]).map AV.str = out.map AV.str ++ [AV.str (⟨#[101,110,100,101,100,32]⟩ ++ decS (j:Int))]:=by simp only [List.map_append,List.append_assoc]; rfl
     have tk1:List.take (out.length + 1) (out.map AV.str ++ [AV.str (⟨#[101,110,100,101,100,32]⟩ ++ decS (j:Int))]) = out.map AV.str ++ [AV.str (⟨#[101,110,100,101,100,32]⟩ ++ decS (j:Int))]:=List.take_of_length_le (by simp)
     have el1:(out ++ [⟨#[101,110,100,101,100,32]⟩ ++ decS (j:Int)]).length = out.length + 1:=by simp
     (repeat (first | simp (maxSteps:=9^7) only [go_sem,Evt.a,nul,t0,t5,h5,t9,t10,t11,hlt',hlt,hg,tk,List.length_map,Int.toNat_natCast,List.size_toArray,List.length_cons,List.length_nil,ha',ha,hgy,q1,q2,q3,q4] | refine z01 (cd) ?_ | refine z00 (cd) ?_ | refine And.intro (by omega) ?_ | refine And.intro (fun d hd=>by (repeat (rcases hd with rfl | hd; · exact ⟨rfl,rfl⟩)); cases hd) ?_))
     refine ⟨⟨⟨by omega,by omega⟩,fun d hd=>by rcases hd with rfl | hd; exact ⟨rfl,rfl⟩; cases hd⟩,?_⟩
     refine ⟨b.length - (j + 1),by omega,j + 1,(out ++ [⟨#[101,110,100,101,100,32]⟩ ++ decS (j:Int)]),by omega,rfl,by rw [hs],?_,?_,?_,?_,?_,?_⟩ <;> (simp (maxSteps:=9^7) only [go_sem,Evt.a,nul,t0,t5,h5,t9,t10,t11,hw,em1,el1])
   | false =>
    cases q4:y.done with
    | true =>
     have hv:evX a[j]? j e = ([]:List ByteArray):=by rw [hy]; simp only [evX,q1,q2,q3,q4]; rfl
     rw [hv] at hs
     (repeat (first | simp (maxSteps:=9^7) only [go_sem,Evt.a,nul,t0,t5,h5,t9,t10,t11,hlt',hlt,hg,tk,List.length_map,Int.toNat_natCast,List.size_toArray,List.length_cons,List.length_nil,ha',ha,hgy,q1,q2,q3,q4] | refine z01 (cd) ?_ | refine z00 (cd) ?_ | refine And.intro (by omega) ?_ | refine And.intro (fun d hd=>by (repeat (rcases hd with rfl | hd; · exact ⟨rfl,rfl⟩)); cases hd) ?_))
     refine ⟨b.length - (j + 1),by omega,j + 1,out,by omega,rfl,by rw [hs,List.append_nil],?_,?_,?_,?_,?_,?_⟩ <;> (simp (maxSteps:=9^7) only [go_sem,Evt.a,nul,t0,t5,h5,t9,t10,t11,hw])
    | false =>
     have hv:evX a[j]? j e = ([]:List ByteArray):=by rw [hy]; simp only [evX,q1,q2,q3,q4]; rfl
     rw [hv] at hs
     (repeat (first | simp (maxSteps:=9^7) only [go_sem,Evt.a,nul,t0,t5,h5,t9,t10,t11,hlt',hlt,hg,tk,List.length_map,Int.toNat_natCast,List.size_toArray,List.length_cons,List.length_nil,ha',ha,hgy,q1,q2,q3,q4] | refine z01 (cd) ?_ | refine z00 (cd) ?_ | refine And.intro (by omega) ?_ | refine And.intro (fun d hd=>by (repeat (rcases hd with rfl | hd; · exact ⟨rfl,rfl⟩)); cases hd) ?_))
     refine ⟨b.length - (j + 1),by omega,j + 1,out,by omega,rfl,by rw [hs,List.append_nil],?_,?_,?_,?_,?_,?_⟩ <;> (simp (maxSteps:=9^7) only [go_sem,Evt.a,nul,t0,t5,h5,t9,t10,t11,hw])
 | false =>
  cases q2:e.point != 0 with
  | true =>
   cases q3:e.done with
   | true =>
    cases q4:y.done with
    | true =>
     have hv:evX a[j]? j e = ([]:List ByteArray):=by rw [hy]; simp only [evX,q1,q2,q3,q4]; rfl
     rw [hv] at hs
     (repeat (first | simp (maxSteps:=9^7) only [go_sem,Evt.a,nul,t0,t5,h5,t9,t10,t11,hlt',hlt,hg,tk,List.length_map,Int.toNat_natCast,List.size_toArray,List.length_cons,List.length_nil,ha',ha,hgy,q1,q2,q3,q4] | refine z01 (cd) ?_ | refine z00 (cd) ?_ | refine And.intro (by omega) ?_ | refine And.intro (fun d hd=>by (repeat (rcases hd with rfl | hd; · exact ⟨rfl,rfl⟩)); cases hd) ?_))
     refine ⟨b.length - (j + 1),by omega,j + 1,out,by omega,rfl,by rw [hs,List.append_nil],?_,?_,?_,?_,?_,?_⟩ <;> (simp (maxSteps:=9^7) only [go_sem,Evt.a,nul,t0,t5,h5,t9,t10,t11,hw])
    | false =>
     have hv:evX a[j]? j e = [⟨#[101,110,100,101,100,32]⟩ ++ decS (j:Int)]:=by rw [hy]; simp only [evX,q1,q2,q3,q4]; rfl
     rw [hv] at hs
     have em1:(out ++ [⟨#[101,110,100,101,100,32]⟩ ++ decS (j:Int)]).map AV.str = out.map AV.str ++ [AV.str (⟨#[101,110,100,101,100,32]⟩ ++ decS (j:Int))]:=by simp only [List.map_append,List.append_assoc]; rfl
     have tk1:List.take (out.length + 1) (out.map AV.str ++ [AV.str (⟨#[101,110,100,101,100,32]⟩ ++ decS (j:Int))]) = out.map AV.str ++ [AV.str (⟨#[101,110,100,101,100,32]⟩ ++ decS (j:Int))]:=List.take_of_length_le (by simp)
     have el1:(out ++ [⟨#[101,110,100,101,100,32]⟩ ++ decS (j:Int)]).length = out.length + 1:=by simp
     (repeat (first | simp (maxSteps:=9^7) only [go_sem,Evt.a,nul,t0,t5,h5,t9,t10,t11,hlt',hlt,hg,tk,List.length_map,Int.toNat_natCast,List.size_toArray,List.length_cons,List.length_nil,ha',ha,hgy,q1,q2,q3,q4] | refine z01 (cd) ?_ | refine z00 (cd) ?_ | refine And.intro (by omega) ?_ | refine And.intro (fun d hd=>by (repeat (rcases hd with rfl | hd; · exact ⟨rfl,rfl⟩)); cases hd) ?_))
     refine ⟨⟨⟨by omega,by omega⟩,fun d hd=>by rcases hd with rfl | hd; exact ⟨rfl,rfl⟩; cases hd⟩,?_⟩
     refine ⟨b.length - (j + 1),by omega,j + 1,(out ++ [⟨#[101,110,100,101,100,32]⟩ ++ decS (j:Int)]),by omega,rfl,by rw [hs],?_,?_,?_,?_,?_,?_⟩ <;> (simp (maxSteps:=9^7) only [go_sem,Evt.a,nul,t0,t5,h5,t9,t10,t11,hw,em1,el1])
   | false =>
    cases q4:y.done with
    | true =>
     have hv:evX a[j]? j e = ([]:List ByteArray):=by rw [hy]; simp only [evX,q1,q2,q3,q4]; rfl
     rw [hv] at hs
     (repeat (first | simp (maxSteps:=9^7) only [go_sem,Evt.a,nul,t0,t5,h5,t9,t10,t11,hlt',hlt,hg,tk,List.length_map,Int.toNat_natCast,List.size_toArray,List.length_cons,List.length_nil,ha',ha,hgy,q1,q2,q3,q4] | refine z01 (cd) ?_ | refine z00 (cd) ?_ | refine And.intro (by omega) ?_ | refine And.intro (fun d hd=>by (repeat (rcases hd with rfl | hd; · exact ⟨rfl,rfl⟩)); cases hd) ?_))
     refine ⟨b.length - (j + 1),by omega,j + 1,out,by omega,rfl,by rw [hs,List.append_nil],?_,?_,?_,?_,?_,?_⟩ <;> (simp (maxSteps:=9^7) only [go_sem,Evt.a,nul,t0,t5,h5,t9,t10,t11,hw])
    | false =>
     have hv:evX a[j]? j e = ([]:List ByteArray):=by rw [hy]; simp only [evX,q1,q2,q3,q4]; rfl
     rw [hv] at hs
     (repeat (first | simp (maxSteps:=9^7) only [go_sem,Evt.a,nul,t0,t5,h5,t9,t10,t11,hlt',hlt,hg,tk,List.length_map,Int.toNat_natCast,List.size_toArray,List.length_cons,List.length_nil,ha',ha,hgy,q1,q2,q3,q4] | refine z01 (cd) ?_ | refine z00 (cd) ?_ | refine And.intro (by omega) ?_ | refine And.intro (fun d hd=>by (repeat (rcases hd with rfl | hd; · exact ⟨rfl,rfl⟩)); cases hd) ?_))
     refine ⟨b.length - (j + 1),by omega,j + 1,out,by omega,rfl,by rw [hs,List.append_nil],?_,?_,?_,?_,?_,?_⟩ <;> (simp (maxSteps:=9^7) only [go_sem,Evt.a,nul,t0,t5,h5,t9,t10,t11,hw])
  | false =>
   cases q3:e.done with
   | true =>
    cases q4:y.done with
    | true =>
     have hv:evX a[j]? j e = ([]:List ByteArray):=by rw [hy]; simp only [evX,q1,q2,q3,q4]; rfl
     rw [hv] at hs
     (repeat (first | simp (maxSteps:=9^7) only [go_sem,Evt.a,nul,t0,t5,h5,t9,t10,t11,hlt',hlt,hg,tk,List.length_map,Int.toNat_natCast,List.size_toArray,List.length_cons,List.length_nil,ha',ha,hgy,q1,q2,q3,q4] | refine z01 (cd) ?_ | refine z00 (cd) ?_ | refine And.intro (by omega) ?_ | refine And.intro (fun d hd=>by (repeat (rcases hd with rfl | hd; · exact ⟨rfl,rfl⟩)); cases hd) ?_))
     refine ⟨b.length - (j + 1),by omega,j + 1,out,by omega,rfl,by rw [hs,List.append_nil],?_,?_,?_,?_,?_,?_⟩ <;> (simp (maxSteps:=9^7) only [go_sem,Evt.a,nul,t0,t5,h5,t9,t10,t11,hw])
    | false =>
     have hv:evX a[j]? j e = [⟨#[101,110,100,101,100,32]⟩ ++ decS (j:Int)]:=by rw [hy]; simp only [evX,q1,q2,q3,q4]; rfl
     rw [hv] at hs
     have em1:(out ++ [⟨#[101,110,100,101,100,32]⟩ ++ decS (j:Int)]).map AV.str = out.map AV.str ++ [AV.str (⟨#[101,110,100,101,100,32]⟩ ++ decS (j:Int))]:=by simp only [List.map_append,List.append_assoc]; rfl
     have tk1:List.take (out.length + 1) (out.map AV.str ++ [AV.str (⟨#[101,110,100,101,100,32]⟩ ++ decS (j:Int))]) = out.map AV.str ++ [AV.str (⟨#[101,110,100,101,100,32]⟩ ++ decS (j:Int))]:=List.take_of_length_le (by simp)
     have el1:(out ++ [⟨#[101,110,100,101,100,32]⟩ ++ decS (j:Int)]).length = out.length + 1:=by simp
     (repeat (first | simp (maxSteps:=9^7) only [go_sem,Evt.a,nul,t0,t5,h5,t9,t10,t11,hlt',hlt,hg,tk,List.length_map,Int.toNat_natCast,List.size_toArray,List.length_cons,List.length_nil,ha',ha,hgy,q1,q2,q3,q4] | refine z01 (cd) ?_ | refine z00 (cd) ?_ | refine And.intro (by omega) ?_ | refine And.intro (fun d hd=>by (repeat (rcases hd with rfl | hd; · exact ⟨rfl,rfl⟩)); cases hd) ?_))
     refine ⟨⟨⟨by omega,by omega⟩,fun d hd=>by rcases hd with rfl | hd; exact ⟨rfl,rfl⟩; cases hd⟩,?_⟩
     refine ⟨b.length - (j + 1),by omega,j + 1,(out ++ [⟨#[101,110,100,101,100,32]⟩ ++ decS (j:Int)]),by omega,rfl,by rw [hs],?_,?_,?_,?_,?_,?_⟩ <;> (simp (maxSteps:=9^7) only [go_sem,Evt.a,nul,t0,t5,h5,t9,t10,t11,hw,em1,el1])
   | false =>
    cases q4:y.done with
    | true =>
     have hv:evX a[j]? j e = ([]:List ByteArray):=by rw [hy]; simp only [evX,q1,q2,q3,q4]; rfl
     rw [hv] at hs
     (repeat (first | simp (maxSteps:=9^7) only [go_sem,Evt.a,nul,t0,t5,h5,t9,t10,t11,hlt',hlt,hg,tk,List.length_map,Int.toNat_natCast,List.size_toArray,List.length_cons,List.length_nil,ha',ha,hgy,q1,q2,q3,q4] | refine z01 (cd) ?_ | refine z00 (cd) ?_ | refine And.intro (by omega) ?_ | refine And.intro (fun d hd=>by (repeat (rcases hd with rfl | hd; · exact ⟨rfl,rfl⟩)); cases hd) ?_))
     refine ⟨b.length - (j + 1),by omega,j + 1,out,by omega,rfl,by rw [hs,List.append_nil],?_,?_,?_,?_,?_,?_⟩ <;> (simp (maxSteps:=9^7) only [go_sem,Evt.a,nul,t0,t5,h5,t9,t10,t11,hw])
    | false =>
     have hv:evX a[j]? j e = ([]:List ByteArray):=by rw [hy]; simp only [evX,q1,q2,q3,q4]; rfl
     rw [hv] at hs
     (repeat (first | simp (maxSteps:=9^7) only [go_sem,Evt.a,nul,t0,t5,h5,t9,t10,t11,hlt',hlt,hg,tk,List.length_map,Int.toNat_natCast,List.size_toArray,List.length_cons,List.length_nil,ha',ha,hgy,q1,q2,q3,q4] | refine z01 (cd) ?_ | refine z00 (cd) ?_ | refine And.intro (by omega) ?_ | refine And.intro (fun d hd=>by (repeat (rcases hd with rfl | hd; · exact ⟨rfl,rfl⟩)); cases hd) ?_))
     refine ⟨b.length - (j + 1),by omega,j + 1,out,by omega,rfl,by rw [hs,List.append_nil],?_,?_,?_,?_,?_,?_⟩ <;> (simp (maxSteps:=9^7) only [go_sem,Evt.a,nul,t0,t5,h5,t9,t10,t11,hw])
end
section
open Go.RowKit Go.MapKept
theorem zge {P:Program} (w:World) (base:Nat) (t ty e:TypeId) (i:TypeInfo) (size:Nat) (ht:P.underlying t = some (.slice e)) (hi:P.info? e = some i)
  (v:Value) (n:Nat) (xs:List Value) (hown:w.ownsRow base e size v n xs) (p:Option Addr) (c:Nat) :
  (Builtin.append_ #[t,t] ty #[v,.slice p 0 c]).run P w = .ok v w:=by
 rcases hown.2 with ⟨rfl,rfl⟩ | ⟨g,cap,cur,rfl,_,_,hnc,_⟩
 ·cases p <;> simp [Builtin.append_,run_underlying ht,sizeOf,typeInfo,hi,Builtin.lenOf,Builtin.firstCells,storeCells,loadCells,loadCellsFrom]
 ·cases p <;> simp [Builtin.append_,run_underlying ht,sizeOf,typeInfo,hi,Builtin.lenOf,Builtin.firstCells,hnc,storeCells,loadCells,loadCellsFrom]
theorem z8j {P:Program} {w:World} {ops:Array Oper} {rest:List Oper} {o:Oper} {a:Act} {Q:Exit->Act->World->Prop} (hgd:o.guard = none) (s x:Operand) (t:TypeId)
  (ho:o.op = .call { callee:=.builtin .append,args:=#[s,x],argTypes:=#[t,t] })
  (base:Nat) (e:TypeId) (i:TypeInfo) (size:Nat) (ht:P.underlying t = some (.slice e)) (hi:P.info? e = some i)
  (v:Value) (n:Nat) (xs:List Value) (hs:a.eval s = v) (hown:w.ownsRow base e size v n xs)
  (p:Option Addr) (c:Nat) (hx:a.eval x = .slice p 0 c)
  (h:wpList P ops Q rest (a.put o.dst v) w):wpList P ops Q (o :: rest) a w :=
 wpList_plain hgd fun K hK=>by
  have hr:=zge w base t o.type e i size ht hi v n xs hown p c
  unfold Oper.wp execOp
  simp only [ho,resolve,invoke,builtin,Sem.run_bind,Sem.run_pure,Result.andThen_ok,List.map_toArray,List.map_cons,List.map_nil,hs,hx,hr]
  exact hK _ _ h
theorem infoStr:(Tryz.prog.info? 9).map (fun i=>(i.zero,i.size,i.bytes)) = some (some (.string ⟨#[]⟩),1,16):=by kernel_rfl
theorem zls (n:Nat) (hn:n≤1000000) (w:World):Calls Tryz.prog 38 #[.slice none 0 0,.int .i64 n] w fun e w'=>∃ v,e = .returned v∧Below w.heap.size w w'∧w'.ownsRow w.heap.size 9 1 v 0 []:=by
 obtain ⟨i0,hi,hz0,hz1,hz2⟩:=info_parts infoStr
 by_cases h0:n = 0
 ·subst h0
  refine (Any8.slices_Grow_room Tryz.growS none 0 0 0 w (by omega) (by omega) (by omega) (by omega)).mono ?_
  rintro e w' ⟨rfl,rfl⟩
  exact ⟨_,rfl,Below.refl _ _,World.ownsRow_nil _ _ _ _⟩
 ·refine (Any8.slices_Grow_grow Tryz.growS i0 _ hi hz0 (by omega) none 0 0 n [] w (by omega) (by omega) (by rw [hz2]; omega) (by omega) (by simp) (fun _=>rfl) (fun a h=>by cases h)).mono ?_
  rintro e w' ⟨rfl,rfl⟩
  refine ⟨_,rfl,((Below.refl _ w).drew).alloc (Nat.le_refl _) _,rfl,.inr ⟨_,_,_,rfl,Nat.le_refl _,(heap_alloc w.drew _).1,Nat.zero_le _,?_,?_,by simp⟩⟩
  ·have hmx:100000000≤maxLen:=by decide
   exact grownCap_le_maxLen _ _ _ _ (by omega)
  ·have hc:=grownCap_ge w (0 + n) 0 (Tryz.growS_ren.t 25)
   have e3:(Value.string ⟨#[]⟩).cells.size = 1:=rfl
   simp only [Array.size_append,size_zeroCells,e3,List.size_toArray,List.length_nil]
   omega
def RdS (w:World) (A:Value) (l:List ByteArray):Prop:=∃ (p:Option Addr) (c:Nat),A = .slice p l.length c∧(0 < l.length->∃ ad,p = some ad∧ad.block < w.heap.size∧∀ j x,l[j]? = some x->w.cell? (ad.add j) = some (.string x))
theorem RdS.below {w w':World} {A:Value} {l:List ByteArray} (h:RdS w A l) (hB:Below w.heap.size w w'):RdS w' A l:=by
 obtain ⟨p,c,e,h⟩:=h
 refine ⟨p,c,e,fun h0=>?_⟩
 obtain ⟨ad,e,hb,hc⟩:=h h0
 refine ⟨ad,e,Nat.lt_of_lt_of_le hb hB.size,fun j u hu=>?_⟩
 have hbl:(ad.add j).block = ad.block:=by unfold Addr.add; split <;> rfl
 exact (hB.cell (p:=ad.add j) (by rw [hbl]; exact hb)).trans (hc j u hu)
theorem RdS.of {Pr:Nat->Nat->Prop} {w:World} {A:Value} {l:List ByteArray} (h:VR Pr w (.sl (l.map .str)) A):RdS w A l:=by
 cases h with
 | sl _ A cap z u hcap hmax hA hh =>
  rw [List.length_map] at *
  refine ⟨A,cap,rfl,fun h0=>?_⟩
  obtain ⟨b,off,e,hL⟩:=hA h0
  refine ⟨_,e,hL.lt,fun j x hx=>?_⟩
  have hd:(l.map AV.str)[j]? = some (.str x):=by rw [List.getElem?_map,hx]; rfl
  have hz:z = 1:=(hL.len _ (List.mem_of_getElem? hd)).symm
  subst hz
  have hadd:(⟨b,off,none⟩:Addr).add j = ⟨b,off + j,none⟩:=by unfold Addr.add; split <;> simp_all
  rw [hadd]
  have hi:=(List.getElem?_eq_some_iff.1 hx).1
  have:=hh j (.str x) 0 _ hd rfl
  have hc:=(hL.at_ j 0 (by simpa using hi) (by omega)).2
  rw [Nat.mul_one,Nat.add_zero] at hc
  rw [hc,this.str_of]
theorem z4j {w:World} {ops:Array Oper} {rest:List Oper} {o:Oper} {a:Act} {Q:Exit->Act->World->Prop} (hgd:o.guard = none) (s x:Operand)
  (ho:o.op = .call { callee:=.builtin .append,args:=#[s,x],argTypes:=#[45,45] })
  (base:Nat) (v:Value) (n:Nat) (xs:List Value) (hs:a.eval s = v) (hown:w.ownsRow base 9 1 v n xs)
  (A:Value) (l:List ByteArray) (hA:RdS w A l) (hx:a.eval x = A) (hl:n + l.length≤1000000) (hbase:base≤w.heap.size)
  (h:∀ v' w',w'.ownsRow base 9 1 v' (n + l.length) (xs ++ l.map Value.string)->w.grownBy w' v.ownBlock->(∀ k,v'.ownBlock = some k->v.ownBlock = some k∨k = w.heap.size)->wpList Tryz.prog ops Q rest (a.put o.dst v') w') :
  wpList Tryz.prog ops Q (o :: rest) a w:=by
 obtain ⟨i0,hi,hz0,hz1,hz2⟩:=info_parts infoStr
 obtain ⟨p,c,rfl,hc⟩:=hA
 by_cases h0:0 < l.length
 ·obtain ⟨ad,rfl,hb,hc⟩:=hc h0
  have hmx:100000000≤maxLen:=by decide
  exact wpList_append_lies _ hgd s x _ ho base _ i0 _ 1 16 Tryz.underlying45 hi hz0 hz1 hz2 rfl (by decide) v n xs hs hown ad l.length c (l.map Value.string) hx (by simp) (fun j u hu=>by
   rw [List.getElem?_map] at hu
   obtain ⟨y,h3,rfl⟩:=Option.map_eq_some_iff.1 hu
   exact hc j y h3) (fun u hu=>by obtain ⟨y,_,rfl⟩:=List.mem_map.1 hu; rfl) h0 (by omega) (by omega) hbase _ rfl fun g cap w' h2 h3 h4 h5=>h _ w' h2 h3 fun k hk=>by
   cases hk
   exact h4
 ·have e0:l = []:=List.length_eq_zero_iff.1 (by omega)
  subst e0
  refine z8j hgd s x _ ho base _ i0 1 Tryz.underlying45 hi v n xs hs hown p c hx (h v w ?_ ⟨rfl,rfl,rfl,Nat.le_refl _,fun _ _ _=>rfl⟩ fun k hk=>.inl hk)
  simpa using hown
theorem zky {w:World} {base:Nat} {e:TypeId} {z:Nat} {v:Value} {n:Nat} {xs:List Value} (h:w.ownsRow base e z v n xs) (k:Nat) (hk:k < base):some k ≠ v.ownBlock:=by
 rcases h.2 with ⟨rfl,_⟩ | ⟨g,cap,cur,rfl,hb,_⟩
 ·exact fun e=>by cases e
 ·intro e
  cases e
  exact absurd hk (Nat.not_lt.2 hb)
theorem z5r {b:Nat} {w w1 w2:World} {r:Option Nat} (hB:Below b w w1) (hG:w1.grownBy w2 r) (hf:∀ k,k < b->some k ≠ r) (hb:b≤w1.heap.size):Below b w w2 :=
 hB.trans ⟨hG.os,hG.tape,hG.output,hG.size,fun k hk=>hG.block k (by omega) (hf k hk)⟩
set_option maxHeartbeats 4000000 in
theorem zfj (b off:Nat) (A B C:Value) (cap:Nat) (al bl cl:List ByteArray) (w:World) (hblt:b < w.heap.size) (b0:w.cell? ⟨b,off,none⟩ = some A) (b1:w.cell? ⟨b,off + 1,none⟩ = some B) (b2:w.cell? ⟨b,off + 2,none⟩ = some C) (hA:RdS w A al) (hB':RdS w B bl) (hC':RdS w C cl) (h1:al.length≤100000) (h2:bl.length≤100000) (h3:cl.length≤300000) :
  Calls Tryz.prog 16 #[.slice (some ⟨b,off,none⟩) 3 cap] w fun e w'=>∃ v,e = .returned v∧Below w.heap.size w w'∧w'.ownsRow w.heap.size 9 1 v (al.length + bl.length + cl.length) ((al ++ bl ++ cl).map Value.string):=by
 obtain ⟨pA,cA,eA,rA⟩:=id hA
 obtain ⟨pB,cB,eB,rB⟩:=id hB'
 obtain ⟨pC,cC,eC,rC⟩:=id hC'
 subst eA
 subst eB
 subst eC
 go_enter Tryz.func16,Tryz.ntmps16
 go_wp2
 refine wp_loop_rounds 4 ?_
 rw [rounds_succ]
 go_wp2
 rw [rounds_succ]
 go_wp2
 rw [rounds_succ]
 go_wp2
 rw [rounds_succ]
 have cg:∀ W:World,Calls Tryz.prog 38 #[.slice none 0 0,.int .i64 ((al.length:Int) + (bl.length:Int) + (cl.length:Int))] W fun e w'=>∃ v,e = .returned v∧Below W.heap.size W w'∧w'.ownsRow W.heap.size 9 1 v 0 []:=fun W=>by
  have:=zls (al.length + bl.length + cl.length) (by omega) W
  rwa [Int.natCast_add,Int.natCast_add] at this
 go_wp2_with (go_at_call 38; refine (cg _).mono ?_; rintro e w1 ⟨v1,rfl,hB1,hO1⟩)
 have hB:Below w.heap.size w w1:=hB1
 have c0:=(hB.cell (p:=⟨b,off,none⟩) hblt).trans b0
 have hA1:=hA.below hB
 have hn1:0 + al.length≤1000000:=by omega
 refine wp_loop_rounds 4 ?_
 rw [rounds_succ]
 go_wp2_with (at_builtin; (refine z4j rfl _ _ rfl w.heap.size v1 0 [] rfl hO1 _ al hA1 rfl hn1 hB.size ?_; intro v2 w2 hO2 hG2 hv2))
 have hBB:=z5r hB hG2 (zky hO1) hB.size
 have c1:=(hBB.cell (p:=⟨b,off + 1,none⟩) hblt).trans b1
 rw [rounds_succ]
 go_wp2_with (at_builtin; refine z4j rfl _ _ rfl w.heap.size v2 _ _ rfl hO2 _ bl (hB'.below hBB) rfl (by omega) hBB.size ?_; intro v3 w3 hO3 hG3 hv3)
 have hBC:=z5r hBB hG3 (zky hO2) hBB.size
 have c2:=(hBC.cell (p:=⟨b,off + 2,none⟩) hblt).trans b2
 rw [rounds_succ]
 go_wp2_with (at_builtin; refine z4j rfl _ _ rfl w.heap.size v3 _ _ rfl hO3 _ cl (hC'.below hBC) rfl (by omega) hBC.size ?_; intro v4 w4 hO4 hG4 hv4)
 have hBD:=z5r hBC hG4 (zky hO3) hBC.size
 rw [rounds_succ]
 go_wp2
 go_ret
 refine ⟨v4,rfl,hBD,?_⟩
 simpa [List.append_assoc,Nat.add_assoc] using hO4
end
end Go.Proofs.YtlhblpbfhfhlpaaGreatDoor
