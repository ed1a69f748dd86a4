/-
  'Rows.ReplayRunsSaid' is proved: the law percolatelaw40.ReplayRuns returns true at every input, and its arguments read as they did. No condition.
-/
import Derived.SizedLaws
import Derived.Test.YtolocaankfcjiaaRR18
set_option linter.unusedVariables false
set_option linter.unusedSimpArgs false
set_option maxRecDepth 100000
namespace Go.Proofs.Ytolocaankfcjiaa
section
/-
 Layer 9 on the plain machine: a map without some keys,behind an effect,behind a message: the code.
-/
open Go.RowKit
attribute [local go_sem ↓] z0s z0g
/-! ### percolate/model.Without -/
def r_mWo_0:List XOp:=[(.op [3] ⟨.box 3 66 (.t 1),some 3,none,[],[]⟩),(.op [4] ⟨.mknil 2 58,some 4,none,[],[]⟩)]
def r_mWo_1:List XOp:=[(.op [] ⟨.mv (.t 0),some 5,none,[],[]⟩),(.op [6] ⟨.callv (.c (.clo 37 [] [])) [(.t 5)],some 6,none,[],[]⟩),(.op [] ⟨.mkfn 80 [] [(.t 3)],some 7,none,[],[]⟩),(.wcall 8 (.c (.clo 79 [] [])) [(.t 6),(.t 7)]),(.op [] ⟨.mv (.t 8),some 4,none,[],[]⟩)]
def ir_mWo (P:Program):IR:=(.seq (.regx P r_mWo_0)
 (.seq (.regx P r_mWo_1)
 .ret))
def res_mWo:List RDesc:=[(.tmp 4)]
theorem fn_mWo {args:List AV} {r:AV} (ha:args.length.ble Try.f68.ntmps = true) (h:run (AFn Try.prog) (ir_mWo Try.prog) (endQ res_mWo r) (z0b args)):AFn Try.prog 68 args r :=
 AFn.of_code (pv:=false) (hint:=fun _=>[3,79]) (c:=Try.f68.body.getD .skip) (by kernel_rfl) (by kernel_rfl) Try.func68 (by kernel_rfl) (by kernel_rfl) (by kernel_rfl) (of_decide_eq_true (by kernel_rfl)) (Nat.le_of_ble_eq_true ha) (Nat.le_of_ble_eq_true (by kernel_rfl)) (z09 h)
/-! ### percolate/model.With -/
def r_mWi_0:Reg:=⟨[],[⟨.box 2 80 (.t 2),some 5,none,[6],[]⟩,⟨.mknil 2 58,some 6,none,[],[]⟩],[5,6],[],false⟩
def zo7:List ROp:=[⟨.mv (.t 0),some 14,none,[16],[]⟩,⟨.mv (.t 1),some 15,none,[16],[]⟩,⟨.callv (.c (.clo 65 [] [])) [(.t 14),(.t 15)],some 16,none,[],[]⟩,⟨.mv (.t 16),some 13,none,[],[]⟩,⟨.ext 0 (.t 13),some 17,none,[],[]⟩,⟨.ext 1 (.t 13),some 18,none,[],[]⟩,⟨.mv (.t 17),some 7,none,[],[]⟩,⟨.mv (.t 18),some 8,none,[],[]⟩]
def r_mWi_1:Reg:=⟨[],zo7,[16],[],false⟩
def r_mWi_2:Reg:=⟨[],[⟨.mv (.c (.str ⟨#[]⟩)),some 9,none,[],[]⟩],[],[],false⟩
def r_mWi_3:Reg:=⟨[],[⟨.mv (.t 8),some 19,none,[],[]⟩],[],[],false⟩
def zo6:List ROp:=[⟨.mv (.t 0),some 20,none,[],[]⟩,⟨.mv (.t 7),some 21,none,[],[]⟩,⟨.iaddr 2 (.t 20) (.t 21),some 22,none,[],[]⟩,⟨.faddr 1 (.t 22),some 23,none,[],[]⟩,⟨.load 1 false (.t 23),some 24,none,[],[]⟩,⟨.mv (.t 24),some 9,none,[],[]⟩]
def r_mWi_4:Reg:=⟨[],zo6,[],[],false⟩
def zo5:List ROp:=[⟨.mv (.t 0),some 25,none,[26],[]⟩,⟨.callv (.c (.clo 37 [] [])) [(.t 25)],some 26,none,[],[]⟩,⟨.mv (.t 26),some 10,none,[],[]⟩]
def r_mWi_5:Reg:=⟨[],zo5,[26],[],false⟩
def zo4:List ROp:=[⟨.load 2 true (.t 5),some 28,none,[31],[]⟩,⟨.mv (.t 8),some 29,none,[31],[]⟩,⟨.mv (.t 9),some 30,none,[31],[]⟩,⟨.callv (.c (.clo 81 [] [])) [(.t 28),(.t 29),(.t 30)],some 31,none,[],[]⟩,⟨.mv (.t 31),some 27,none,[],[]⟩,⟨.ext 0 (.t 27),some 32,none,[],[]⟩,⟨.ext 1 (.t 27),some 33,none,[],[]⟩,⟨.mv (.t 32),some 11,none,[],[]⟩,⟨.mv (.t 33),some 12,none,[],[]⟩]
def r_mWi_6:Reg:=⟨[],zo4,[31],[],false⟩
def zo3:List ROp:=[⟨.mv (.t 11),some 35,none,[],[]⟩,⟨.mv (.t 35),some 36,none,[],[]⟩,⟨.mv (.t 8),some 37,(some (36,true)),[],[]⟩,⟨.pick (.t 36) (.t 37) (.c (.bool false)),some 38,none,[],[]⟩,⟨.mv (.t 38),some 34,none,[],[]⟩]
def r_mWi_7:Reg:=⟨[],zo3,[],[],false⟩
def zo2:List ROp:=[⟨.mv (.t 10),some 39,none,[],[]⟩,⟨.mv (.t 7),some 40,none,[],[]⟩,⟨.mv (.t 12),some 41,none,[],[]⟩,⟨.iaddr 2 (.t 39) (.t 40),some 42,none,[],[]⟩,⟨.faddr 1 (.t 42),some 43,none,[],[]⟩,⟨.store 1 (.t 43) (.t 41),none,none,[],[]⟩]
def r_mWi_8:Reg:=⟨[],zo2,[],[],false⟩
def r_mWi_9:Reg:=⟨[],[⟨.mv (.t 11),some 45,none,[],[]⟩,⟨.mv (.t 45),some 44,none,[],[]⟩],[],[],false⟩
def zv9:List XOp:=[(.op [] ⟨.mv (.t 10),some 46,none,[],[]⟩),(.op [] ⟨.mv (.t 7),some 47,none,[],[]⟩),(.op [] ⟨.mv (.t 1),some 48,none,[],[]⟩),(.op [] ⟨.mv (.t 12),some 49,none,[],[]⟩),(.op [] ⟨.bld [(.str ⟨#[]⟩),(.str ⟨#[]⟩)] [⟨0,1,(.t 48)⟩,⟨1,1,(.t 49)⟩],some 50,none,[],[]⟩),(.op [51] ⟨.bsl 2 58 [(.t 50)],some 51,none,[],[]⟩),(.wcall 52 (.c (.clo 82 [] [])) [(.t 46),(.t 47),(.t 51)]),(.op [] ⟨.mv (.t 52),some 10,none,[],[]⟩)]
def zv8:Reg:=⟨[],[⟨.mv (.t 8),some 54,none,[],[]⟩,⟨.mv (.t 54),some 53,none,[],[]⟩],[],[],false⟩
def zv7:List XOp:=[(.op [] ⟨.mv (.t 10),some 55,none,[],[]⟩),(.op [] ⟨.mv (.t 7),some 56,none,[],[]⟩),(.op [] ⟨.mv (.t 7),some 57,none,[],[]⟩),(.op [] ⟨.bin .add (.t 57) (.c (.int .i64 1)),some 58,none,[],[]⟩),(.wcall 59 (.c (.clo 83 [] [])) [(.t 55),(.t 56),(.t 58)]),(.op [] ⟨.mv (.t 59),some 10,none,[],[]⟩)]
def zv6:Reg:=⟨[],[⟨.mv (.t 10),some 60,none,[],[]⟩,⟨.mv (.t 60),some 6,none,[],[]⟩],[],[],false⟩
def ir_mWi (P:Program):IR:=(.seq (.reg r_mWi_0)
 (.seq (.reg r_mWi_1)
 (.seq (.reg r_mWi_2)
 (.seq (.seq (.reg r_mWi_3)
 (.cond (.t 19) (.reg r_mWi_4)
 .skip))
 (.seq (.reg r_mWi_5)
 (.seq (.seq (.reg r_mWi_6)
 (.block 0 (.seq (.reg r_mWi_7)
 (.cond (.t 34) (.reg r_mWi_8)
 (.seq (.reg r_mWi_9)
 (.cond (.t 44) (.regx P zv9)
 (.seq (.reg zv8)
 (.cond (.t 53) (.regx P zv7)
 .skip))))))))
 (.seq (.reg zv6)
 .ret)))))))
def res_mWi:List RDesc:=[(.tmp 6)]
theorem e_mWi_0:EqR r_mWi_0 [⟨.box 2 80 (.t 2),some 5,none,[6],[]⟩,⟨.mknil 2 58,some 6,none,[],[]⟩] [5,6]:=fun _ _ _=>rfl
theorem e_mWi_1:EqR r_mWi_1 zo7 [16]:=fun _ _ _=>rfl
theorem e_mWi_2:EqR r_mWi_2 [⟨.mv (.c (.str ⟨#[]⟩)),some 9,none,[],[]⟩] []:=fun _ _ _=>rfl
theorem e_mWi_3:EqR r_mWi_3 [⟨.mv (.t 8),some 19,none,[],[]⟩] []:=fun _ _ _=>rfl
theorem e_mWi_4:EqR r_mWi_4 zo6 []:=fun _ _ _=>rfl
theorem e_mWi_5:EqR r_mWi_5 zo5 [26]:=fun _ _ _=>rfl
theorem e_mWi_6:EqR r_mWi_6 zo4 [31]:=fun _ _ _=>rfl
theorem e_mWi_7:EqR r_mWi_7 zo3 []:=fun _ _ _=>rfl
theorem e_mWi_8:EqR r_mWi_8 zo2 []:=fun _ _ _=>rfl
theorem e_mWi_9:EqR r_mWi_9 [⟨.mv (.t 11),some 45,none,[],[]⟩,⟨.mv (.t 45),some 44,none,[],[]⟩] []:=fun _ _ _=>rfl
theorem e_mWi_11:EqR zv8 [⟨.mv (.t 8),some 54,none,[],[]⟩,⟨.mv (.t 54),some 53,none,[],[]⟩] []:=fun _ _ _=>rfl
theorem e_mWi_13:EqR zv6 [⟨.mv (.t 10),some 60,none,[],[]⟩,⟨.mv (.t 60),some 6,none,[],[]⟩] []:=fun _ _ _=>rfl
theorem fn_mWi {args:List AV} {r:AV} (ha:args.length.ble Try.f70.ntmps = true) (h:run (AFn Try.prog) (ir_mWi Try.prog) (endQ res_mWi r) (z0b args)):AFn Try.prog 70 args r :=
 AFn.of_code (pv:=false) (hint:=fun i=>if [10,12].contains i then [1] else []) (c:=Try.f70.body.getD .skip) (by kernel_rfl) (by kernel_rfl) Try.func70 (by kernel_rfl) (by kernel_rfl) (by kernel_rfl) (of_decide_eq_true (by kernel_rfl)) (Nat.le_of_ble_eq_true ha) (Nat.le_of_ble_eq_true (by kernel_rfl)) (z09 h)
/-! ### percolate/model.Take -/
def r_mTk_0:Reg:=⟨[],[⟨.box 6 70 (.t 1),some 3,none,[4],[]⟩,⟨.mknil 2 58,some 4,none,[],[]⟩],[3,4],[],false⟩
def zoa:List ROp:=[⟨.faddr 1 (.t 3),some 5,none,[],[]⟩,⟨.load 1 false (.t 5),some 6,none,[],[]⟩,⟨.bin .eql (.t 6) (.c (.int .i64 4)),some 7,none,[],[]⟩]
def r_mTk_1:Reg:=⟨[],zoa,[],[],false⟩
def zo9:List ROp:=[⟨.mv (.t 0),some 8,none,[10,11],[]⟩,⟨.load 6 true (.t 3),some 9,none,[10,11],[]⟩,⟨.callv (.c (.clo 69 [] [])) [(.t 9)],some 10,none,[11],[]⟩,⟨.callv (.c (.clo 68 [] [])) [(.t 8),(.t 10)],some 11,none,[],[]⟩,⟨.mv (.t 11),some 4,none,[],[]⟩]
def r_mTk_2:Reg:=⟨[],zo9,[10,11],[],false⟩
def zo8:List ROp:=[⟨.callv (.c (.clo 70 [] [])) [(.t 12),(.t 14),(.t 18)],some 19,none,[],[]⟩,⟨.mv (.t 19),some 4,none,[],[]⟩]
def zqn:List ROp:=[⟨.mv (.t 0),some 12,none,[18,19],[]⟩,⟨.faddr 2 (.t 3),some 13,none,[18,19],[]⟩,⟨.load 1 false (.t 13),some 14,none,[18,19],[]⟩,⟨.load 6 true (.t 3),some 15,none,[18,19],[]⟩,⟨.faddr 2 (.t 3),some 16,none,[18,19],[]⟩,⟨.load 1 false (.t 16),some 17,none,[18,19],[]⟩,⟨.callv (.c (.clo 71 [] [])) [(.t 15),(.t 17)],some 18,none,[19],[]⟩]
def r_mTk_3:Reg:=⟨zqn,zo8,[18,19],[],true⟩
def ir_mTk:IR:=(.seq (.reg r_mTk_0)
 (.seq (.seq (.reg r_mTk_1)
 (.cond (.t 7) (.seq (.reg r_mTk_2)
 .ret)
 .skip))
 (.seq (.reg r_mTk_3)
 .ret)))
def res_mTk:List RDesc:=[(.tmp 4)]
theorem e_mTk_0:EqR r_mTk_0 [⟨.box 6 70 (.t 1),some 3,none,[4],[]⟩,⟨.mknil 2 58,some 4,none,[],[]⟩] [3,4]:=fun _ _ _=>rfl
theorem e_mTk_1:EqR r_mTk_1 zoa []:=fun _ _ _=>rfl
theorem e_mTk_2:EqR r_mTk_2 zo9 [10,11]:=fun _ _ _=>rfl
theorem e_mTk_3 (C:FuncId->List AV->AV->Prop) (σ:St) (K:St->Prop):z0l C r_mTk_3 σ K = z0a C [] zo8 zqn (σ.kills [18,19]) K:=rfl
theorem fn_mTk {args:List AV} {r:AV} (ha:args.length.ble Try.f51.ntmps = true) (h:run (AFn Try.prog) ir_mTk (endQ res_mTk r) (z0b args)):AFn Try.prog 51 args r :=
 AFn.of_code (pv:=false) (hint:=fun _=>[]) (c:=Try.f51.body.getD .skip) (by kernel_rfl) (by kernel_rfl) Try.func51 (by kernel_rfl) (by kernel_rfl) (by kernel_rfl) (of_decide_eq_true (by kernel_rfl)) (Nat.le_of_ble_eq_true ha) (Nat.le_of_ble_eq_true (by kernel_rfl)) (z09 h)
attribute [local go_sem ↓] ir_mWo
attribute [local go_sem] res_mWo r_mWo_0 r_mWo_1
attribute [local go_sem ↓] ir_mWi
attribute [local go_sem] res_mWi e_mWi_0 e_mWi_1 zo7 e_mWi_2 e_mWi_3 e_mWi_4 zo6 e_mWi_5 zo5 e_mWi_6 zo4 e_mWi_7 zo3 e_mWi_8 zo2 e_mWi_9 e_mWi_11 e_mWi_13 zv9 zv7
attribute [local go_sem ↓] ir_mTk
attribute [local go_sem] res_mTk e_mTk_0 e_mTk_1 zoa e_mTk_2 zo9 e_mTk_3 zo8 zqn
theorem zq4 {P:Program} {f:FuncId} {args:List AV} {T:Nat->AV} {H:Nat->Option Arr} {d:Nat} {R:St->(St->Prop)->Prop} {K:St->Prop} {r:AV} (h:∃ H',MFn P f args H r H') (k:∀ H',R ⟨upd T d r,H'⟩ K):z4o P f args T H d R K:=by
 obtain ⟨H',h⟩:=h
 exact ⟨r,H',h,k H'⟩
theorem mWo_ok (l:List Par) (s:Spn) (hl:l.length≤1000000):AFn Try.prog 68 [.sl (l.map Par.a),s.a] (.sl ((outL l s).map Par.a)):=by
 refine fn_mWo rfl ?_
 have c1:=zy3 l hl
 (repeat (first | simp (maxSteps:=9^7) only [go_sem,↓reduceIte,reduceCtorEq,Nat.reduceEqDiff,Nat.reduceBEq,Nat.reduceAdd,Nat.reduceSub,Nat.reduceMul,Nat.reduceLT,Nat.reduceLeDiff,Nat.reduceBNe,Int.reduceBEq,Int.reduceBNe,Int.reduceLT,Int.reduceLE,evW,Par.a,nul,Spn.a,Eff.a,Msg.a,List.length_map] | refine z01 (c1) ?_ | refine z00 (c1) ?_ | refine And.intro (by omega) ?_ | refine And.intro (fun d hd=>by (repeat (rcases hd with rfl | hd; · exact ⟨rfl,rfl⟩)); cases hd) ?_))
 refine zq4 (dF_ok s _ 6 l hl ?_) fun H'=>?_
 ·simp (maxSteps:=9^7) only [go_sem,↓reduceIte,reduceCtorEq,Nat.reduceEqDiff,Nat.reduceBEq,Nat.reduceAdd,Nat.reduceSub,Nat.reduceMul,Nat.reduceLT,Nat.reduceLeDiff,Nat.reduceBNe,Int.reduceBEq,Int.reduceBNe,Int.reduceLT,Int.reduceLE,evW,Par.a,nul,Spn.a,Eff.a,Msg.a]
  rfl
 have e:z6m s l = outL l s:=rfl
 rw [e]
 simp (maxSteps:=9^7) only [go_sem,↓reduceIte,reduceCtorEq,Nat.reduceEqDiff,Nat.reduceBEq,Nat.reduceAdd,Nat.reduceSub,Nat.reduceMul,Nat.reduceLT,Nat.reduceLeDiff,Nat.reduceBNe,Int.reduceBEq,Int.reduceBNe,Int.reduceLT,Int.reduceLE,evW,Par.a,nul,Spn.a,Eff.a,Msg.a]
/-- what stands at a key's place -/
theorem has_at {l:List Par} {k:ByteArray} (h:hasK l k = true):∃ x,l[lowN l k]? = some x∧x.key = k∧valK l k = x.val:=by
 unfold valK
 unfold hasK at h ⊢
 cases hx:l[lowN l k]? with
 | none=>rw [hx] at h; cases h
 | some x =>
  rw [hx] at h
  refine ⟨x,rfl,?_,?_⟩
  ·have:=eq_of_beq h
   simp only [ByteArray.toList_eq] at this
   cases hk:x.key; cases k
   rw [hk] at this
   simp at this
   simp [this]
  ·simp only [h,if_true]
theorem withF_eq {l:List Par} {k:ByteArray} {e:Eff} (ho:KOrd l):z4r l k e = l.take (lowN l k) ++ midL l k e ++ l.drop (lowN l k + if hasK l k then 1 else 0):=by
 unfold z4r
 rw [zlr ho,zrx ho]
set_option maxHeartbeats 8000000 in
theorem mWi_ok (l:List Par) (k:ByteArray) (e:Eff) (ho:KOrd l) (hl:l.length≤100000) (hv:(valK l k).size + e.val.size≤1000000000):AFn Try.prog 70 [.sl (l.map Par.a),.str k,e.a] (.sl ((z4r l k e).map Par.a)):=by
 refine fn_mWi rfl ?_
 have c1:=mFnd_ok l k ho (by omega)
 have c2:=zy3 l (by omega)
 have c3:=eAp_ok e (hasK l k) (valK l k) hv
 have hW:=withF_eq (k:=k) (e:=e) ho
 have hlow:=lowN_le l k
 have hmid:midL l k e = if (z4e e (hasK l k) (valK l k)).1 then [⟨k,(z4e e (hasK l k) (valK l k)).2⟩] else []:=rfl
 simp only [Eff.a] at c3
 obtain ⟨i,hi⟩:∃ i,lowN l k = i:=⟨_,rfl⟩
 rw [hi] at c1 hW hlow
 have z0:(0:Int)≤(i:Int):=Int.natCast_nonneg _
 have wi:IntKind.i64.wrap ((i:Int) + 1) = ((i + 1:Nat):Int):=by rw [z0t (by omega)]; rfl
 cases hh:hasK l k with
 | true =>
  obtain ⟨x,hx,hxk,hxv⟩:=has_at hh
  rw [hi] at hx
  have hil:=(List.getElem?_eq_some_iff.1 hx).1
  have hil':(i:Int) < (l.length:Int):=by omega
  have hge:=atS (f:=Par.a) hx
  simp only [Par.a] at hge
  rw [hh,hxv] at c3 hmid
  rw [hh] at c1 hW
  generalize z4e e true x.val = A at *
  obtain ⟨a1,a2⟩:=A
  cases a1 with
  | true =>
   have e1:z4r l k e = l.set i ⟨k,a2⟩:=by
    rw [hW,hmid,List.set_eq_take_append_cons_drop,if_pos hil]
    simp
   have hset:(l.map Par.a).set i (Par.a ⟨x.key,a2⟩) = (l.set i ⟨k,a2⟩).map Par.a:=by rw [hxk]; exact List.map_set.symm
   simp only [Par.a] at hset
   have tkl:List.take l.length ((l.set i ⟨k,a2⟩).map Par.a) = (l.set i ⟨k,a2⟩).map Par.a:=List.take_of_length_le (by simp)
   rw [e1]
   (repeat (first | simp (maxSteps:=9^7) only [go_sem,↓reduceIte,reduceCtorEq,Nat.reduceEqDiff,Nat.reduceBEq,Nat.reduceAdd,Nat.reduceSub,Nat.reduceMul,Nat.reduceLT,Nat.reduceLeDiff,Nat.reduceBNe,Int.reduceBEq,Int.reduceBNe,Int.reduceLT,Int.reduceLE,evW,Par.a,nul,Spn.a,Eff.a,Msg.a,List.length_map,z0,hge,hil,hil',hset,tkl,Int.toNat_natCast] | refine z01 (c1) ?_ | refine z00 (c1) ?_ | refine z01 (c2) ?_ | refine z00 (c2) ?_ | refine z01 (c3) ?_ | refine z00 (c3) ?_ | refine And.intro (by omega) ?_ | refine And.intro (fun d hd=>by (repeat (rcases hd with rfl | hd; · exact ⟨rfl,rfl⟩)); cases hd) ?_))
   trace_state
  | false =>
   have e1:z4r l k e = l.take i ++ l.drop (i + 1):=by rw [hW,hmid]; simp
   rw [e1]
   (repeat (first | simp (maxSteps:=9^7) only [go_sem,↓reduceIte,reduceCtorEq,Nat.reduceEqDiff,Nat.reduceBEq,Nat.reduceAdd,Nat.reduceSub,Nat.reduceMul,Nat.reduceLT,Nat.reduceLeDiff,Nat.reduceBNe,Int.reduceBEq,Int.reduceBNe,Int.reduceLT,Int.reduceLE,evW,Par.a,nul,Spn.a,Eff.a,Msg.a,List.length_map,z0,hge,hil,hil',wi,Int.toNat_natCast] | refine z01 (c1) ?_ | refine z00 (c1) ?_ | refine z01 (c2) ?_ | refine z00 (c2) ?_ | refine z01 (c3) ?_ | refine z00 (c3) ?_ | refine And.intro (by omega) ?_ | refine And.intro (fun d hd=>by (repeat (rcases hd with rfl | hd; · exact ⟨rfl,rfl⟩)); cases hd) ?_))
   refine z17 (delP_ok _ 26 i l hil ?_) ?_
   ·simp (maxSteps:=9^7) only [go_sem,↓reduceIte,reduceCtorEq,Nat.reduceEqDiff,Nat.reduceBEq,Nat.reduceAdd,Nat.reduceSub,Nat.reduceMul,Nat.reduceLT,Nat.reduceLeDiff,Nat.reduceBNe,Int.reduceBEq,Int.reduceBNe,Int.reduceLT,Int.reduceLE,evW,Par.a,nul,Spn.a,Eff.a,Msg.a]
    rfl
   simp (maxSteps:=9^7) only [go_sem,↓reduceIte,reduceCtorEq,Nat.reduceEqDiff,Nat.reduceBEq,Nat.reduceAdd,Nat.reduceSub,Nat.reduceMul,Nat.reduceLT,Nat.reduceLeDiff,Nat.reduceBNe,Int.reduceBEq,Int.reduceBNe,Int.reduceLT,Int.reduceLE,evW,Par.a,nul,Spn.a,Eff.a,Msg.a]
 | false =>
  have hvk:valK l k = nul:=by unfold valK; rw [hh]; rfl
  rw [hh,hvk] at c3 hmid
  rw [hh] at c1 hW
  generalize z4e e false nul = A at *
  obtain ⟨a1,a2⟩:=A
  cases a1 with
  | true =>
   have e1:z4r l k e = l.take i ++ ⟨k,a2⟩ :: l.drop i:=by rw [hW,hmid]; simp
   rw [e1]
   simp only [nul] at c3
   (repeat (first | simp (maxSteps:=9^7) only [go_sem,↓reduceIte,reduceCtorEq,Nat.reduceEqDiff,Nat.reduceBEq,Nat.reduceAdd,Nat.reduceSub,Nat.reduceMul,Nat.reduceLT,Nat.reduceLeDiff,Nat.reduceBNe,Int.reduceBEq,Int.reduceBNe,Int.reduceLT,Int.reduceLE,evW,Par.a,nul,Spn.a,Eff.a,Msg.a,List.length_map,z0] | refine z01 (c1) ?_ | refine z00 (c1) ?_ | refine z01 (c2) ?_ | refine z00 (c2) ?_ | refine z01 (c3) ?_ | refine z00 (c3) ?_ | refine And.intro (by omega) ?_ | refine And.intro (fun d hd=>by (repeat (rcases hd with rfl | hd; · exact ⟨rfl,rfl⟩)); cases hd) ?_))
   refine z17 (insP_ok _ 26 51 i l ⟨k,a2⟩ hlow (by omega) ?_ ?_ (by decide)) ?_
   ·simp (maxSteps:=9^7) only [go_sem,↓reduceIte,reduceCtorEq,Nat.reduceEqDiff,Nat.reduceBEq,Nat.reduceAdd,Nat.reduceSub,Nat.reduceMul,Nat.reduceLT,Nat.reduceLeDiff,Nat.reduceBNe,Int.reduceBEq,Int.reduceBNe,Int.reduceLT,Int.reduceLE,evW,Par.a,nul,Spn.a,Eff.a,Msg.a]
    rfl
   ·simp (maxSteps:=9^7) only [go_sem,↓reduceIte,reduceCtorEq,Nat.reduceEqDiff,Nat.reduceBEq,Nat.reduceAdd,Nat.reduceSub,Nat.reduceMul,Nat.reduceLT,Nat.reduceLeDiff,Nat.reduceBNe,Int.reduceBEq,Int.reduceBNe,Int.reduceLT,Int.reduceLE,evW,Par.a,nul,Spn.a,Eff.a,Msg.a]
    rfl
   simp (maxSteps:=9^7) only [go_sem,↓reduceIte,reduceCtorEq,Nat.reduceEqDiff,Nat.reduceBEq,Nat.reduceAdd,Nat.reduceSub,Nat.reduceMul,Nat.reduceLT,Nat.reduceLeDiff,Nat.reduceBNe,Int.reduceBEq,Int.reduceBNe,Int.reduceLT,Int.reduceLE,evW,Par.a,nul,Spn.a,Eff.a,Msg.a]
  | false =>
   have e1:z4r l k e = l:=by rw [hW,hmid]; simp
   rw [e1]
   simp only [nul] at c3
   have tkl:List.take l.length (l.map Par.a) = l.map Par.a:=List.take_of_length_le (by simp)
   (repeat (first | simp (maxSteps:=9^7) only [go_sem,↓reduceIte,reduceCtorEq,Nat.reduceEqDiff,Nat.reduceBEq,Nat.reduceAdd,Nat.reduceSub,Nat.reduceMul,Nat.reduceLT,Nat.reduceLeDiff,Nat.reduceBNe,Int.reduceBEq,Int.reduceBNe,Int.reduceLT,Int.reduceLE,evW,Par.a,nul,Spn.a,Eff.a,Msg.a,List.length_map,z0,tkl] | refine z01 (c1) ?_ | refine z00 (c1) ?_ | refine z01 (c2) ?_ | refine z00 (c2) ?_ | refine z01 (c3) ?_ | refine z00 (c3) ?_ | refine And.intro (by omega) ?_ | refine And.intro (fun d hd=>by (repeat (rcases hd with rfl | hd; · exact ⟨rfl,rfl⟩)); cases hd) ?_))
theorem on_size2 (m:Msg) (k:ByteArray) (h:m.val.size≤1000000):(m.on k).val.size≤1000000:=by
 unfold Msg.on
 repeat' split
 all_goals first | exact h | exact Nat.zero_le _
set_option maxHeartbeats 8000000 in
theorem mTk_ok (l:List Par) (m:Msg) (ho:KOrd l) (hl:l.length≤100000) (h1:m.key.size≤1000000) (h3:m.val.size≤1000000) (hf:FewP 1000000 l):AFn Try.prog 51 [.sl (l.map Par.a),m.a] (.sl ((z4u l m).map Par.a)):=by
 refine fn_mTk rfl ?_
 have hv:(valK l m.key).size + (m.on m.key).val.size≤1000000000:=by
  have:=zi7 (k:=m.key) hf
  have:=on_size2 m m.key h3
  omega
 have c1:=zq2 m (by omega)
 have c2:=mWo_ok l m.span (by omega)
 have c3:=msgOn m m.key (by omega)
 have c4:=mWi_ok l m.key (m.on m.key) ho hl hv
 unfold z4u
 simp only [Msg.a,Spn.a,Eff.a] at c1 c2 c3 c4
 cases hk:(m.kind == 4) with
 | true =>
  have hk':m.kind = 4:=by simpa using hk
  rw [if_pos hk']
  (repeat (first | simp (maxSteps:=9^7) only [go_sem,↓reduceIte,reduceCtorEq,Nat.reduceEqDiff,Nat.reduceBEq,Nat.reduceAdd,Nat.reduceSub,Nat.reduceMul,Nat.reduceLT,Nat.reduceLeDiff,Nat.reduceBNe,Int.reduceBEq,Int.reduceBNe,Int.reduceLT,Int.reduceLE,evW,Par.a,nul,Spn.a,Eff.a,Msg.a,hk] | refine z01 (c1) ?_ | refine z00 (c1) ?_ | refine z01 (c2) ?_ | refine z00 (c2) ?_ | refine And.intro (by omega) ?_ | refine And.intro (fun d hd=>by (repeat (rcases hd with rfl | hd; · exact ⟨rfl,rfl⟩)); cases hd) ?_))
 | false =>
  have hk':¬ m.kind = 4:=by simpa using hk
  rw [if_neg hk']
  (repeat (first | simp (maxSteps:=9^7) only [go_sem,↓reduceIte,reduceCtorEq,Nat.reduceEqDiff,Nat.reduceBEq,Nat.reduceAdd,Nat.reduceSub,Nat.reduceMul,Nat.reduceLT,Nat.reduceLeDiff,Nat.reduceBNe,Int.reduceBEq,Int.reduceBNe,Int.reduceLT,Int.reduceLE,evW,Par.a,nul,Spn.a,Eff.a,Msg.a,hk] | refine z01 (c3) ?_ | refine z00 (c3) ?_ | refine z01 (c4) ?_ | refine z00 (c4) ?_ | refine And.intro (by omega) ?_ | refine And.intro (fun d hd=>by (repeat (rcases hd with rfl | hd; · exact ⟨rfl,rfl⟩)); cases hd) ?_))
end
section
/-
 The law of replays: at what came in.
-/
open Go.RowKit
attribute [local go_sem ↓] z0s z0g
/-! ### percolate/percolatelaw40.awake -/
def zwy:Reg:=⟨[],[⟨.mv (.c (.bool false)),some 0,none,[],[]⟩],[],[],false⟩
def zh7:List ROp:=[⟨.bld [(.int .i64 0),(.str ⟨#[]⟩),(.str ⟨#[]⟩),(.bool false),(.str ⟨#[]⟩),(.int .i64 0)] [⟨0,1,(.c (.int .i64 1))⟩,⟨1,1,(.c (.str ⟨#[97]⟩))⟩,⟨4,1,(.c (.str ⟨#[49]⟩))⟩],some 7,none,[1],[]⟩,⟨.bld [(.int .i64 0),(.int .i64 0),(.str ⟨#[]⟩),(.str ⟨#[]⟩),(.bool false),(.str ⟨#[]⟩),(.int .i64 0),(.int .i64 0),(.bool false),(.str ⟨#[]⟩),(.sl []),(.int .i64 0),(.int .i64 0),(.int .i64 0),(.bool false)] [⟨1,6,(.t 7)⟩,⟨11,1,(.c (.int .i64 1))⟩,⟨12,1,(.c (.int .i64 5))⟩,⟨13,1,(.c (.int .i64 9))⟩,⟨14,1,(.c (.bool true))⟩],some 8,none,[1],[]⟩,⟨.alloc 15 32 (.agg [(.int .i64 0),(.int .i64 0),(.str ⟨#[]⟩),(.str ⟨#[]⟩),(.bool false),(.str ⟨#[]⟩),(.int .i64 0),(.int .i64 0),(.bool false),(.str ⟨#[]⟩),(.sl []),(.int .i64 0),(.int .i64 0),(.int .i64 0),(.bool false)]),some 1,none,[],[]⟩,⟨.store 15 (.t 1) (.t 8),none,none,[],[]⟩]
def zwx:Reg:=⟨[],zh7,[1],[],false⟩
def zh6:List ROp:=[⟨.bld [(.int .i64 0),(.str ⟨#[]⟩),(.str ⟨#[]⟩),(.bool false),(.str ⟨#[]⟩),(.int .i64 0)] [⟨0,1,(.c (.int .i64 5))⟩,⟨1,1,(.c (.str ⟨#[97]⟩))⟩],some 9,none,[2],[]⟩,⟨.bld [(.int .i64 0),(.bool false),(.str ⟨#[]⟩),(.sl [])] [⟨1,1,(.c (.bool true))⟩,⟨2,1,(.c (.str ⟨#[49]⟩))⟩],some 10,none,[2],[]⟩,⟨.bld [(.int .i64 0),(.int .i64 0),(.str ⟨#[]⟩),(.str ⟨#[]⟩),(.bool false),(.str ⟨#[]⟩),(.int .i64 0),(.int .i64 0),(.bool false),(.str ⟨#[]⟩),(.sl []),(.int .i64 0),(.int .i64 0),(.int .i64 0),(.bool false)] [⟨1,6,(.t 9)⟩,⟨7,4,(.t 10)⟩,⟨11,1,(.c (.int .i64 2))⟩,⟨12,1,(.c (.int .i64 6))⟩,⟨13,1,(.c (.int .i64 9))⟩,⟨14,1,(.c (.bool true))⟩],some 11,none,[2],[]⟩,⟨.alloc 15 32 (.agg [(.int .i64 0),(.int .i64 0),(.str ⟨#[]⟩),(.str ⟨#[]⟩),(.bool false),(.str ⟨#[]⟩),(.int .i64 0),(.int .i64 0),(.bool false),(.str ⟨#[]⟩),(.sl []),(.int .i64 0),(.int .i64 0),(.int .i64 0),(.bool false)]),some 2,none,[],[]⟩,⟨.store 15 (.t 2) (.t 11),none,none,[],[]⟩]
def zww:Reg:=⟨[],zh6,[2],[],false⟩
def zh5:List ROp:=[⟨.load 15 true (.t 1),some 13,none,[15,16],[]⟩,⟨.load 15 true (.t 2),some 14,none,[15,16],[]⟩,⟨.bsl 15 32 [(.t 13),(.t 14)],some 15,none,[16],[]⟩,⟨.callv (.c (.clo 24 [] [])) [(.t 15)],some 16,none,[],[]⟩,⟨.mv (.t 16),some 12,none,[],[]⟩,⟨.ext 0 (.t 12),some 17,none,[],[]⟩,⟨.ext 1 (.t 12),some 18,none,[],[]⟩,⟨.mv (.t 17),some 3,none,[],[]⟩,⟨.mv (.t 18),some 4,none,[],[]⟩]
def zwv:Reg:=⟨[],zh5,[15,16],[],false⟩
def zwu:Reg:=⟨[],[⟨.faddr 12 (.t 2),some 19,none,[],[]⟩,⟨.store 1 (.t 19) (.c (.int .i64 4)),none,none,[],[]⟩],[],[],false⟩
def zh4:List ROp:=[⟨.load 15 true (.t 1),some 21,none,[23,24],[]⟩,⟨.load 15 true (.t 2),some 22,none,[23,24],[]⟩,⟨.bsl 15 32 [(.t 21),(.t 22)],some 23,none,[24],[]⟩,⟨.callv (.c (.clo 24 [] [])) [(.t 23)],some 24,none,[],[]⟩,⟨.mv (.t 24),some 20,none,[],[]⟩,⟨.ext 0 (.t 20),some 25,none,[],[]⟩,⟨.ext 1 (.t 20),some 26,none,[],[]⟩,⟨.mv (.t 25),some 5,none,[],[]⟩,⟨.mv (.t 26),some 6,none,[],[]⟩]
def zwt:Reg:=⟨[],zh4,[23,24],[],false⟩
def zh3:List ROp:=[⟨.mv (.t 4),some 27,none,[35,36],[]⟩,⟨.mv (.t 27),some 28,none,[35,36],[]⟩,⟨.mv (.t 6),some 29,(some (28,true)),[35,36],[]⟩,⟨.un .not (.t 29),some 30,(some (28,true)),[35,36],[]⟩,⟨.pick (.t 28) (.t 30) (.c (.bool false)),some 31,none,[35,36],[]⟩,⟨.mv (.t 31),some 32,none,[35,36],[]⟩,⟨.load 15 true (.t 1),some 33,(some (32,true)),[35,36],[]⟩,⟨.load 15 true (.t 2),some 34,(some (32,true)),[35,36],[]⟩,⟨.bsl 15 32 [(.t 33),(.t 34)],some 35,(some (32,true)),[36],[]⟩,⟨.callv (.c (.clo 25 [] [])) [(.t 35)],some 36,(some (32,true)),[],[]⟩,⟨.pick (.t 32) (.t 36) (.c (.bool false)),some 37,none,[],[]⟩,⟨.mv (.t 37),some 0,none,[],[]⟩]
def zws:Reg:=⟨[],zh3,[35,36],[],false⟩
def ir_aw40:IR:=(.seq (.reg zwy)
 (.seq (.reg zwx)
 (.seq (.reg zww)
 (.seq (.reg zwv)
 (.seq (.reg zwu)
 (.seq (.reg zwt)
 (.seq (.reg zws)
 .ret)))))))
def zsq:List RDesc:=[(.tmp 0)]
theorem e_aw40_0:EqR zwy [⟨.mv (.c (.bool false)),some 0,none,[],[]⟩] []:=fun _ _ _=>rfl
theorem e_aw40_1:EqR zwx zh7 [1]:=fun _ _ _=>rfl
theorem e_aw40_2:EqR zww zh6 [2]:=fun _ _ _=>rfl
theorem e_aw40_3:EqR zwv zh5 [15,16]:=fun _ _ _=>rfl
theorem e_aw40_4:EqR zwu [⟨.faddr 12 (.t 2),some 19,none,[],[]⟩,⟨.store 1 (.t 19) (.c (.int .i64 4)),none,none,[],[]⟩] []:=fun _ _ _=>rfl
theorem e_aw40_5:EqR zwt zh4 [23,24]:=fun _ _ _=>rfl
theorem e_aw40_6:EqR zws zh3 [35,36]:=fun _ _ _=>rfl
theorem fn_aw40 {args:List AV} {r:AV} (ha:args.length.ble Try.f20.ntmps = true) (h:run (AFn Try.prog) ir_aw40 (endQ zsq r) (z0b args)):AFn Try.prog 20 args r :=
 AFn.of_code (pv:=false) (hint:=fun _=>[]) (c:=Try.f20.body.getD .skip) (by kernel_rfl) (by kernel_rfl) Try.func20 (by kernel_rfl) (by kernel_rfl) (by kernel_rfl) (of_decide_eq_true (by kernel_rfl)) (Nat.le_of_ble_eq_true ha) (Nat.le_of_ble_eq_true (by kernel_rfl)) (z09 h)
attribute [local go_sem ↓] ir_aw40
attribute [local go_sem] zsq e_aw40_0 e_aw40_1 zh7 e_aw40_2 zh6 e_aw40_3 zh5 e_aw40_4 e_aw40_5 zh4 e_aw40_6 zh3
theorem doAll:DoAll:=fun m o hM h1 h2 h3=>aDo_of m o (mTk_ok m o.msg hM.ord hM.len h1 h3 hM.few) hM.ord hM.len h1 h2
def zd7:Evt:=⟨0,⟨1,⟨#[97]⟩,nul,false,⟨#[49]⟩,0⟩,⟨0,false,nul,[]⟩,1,5,9,true⟩
def zdb (p:Int):Evt:=⟨0,⟨5,⟨#[97]⟩,nul,false,nul,0⟩,⟨0,true,⟨#[49]⟩,[]⟩,2,p,9,true⟩
theorem few_aw (p:Int):∀ e,e ∈ [zd7,zdb p]->EvFew e:=fun e he=>by
 rcases List.mem_cons.1 he with h | h
 ·subst h; exact ⟨by decide,by decide,by decide,by decide⟩
 ·rw [List.mem_singleton.1 h]; exact ⟨by show 1≤1000000; decide,by show 0≤1000000; decide,by show 0≤1000000; decide,by show 0≤1000000; decide⟩
set_option maxHeartbeats 4000000 in
theorem aw40_ok:AFn Try.prog 20 [] (.bool true):=by
 refine fn_aw40 rfl ?_
 have c1:=hRn_of doAll [zd7,zdb 6] (by decide) (few_aw 6)
 have c2:=hRn_of doAll [zd7,zdb 4] (by decide) (few_aw 4)
 have c3:=hAp_ok [zd7,zdb 4] (by decide)
 rw [show (runF [] (ptsF [zd7,zdb 6])).2 = true by decide +kernel] at c1
 rw [show (runF [] (ptsF [zd7,zdb 4])).2 = false by decide +kernel] at c2
 rw [show apGo [] (ptsF [zd7,zdb 4]) = true by decide +kernel] at c3
 generalize (runF [] (ptsF [zd7,zdb 6])).1 = m1 at *
 generalize (runF [] (ptsF [zd7,zdb 4])).1 = m2 at *
 simp only [zd7,zdb,List.map_cons,List.map_nil,Evt.a,Opr.a,Ans.a,nul] at c1 c2 c3
 (repeat (first | simp (maxSteps:=9^7) only [go_sem,↓reduceIte,reduceCtorEq,Nat.reduceEqDiff,Nat.reduceBEq,Nat.reduceAdd,Nat.reduceSub,Nat.reduceMul,Nat.reduceLT,Nat.reduceLeDiff,Nat.reduceBNe,Int.reduceBEq,Int.reduceBNe,Int.reduceLT,Int.reduceLE,Par.a,Opr.a,Ans.a,nul] | refine z01 (c1) ?_ | refine z00 (c1) ?_ | refine z01 (c2) ?_ | refine z00 (c2) ?_ | refine z01 (c3) ?_ | refine z00 (c3) ?_ | refine And.intro (by omega) ?_ | refine And.intro (fun d hd=>by (repeat (rcases hd with rfl | hd; · exact ⟨rfl,rfl⟩)); cases hd) ?_))
theorem law40_ok (l:List Evt) (hs:∀ x,x ∈ l->x.ok) (hl:l.length≤281474976710656):AFn Try.prog 4 [.sl (l.map Evt.a)] (.bool true) :=
 law40_of doAll aw40_ok l hs hl few40
theorem readsOne40 {w:World} {T:Ty} {v:Value} {ds:List AV} (h:z7e w T [v] ds):∃ d,ds = [d]∧VR (fun b _=>b < w.heap.size) w d v:=by
 obtain ⟨h1,h2,h3⟩:=h
 match ds,h2 with
 | [d],_=>exact ⟨d,rfl,h3 0 d v rfl rfl⟩
theorem runs_walk (v0:Value) (w:World) (f0:∃ ds,z7e w (.sl EvtT) [v0] ds) :
  Calls Try.prog 4 #[v0] w fun e w'=>e = .returned (.bool true)∧Below w.heap.size w w':=by
 obtain ⟨d1,r1⟩:=f0
 obtain ⟨d,rfl,u1⟩:=readsOne40 r1
 obtain ⟨l,hd,hl,hok⟩:=zif Evt.a Evt.ok r1.1 (fun c h=>Evt.of h)
 cases hd
 have:=(law40_ok l hok hl).calls w (fun b _=>b < w.heap.size) [v0] trivial (fun b o hb=>hb) rfl (fun j d u hj hu=>by
  match j with
  | 0=>cases hj; cases hu; exact u1
  | j + 1=>simp at hj)
 refine this.mono fun e w' ⟨u,he,hb,hr⟩=>?_
 have hr':VR _ w' (.bool true) u:=hr
 cases hr'
 exact ⟨he,hb⟩
end
section
/-
 'Rows.ReplayRunsSaid' is proved: the law percolatelaw40.ReplayRuns returns true at every input,and its arguments read as they did. No condition.
-/
namespace replayRuns
open Go.ChangeShapes Go.WideShapes Go.ChangeAt Go.RowKit
open Go.ChangeMaps (open_string shut_string)
set_option maxRecDepth 100000 in
theorem lifted (os:Os) (started:os.Started) (H:Type) (enc:TypeId × Value->H) :
  ReturnsInHanded {} Try.checked os 4 .any (Rows.replayRunsSpec.pre6 enc Try.prog Try.f4 Rows.replayRunsRow.domain false) (Rows.replayRunsSpec.post enc Try.prog Try.f4 false true false false):=by
 refine returnsInHanded_of_change_sized (C:=Try.checked) ownK started (by kernel_rfl) Try.func4
  (ChangeSpec.witness6 (enc:=enc) (C:=Try.checked) false ⟨#[],#[.slice none 0 0],[]⟩ 8 (by kernel_rfl) (by kernel_rfl) (by kernel_rfl) (by kernel_rfl)) ?_
 intro W base args ds gs before hval0 hW hcnd hsz _
 have hval:∀ (j:Nat) t v,Try.f4.params[j]? = some t->args[j]? = some v->Value.okWide Try.prog W .any base t v:=hval0
 have hW':=hW
 obtain ⟨p,q,hA0,hV,rfl,hfz,hnd⟩:=hW
 have hA:DataW.TrodAll enc Try.prog W 0 (fun _=>true) true Try.f4.params.toList args.toList ds p:=hA0
 rw [Try.params4] at hA hval
 obtain ⟨v0,vs0,d0,ds0,p0,q0,hargs,rfl,rfl,h0,r0⟩:=trodAll_cons hA
 obtain ⟨rfl,rfl,rfl⟩:=trodAll_nil r0
 obtain rfl:args = #[v0]:=by cases args; simp_all
 obtain ⟨rfl,rfl⟩:=trodVars_none hV
 have hw0:(d0.weights Try.prog 22).all (·≤reachBytes) = true:=z5u hsz 0 22 d0 rfl rfl
 obtain ⟨s0,n0,c0,rfl⟩:=okWide_slice Try.underlying22 (hval 0 22 v0 rfl rfl)
 obtain ⟨fu0,ht0⟩:=h0
 have f0:∃ ds,z7e W (.sl EvtT) [.slice s0 n0 c0] ds:=z9t 8 (x:=(d0,p0)) (by kernel_rfl) hw0 ht0
 refine (runs_walk _ W f0).mono fun e W' ⟨he,hb⟩=>?_
 subst he
 exact ⟨_,rfl,post_law laidOut hW' rfl rfl rfl rfl rfl Try.underlying4 (by intro t ht; rw [Try.params4] at ht; simp only [List.mem_cons,List.not_mem_nil,or_false] at ht; rcases ht with rfl <;> exact ⟨by kernel_rfl,of_decide_eq_true (by kernel_rfl)⟩) hb⟩
theorem proved:Rows.ReplayRunsSaid :=
 OpenClaim.holds_of_wide 4 Try.f4 rfl rfl rfl rfl rfl rfl rfl ⟨rfl,rfl,rfl,rfl,rfl⟩ rfl rfl rfl rfl rfl (by kernel_rfl) Try.func4 (by kernel_rfl)
  (of_decide_eq_true (by kernel_rfl)) (by unfold Func.isWrapper; first | (rw [if_pos (by decide +kernel)]; kernel_rfl) | (rw [if_neg (by decide +kernel)]; exact ⟨rfl,rfl⟩))
  (fun os started H enc _=>lifted os started H enc)
end replayRuns
end
end Go.Proofs.Ytolocaankfcjiaa
