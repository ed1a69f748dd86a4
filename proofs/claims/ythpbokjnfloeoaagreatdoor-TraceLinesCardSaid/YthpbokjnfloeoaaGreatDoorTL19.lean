/-
  'Rows.TraceLinesSaid' is proved: the law percolatelaw46.TraceLines returns true at every input, and its arguments read as they did. No condition.
-/
import Derived.SizedLaws
import Derived.Test.YthpbokjnfloeoaaGreatDoorCards
import Derived.Test.YthpbokjnfloeoaaGreatDoorTie
import Derived.Deep.DeepHandedRow
import Derived.LaidLaws
import Derived.Lay
import Derived.SevenTiedAt
import Derived.Test.YthpbokjnfloeoaaGreatDoorTL18
namespace Go.Proofs.YthpbokjnfloeoaaGreatDoor
attribute [local go_sem] Par.a Msg.a
set_option linter.unusedVariables false
section
/-
 The lines of a tree's nodes: no two are alike: the plain law.
-/
open Go.RowKit Go.Lib
set_option linter.unusedVariables false
set_option linter.unusedSimpArgs false
set_option maxRecDepth 100000
attribute [local go_sem ↓] z11 z0l
/-! ### percolate/percolatelaw46.TraceLines -/
def zw1:Reg:=⟨[],[⟨.box 5 23 (.t 0),some 2,none,[],[]⟩,⟨.mv (.c (.bool false)),some 4,none,[],[]⟩],[2],[],false⟩
def zdk:List ROp:=[⟨.load 5 true (.t 2),some 9,none,[11],[]⟩,⟨.mv (.t 1),some 10,none,[11],[]⟩,⟨.callv (.c (.clo 4 [] [])) [(.t 9),(.t 10),(.c (.int .i64 60))],some 11,none,[],[]⟩,⟨.un .not (.t 11),some 12,none,[],[]⟩]
def zw0:Reg:=⟨[],zdk,[11],[],false⟩
def zvz:Reg:=⟨[],[⟨.callv (.c (.clo 5 [] [])) [],some 13,none,[],[]⟩,⟨.mv (.t 13),some 4,none,[],[]⟩],[13],[],false⟩
def zvy:Reg:=⟨[],[⟨.mknil 1 9,some 5,none,[],[]⟩],[5],[],false⟩
def zdj:List ROp:=[⟨.mv (.t 1),some 14,none,[],[]⟩,⟨.len false (.t 14),some 15,none,[],[]⟩,⟨.mv (.c (.int .i64 0)),some 16,none,[],[]⟩]
def zvx:Reg:=⟨[],zdj,[],[],false⟩
def zvw:Reg:=⟨[],[⟨.bin .lss (.t 16) (.t 15),some 17,none,[],[]⟩],[],[],false⟩
def zdi:List ROp:=[⟨.iaddr 10 (.t 14) (.t 16),some 18,none,[7],[]⟩,⟨.load 10 true (.t 18),some 19,none,[7],[]⟩,⟨.alloc 10 32 (.agg [(.int .i64 0),(.int .i64 0),(.sl []),(.sl []),(.str ⟨#[]⟩),(.bool false),(.int .i64 0),(.int .i64 0),(.sl []),(.sl [])]),some 7,none,[],[]⟩,⟨.store 10 (.t 7) (.t 19),none,none,[],[]⟩]
def zvv:Reg:=⟨[],zdi,[7],[],false⟩
def zdh:List ROp:=[⟨.load 10 true (.t 7),some 20,none,[21],[]⟩,⟨.callv (.c (.clo 6 [] [])) [(.t 20)],some 21,none,[],[]⟩,⟨.mv (.t 21),some 8,none,[],[]⟩]
def zvu:Reg:=⟨[],zdh,[21],[],false⟩
def zdg:List ROp:=[⟨.mv (.t 8),some 22,none,[24,29],[]⟩,⟨.load 10 true (.t 7),some 23,none,[24,29],[]⟩,⟨.callv (.c (.clo 7 [] [])) [(.t 23)],some 24,none,[29],[]⟩,⟨.bin .neq (.t 22) (.t 24),some 25,none,[29],[]⟩,⟨.mv (.t 25),some 26,none,[29],[]⟩,⟨.mv (.t 5),some 27,(some (26,false)),[29],[]⟩,⟨.mv (.t 8),some 28,(some (26,false)),[29],[]⟩,⟨.callv (.c (.clo 8 [] [])) [(.t 27),(.t 28)],some 29,(some (26,false)),[],[]⟩,⟨.pick (.t 26) (.c (.bool true)) (.t 29),some 30,none,[],[]⟩]
def zvt:Reg:=⟨[],zdg,[24,29],[],false⟩
def zvs:Reg:=⟨[],[⟨.mv (.c (.bool false)),some 4,none,[],[]⟩],[],[],false⟩
def z8e:List ROp:=[⟨.mv (.t 5),some 31,none,[33],[]⟩,⟨.mv (.t 8),some 32,none,[33],[]⟩,⟨.bsl 1 9 [(.t 32)],some 33,none,[],[]⟩,⟨.append 1 9 16 (.t 31) (.t 33),some 34,none,[],[]⟩,⟨.mv (.t 34),some 5,none,[],[]⟩]
def zmz:Reg:=⟨[],z8e,[33],[],false⟩
def zmy:Reg:=⟨[],[⟨.bin .add (.t 16) (.c (.int .i64 1)),some 35,none,[],[]⟩,⟨.mv (.t 35),some 16,none,[],[]⟩],[],[],false⟩
def zfw:IR:=(.seq (.reg zvw)
 (.seq (.cond (.t 17) .skip
 (.exit 0))
 (.seq (.block 1 (.seq (.reg zvv)
 (.seq (.reg zvu)
 (.seq (.seq (.reg zvt)
 (.cond (.t 30) (.seq (.reg zvs)
 .ret)
 .skip))
 (.reg zmz)))))
 (.reg zmy))))
def zmx:Reg:=⟨[],[⟨.callv (.c (.clo 5 [] [])) [],some 36,none,[],[]⟩,⟨.mv (.t 36),some 4,none,[],[]⟩],[36],[],false⟩
def y75:IR:=(.seq (.reg zw1)
 (.seq (.seq (.reg zw0)
 (.cond (.t 12) (.seq (.reg zvz)
 .ret)
 .skip))
 (.seq (.reg zvy)
 (.seq (.seq (.reg zvx)
 (.block 0 (.loop zfw)))
 (.seq (.reg zmx)
 .ret)))))
def zqi:List RDesc:=[(.tmp 4)]
theorem e_linesL_0:EqR zw1 [⟨.box 5 23 (.t 0),some 2,none,[],[]⟩,⟨.mv (.c (.bool false)),some 4,none,[],[]⟩] [2]:=fun _ _ _=>rfl
theorem e_linesL_1:EqR zw0 zdk [11]:=fun _ _ _=>rfl
theorem e_linesL_2:EqR zvz [⟨.callv (.c (.clo 5 [] [])) [],some 13,none,[],[]⟩,⟨.mv (.t 13),some 4,none,[],[]⟩] [13]:=fun _ _ _=>rfl
theorem e_linesL_3:EqR zvy [⟨.mknil 1 9,some 5,none,[],[]⟩] [5]:=fun _ _ _=>rfl
theorem e_linesL_4:EqR zvx zdj []:=fun _ _ _=>rfl
theorem e_linesL_5:EqR zvw [⟨.bin .lss (.t 16) (.t 15),some 17,none,[],[]⟩] []:=fun _ _ _=>rfl
theorem e_linesL_6:EqR zvv zdi [7]:=fun _ _ _=>rfl
theorem e_linesL_7:EqR zvu zdh [21]:=fun _ _ _=>rfl
theorem e_linesL_8:EqR zvt zdg [24,29]:=fun _ _ _=>rfl
theorem e_linesL_9:EqR zvs [⟨.mv (.c (.bool false)),some 4,none,[],[]⟩] []:=fun _ _ _=>rfl
theorem ybu:EqR zmz z8e [33]:=fun _ _ _=>rfl
theorem ybt:EqR zmy [⟨.bin .add (.t 16) (.c (.int .i64 1)),some 35,none,[],[]⟩,⟨.mv (.t 35),some 16,none,[],[]⟩] []:=fun _ _ _=>rfl
theorem ybs:EqR zmx [⟨.callv (.c (.clo 5 [] [])) [],some 36,none,[],[]⟩,⟨.mv (.t 36),some 4,none,[],[]⟩] [36]:=fun _ _ _=>rfl
theorem fn_linesL {args:List AV} {r:AV} (ha:args.length.ble Tryz.f3.ntmps = true) (h:run (AFn Tryz.prog) y75 (endQ zqi r) (z0b args)):AFn Tryz.prog 3 args r :=
 AFn.of_code (pv:=false) (hint:=fun _=>[]) (c:=Tryz.f3.body.getD .skip) (by kernel_rfl) (by kernel_rfl) Tryz.func3 (by kernel_rfl) (by kernel_rfl) (by kernel_rfl) (of_decide_eq_true (by kernel_rfl)) (Nat.le_of_ble_eq_true ha) (Nat.le_of_ble_eq_true (by kernel_rfl)) (z0c h)
/-! ### percolate/percolateref01.Has -/
def yep:Reg:=⟨[],[⟨.mv (.c (.bool false)),some 4,none,[],[]⟩],[],[],false⟩
def yeo:Reg:=⟨[],[⟨.mv (.c (.int .i64 0)),some 5,none,[],[]⟩],[],[],false⟩
def zyo:List ROp:=[⟨.mv (.t 5),some 6,none,[],[]⟩,⟨.mv (.t 0),some 7,none,[],[]⟩,⟨.len false (.t 7),some 8,none,[],[]⟩,⟨.bin .lss (.t 6) (.t 8),some 9,none,[],[]⟩]
def yen:Reg:=⟨[],zyo,[],[],false⟩
def zyn:List ROp:=[⟨.mv (.t 0),some 12,none,[],[]⟩,⟨.mv (.t 5),some 13,none,[],[]⟩,⟨.iaddr 1 (.t 12) (.t 13),some 14,none,[],[]⟩,⟨.load 1 false (.t 14),some 15,none,[],[]⟩,⟨.mv (.t 1),some 16,none,[],[]⟩,⟨.bin .eql (.t 15) (.t 16),some 17,none,[],[]⟩]
def yem:Reg:=⟨[],zyn,[],[],false⟩
def yel:Reg:=⟨[],[⟨.mv (.c (.bool true)),some 4,none,[],[]⟩],[],[],false⟩
def zym:List ROp:=[⟨.mv (.t 5),some 10,none,[],[]⟩,⟨.bin .add (.t 10) (.c (.int .i64 1)),some 11,none,[],[]⟩,⟨.mv (.t 11),some 5,none,[],[]⟩]
def yek:Reg:=⟨[],zym,[],[],false⟩
def y5b:IR:=(.seq (.seq (.reg yen)
 (.cond (.t 9) .skip
 (.exit 0)))
 (.seq (.block 1 (.seq (.reg yem)
 (.cond (.t 17) (.seq (.reg yel)
 .ret)
 .skip)))
 (.reg yek)))
def yej:Reg:=⟨[],[⟨.mv (.c (.bool false)),some 4,none,[],[]⟩],[],[],false⟩
def ir_hasR:IR:=(.seq (.reg yep)
 (.seq (.seq (.reg yeo)
 (.block 0 (.loop y5b)))
 (.seq (.reg yej)
 .ret)))
def ycz:List RDesc:=[(.tmp 4)]
theorem e_hasR_0:EqR yep [⟨.mv (.c (.bool false)),some 4,none,[],[]⟩] []:=fun _ _ _=>rfl
theorem e_hasR_1:EqR yeo [⟨.mv (.c (.int .i64 0)),some 5,none,[],[]⟩] []:=fun _ _ _=>rfl
theorem e_hasR_2:EqR yen zyo []:=fun _ _ _=>rfl
theorem e_hasR_3:EqR yem zyn []:=fun _ _ _=>rfl
theorem e_hasR_4:EqR yel [⟨.mv (.c (.bool true)),some 4,none,[],[]⟩] []:=fun _ _ _=>rfl
theorem e_hasR_5:EqR yek zym []:=fun _ _ _=>rfl
theorem e_hasR_7:EqR yej [⟨.mv (.c (.bool false)),some 4,none,[],[]⟩] []:=fun _ _ _=>rfl
theorem fn_hasR {args:List AV} {r:AV} (ha:args.length.ble Tryz.f8.ntmps = true) (h:run (AFn Tryz.prog) ir_hasR (endQ ycz r) (z0b args)):AFn Tryz.prog 8 args r :=
 AFn.of_code (pv:=false) (hint:=fun _=>[]) (c:=Tryz.f8.body.getD .skip) (by kernel_rfl) (by kernel_rfl) Tryz.func8 (by kernel_rfl) (by kernel_rfl) (by kernel_rfl) (of_decide_eq_true (by kernel_rfl)) (Nat.le_of_ble_eq_true ha) (Nat.le_of_ble_eq_true (by kernel_rfl)) (z0c h)
attribute [local go_sem ↓] y75
attribute [local go_sem] zqi e_linesL_0 e_linesL_1 zdk e_linesL_2 e_linesL_3 e_linesL_4 zdj e_linesL_5 e_linesL_6 zdi e_linesL_7 zdh e_linesL_8 zdg e_linesL_9 ybu z8e ybt ybs
attribute [local go_sem ↓] ir_hasR
attribute [local go_sem] ycz e_hasR_0 e_hasR_1 e_hasR_2 zyo e_hasR_3 zyn e_hasR_4 e_hasR_5 zym e_hasR_7
theorem ygp {c:UInt8}:∀ {a b r r':List UInt8},c ∉ a->c ∉ b->a ++ c :: r = b ++ c :: r'->a = b
 | [],[],_,_,_,_,_=>rfl
 | [],y :: b,r,r',_,hb,h=>by
  simp only [List.nil_append,List.cons_append,List.cons.injEq] at h
  exact absurd (by rw [h.1]; exact List.mem_cons_self ..) hb
 | x :: a,[],r,r',ha,_,h=>by
  simp only [List.nil_append,List.cons_append,List.cons.injEq] at h
  exact absurd (by rw [← h.1]; exact List.mem_cons_self ..) ha
 | x :: a,y :: b,r,r',ha,hb,h=>by
  simp only [List.cons_append,List.cons.injEq] at h
  rw [h.1,ygp (fun e=>ha (List.mem_cons_of_mem _ e)) (fun e=>hb (List.mem_cons_of_mem _ e)) h.2]
theorem y6d (n:Nd):∃ r,n.line.data.toList = [110,111,100,101,32] ++ ((decS n.slot).data.toList ++ 32 :: r):=by
 unfold Nd.line
 rw [za5]
 show ∃ r,((⟨#[110,111,100,101]⟩:ByteArray) ++ (((⟨#[32]⟩:ByteArray) ++ decS n.slot) ++ (((⟨#[32]⟩:ByteArray) ++ decS n.level) ++ catF _ _))).data.toList = _
 rw [zag,zag,zag,zag (_ ++ _) (catF _ _),zag]
 exact ⟨_,by simp only [List.append_assoc]; rfl⟩
theorem decS_inj {a b:Int} (ha:0≤a∧a≤999999999) (hb:0≤b∧b≤999999999) (h:decS a = decS b):a = b:=by
 have ea:=zxn a ⟨by omega,by omega⟩
 have eb:=zxn b ⟨by omega,by omega⟩
 rw [if_pos ha] at ea
 rw [if_pos hb] at eb
 rw [h,eb] at ea
 cases ea; rfl
theorem y6c {m n:Nd} (hm:0≤m.slot∧m.slot≤999999999) (hn:0≤n.slot∧n.slot≤999999999) (h:m.line = n.line):m.slot = n.slot:=by
 obtain ⟨r,e⟩:=y6d m
 obtain ⟨r',e'⟩:=y6d n
 rw [h,e'] at e
 have e2:=List.append_cancel_left e
 have hs:sepC 32:=.inl rfl
 have e3:=ygp (ygo hs n.slot hn.1) (ygo hs m.slot hm.1) e2
 exact (decS_inj hn hm (z2p e3)).symm
/-- is a text among others? -/
def hasS (l:List ByteArray) (s:ByteArray):Bool:=l.any fun x=>x.toList == s.toList
def hasRInv (l:List ByteArray) (s:ByteArray) (R:Bool) (k:Nat) (σ:St):Prop :=
 ∃ j:Nat,j≤l.length∧k = l.length - j∧σ.T 0 = .sl (l.map .str)∧σ.T 1 = .str s∧σ.T 5 = .int .i64 j∧hasS (l.drop j) s = R
theorem hasR_ok (l:List ByteArray) (s:ByteArray) (hl:l.length≤1000000):AFn Tryz.prog 8 [.sl (l.map .str),.str s] (.bool (hasS l s)):=by
 refine fn_hasR rfl ?_
 obtain ⟨R,hR⟩:∃ R,hasS l s = R:=⟨_,rfl⟩
 rw [hR]
 simp (maxSteps:=9^7) only [go_sem,↓reduceIte,reduceCtorEq,Nat.reduceEqDiff,Nat.reduceBEq,Nat.reduceAdd,Nat.reduceSub,Nat.reduceMul,Nat.reduceLT,Nat.reduceLeDiff,Nat.reduceBNe,Int.reduceBEq,Int.reduceBNe,Int.reduceLT,Int.reduceLE,List.length_map]
 refine z0d (hasRInv l s R) (k:=l.length) ⟨0,by omega,rfl,?_,?_,?_,hR⟩ ?_
 iterate 3 focus ((simp (maxSteps:=9^7) only [go_sem,↓reduceIte,reduceCtorEq,Nat.reduceEqDiff,Nat.reduceBEq,Nat.reduceAdd,Nat.reduceSub,Nat.reduceMul,Nat.reduceLT,Nat.reduceLeDiff,Nat.reduceBNe,Int.reduceBEq,Int.reduceBNe,Int.reduceLT,Int.reduceLE]) <;> rfl)
 clear hR
 rintro k σ ⟨j,hj,rfl,t0,t1,t5,hr⟩
 simp only [y5b]
 by_cases hlt:j < l.length
 case neg =>
  have hlt':¬ (j:Int) < (l.length:Int):=by omega
  rw [List.drop_eq_nil_of_le (by omega)] at hr
  have hr:false = R:=hr
  subst hr
  simp (maxSteps:=9^7) only [go_sem,↓reduceIte,reduceCtorEq,Nat.reduceEqDiff,Nat.reduceBEq,Nat.reduceAdd,Nat.reduceSub,Nat.reduceMul,Nat.reduceLT,Nat.reduceLeDiff,Nat.reduceBNe,Int.reduceBEq,Int.reduceBNe,Int.reduceLT,Int.reduceLE,t0,t1,t5,hlt',List.length_map]
 have hlt':(j:Int) < (l.length:Int):=by omega
 obtain ⟨x,hx⟩:=z0i hlt
 have hgx:=z0o (f:=AV.str) hx
 have hw:=z1j (j:=j) (by omega)
 have e:hasS (l.drop j) s = ((x.toList == s.toList) || hasS (l.drop (j + 1)) s):=by unfold hasS; rw [z0h hx,List.any_cons]
 rw [e] at hr
 clear e
 cases hs:x.toList == s.toList with
 | true =>
  rw [hs,Bool.true_or] at hr
  subst hr
  simp (maxSteps:=9^7) only [go_sem,↓reduceIte,reduceCtorEq,Nat.reduceEqDiff,Nat.reduceBEq,Nat.reduceAdd,Nat.reduceSub,Nat.reduceMul,Nat.reduceLT,Nat.reduceLeDiff,Nat.reduceBNe,Int.reduceBEq,Int.reduceBNe,Int.reduceLT,Int.reduceLE,t0,t1,t5,hlt',hgx,hs,List.length_map,Int.toNat_natCast]
  all_goals omega
 | false =>
  rw [hs,Bool.false_or] at hr
  simp (maxSteps:=9^7) only [go_sem,↓reduceIte,reduceCtorEq,Nat.reduceEqDiff,Nat.reduceBEq,Nat.reduceAdd,Nat.reduceSub,Nat.reduceMul,Nat.reduceLT,Nat.reduceLeDiff,Nat.reduceBNe,Int.reduceBEq,Int.reduceBNe,Int.reduceLT,Int.reduceLE,t0,t1,t5,hlt',hgx,hs,hw,List.length_map,Int.toNat_natCast]
  (repeat refine And.intro (by omega) ?_)
  refine ⟨l.length - (j + 1),by omega,j + 1,by omega,rfl,?_,?_,?_,hr⟩
  iterate 3 focus ((simp (maxSteps:=9^7) only [go_sem,↓reduceIte,reduceCtorEq,Nat.reduceEqDiff,Nat.reduceBEq,Nat.reduceAdd,Nat.reduceSub,Nat.reduceMul,Nat.reduceLT,Nat.reduceLeDiff,Nat.reduceBNe,Int.reduceBEq,Int.reduceBNe,Int.reduceLT,Int.reduceLE,t0,t1,hw]) <;> rfl)
def lnInv (l:List Nd) (k:Nat) (σ:St):Prop :=
 ∃ j p:Nat,j≤l.length∧k = l.length - j∧p≤j∧σ.T 14 = .sl (l.map Nd.a)∧σ.T 15 = .int .i64 l.length∧σ.T 16 = .int .i64 j∧σ.T 5 = .rs 5 0 j∧σ.H 5 = some ⟨1,9,((l.take j).map Nd.line).map .str,p⟩
theorem yco:∀ (l:List Nd) (i:Nat),seqB l i = true->∀ (j:Nat) (n:Nd),l[j]? = some n->n.slot = ((i + j:Nat):Int)
 | [],i,h,j,n,e=>by simp at e
 | x :: l,i,h,j,n,e=>by
  rw [seqB,Bool.and_eq_true,Bool.and_eq_true,decide_eq_true_eq] at h
  cases j with
  | zero=>cases e; rw [h.1.1]; rfl
  | succ j =>
   have:=yco l (i + 1) h.2 j n (by simpa using e)
   rw [this]; omega
set_option maxHeartbeats 4000000 in
theorem linesL_law (c:Cfg) (l:List Nd) (hs:∀ x,x ∈ l->x.ok) (hl:l.length≤281474976710656):AFn Tryz.prog 3 [c.a,.sl (l.map Nd.a)] (.bool true):=by
 refine fn_linesL rfl ?_
 have cT:=tree_ok c l 60 (by omega) hs hl
 have aw:=awake46_ok
 cases hT:treeB c l 60 with
 | false =>
  rw [hT] at cT
  simp only [Cfg.a] at cT
  simp only [Cfg.a]
  (repeat (first | simp (maxSteps:=9^7) only [go_sem,↓reduceIte,reduceCtorEq,Nat.reduceEqDiff,Nat.reduceBEq,Nat.reduceAdd,Nat.reduceSub,Nat.reduceMul,Nat.reduceLT,Nat.reduceLeDiff,Nat.reduceBNe,Int.reduceBEq,Int.reduceBNe,Int.reduceLT,Int.reduceLE] | refine z01 (cT) ?_ | refine z00 (cT) ?_ | refine z01 (aw) ?_ | refine z00 (aw) ?_ | refine And.intro (by omega) ?_ | refine And.intro (fun d hd=>by (repeat (rcases hd with rfl | hd; · exact ⟨rfl,rfl⟩)); cases hd) ?_))
 | true =>
  rw [hT] at cT
  simp only [Cfg.a] at cT
  simp only [Cfg.a]
  unfold treeB at hT
  rw [Bool.and_eq_true,Bool.and_eq_true,Bool.and_eq_true,Bool.and_eq_true] at hT
  have hq:=hT.1.2
  have hL:=hT.1.1.2
  unfold zwy at hL
  rw [Bool.and_eq_true,decide_eq_true_eq,List.all_eq_true] at hL
  obtain ⟨h60,hli⟩:=hL
  have hslot:∀ (j:Nat) (n:Nd),l[j]? = some n->n.slot = (j:Int):=fun j n e=>by rw [yco l 0 hq j n e]; omega
  clear hq hT
  (repeat (first | simp (maxSteps:=9^7) only [go_sem,↓reduceIte,reduceCtorEq,Nat.reduceEqDiff,Nat.reduceBEq,Nat.reduceAdd,Nat.reduceSub,Nat.reduceMul,Nat.reduceLT,Nat.reduceLeDiff,Nat.reduceBNe,Int.reduceBEq,Int.reduceBNe,Int.reduceLT,Int.reduceLE,List.length_map] | refine z01 (cT) ?_ | refine z00 (cT) ?_ | refine And.intro (by omega) ?_ | refine And.intro (fun d hd=>by (repeat (rcases hd with rfl | hd; · exact ⟨rfl,rfl⟩)); cases hd) ?_))
  refine z0d (lnInv l) (k:=l.length) ⟨0,0,Nat.zero_le _,rfl,Nat.le_refl _,?_,?_,?_,?_,?_⟩ ?_
  iterate 5 focus ((simp (maxSteps:=9^7) only [go_sem,↓reduceIte,reduceCtorEq,Nat.reduceEqDiff,Nat.reduceBEq,Nat.reduceAdd,Nat.reduceSub,Nat.reduceMul,Nat.reduceLT,Nat.reduceLeDiff,Nat.reduceBNe,Int.reduceBEq,Int.reduceBNe,Int.reduceLT,Int.reduceLE,List.length_map]) <;> rfl)
  clear cT
  rintro k σ ⟨j,p,hj,rfl,hp,t14,t15,t16,t5,h5⟩
  simp only [zfw]
  by_cases hlt:j < l.length
  case neg =>
   have hlt':¬ (j:Int) < (l.length:Int):=by omega
   (repeat (first | simp (maxSteps:=9^7) only [go_sem,↓reduceIte,reduceCtorEq,Nat.reduceEqDiff,Nat.reduceBEq,Nat.reduceAdd,Nat.reduceSub,Nat.reduceMul,Nat.reduceLT,Nat.reduceLeDiff,Nat.reduceBNe,Int.reduceBEq,Int.reduceBNe,Int.reduceLT,Int.reduceLE,t14,t15,t16,t5,h5,hlt'] | refine z01 (aw) ?_ | refine z00 (aw) ?_ | refine And.intro (by omega) ?_ | refine And.intro (fun d hd=>by (repeat (rcases hd with rfl | hd; · exact ⟨rfl,rfl⟩)); cases hd) ?_))
  have hlt':(j:Int) < (l.length:Int):=by omega
  obtain ⟨x,hx⟩:=z0i hlt
  have hgx:=z0o (f:=Nd.a) hx
  have hxm:=List.mem_of_getElem? hx
  have f:=fit_of (hs x hxm) (hli x hxm)
  have k1:=yci x f
  have k2:=r46Node_ok x f
  have hno:hasS ((l.take j).map Nd.line) x.line = false:=by
   unfold hasS
   rw [List.any_eq_false]
   intro y hy
   obtain ⟨m,hm,rfl⟩:=List.mem_map.1 hy
   obtain ⟨i,hi⟩:=List.mem_iff_getElem?.1 hm
   rw [List.getElem?_take] at hi
   split at hi
   ·rename_i hij
    have a:=hslot i m hi
    have b:=hslot j x hx
    intro e
    have e1:=beq_iff_eq.1 e
    rw [ByteArray.toList_eq,ByteArray.toList_eq] at e1
    have:=y6c (by rw [a]; omega) (by rw [b]; omega) (z2p e1)
    omega
   ·cases hi
  have k3:=hasR_ok ((l.take j).map Nd.line) x.line (by rw [List.length_map,List.length_take]; omega)
  rw [hno] at k3
  have tk:List.take j (((l.take j).map Nd.line).map AV.str) = ((l.take j).map Nd.line).map AV.str:=List.take_of_length_le (by rw [List.length_map,List.length_map,List.length_take]; omega)
  have hw:=z1j (j:=j) (by omega)
  have hnx:(((l.take (j + 1)).map Nd.line).map AV.str) = ((l.take j).map Nd.line).map AV.str ++ [.str x.line]:=by
   rw [List.take_add_one,hx,List.map_append,List.map_append]; rfl
  generalize hLs:((l.take j).map Nd.line).map AV.str = Ls at *
  have he:(x.line.toList == x.line.toList) = true:=beq_self_eq_true _
  generalize x.line = xl at *
  simp only [Nd.a] at hgx k1 k2
  (repeat (first | simp (maxSteps:=9^7) only [go_sem,↓reduceIte,reduceCtorEq,Nat.reduceEqDiff,Nat.reduceBEq,Nat.reduceAdd,Nat.reduceSub,Nat.reduceMul,Nat.reduceLT,Nat.reduceLeDiff,Nat.reduceBNe,Int.reduceBEq,Int.reduceBNe,Int.reduceLT,Int.reduceLE,t14,t15,t16,t5,h5,hlt',hgx,hlt,tk,he,Int.toNat_natCast,List.length_map] | refine z01 (k1) ?_ | refine z00 (k1) ?_ | refine z01 (k2) ?_ | refine z00 (k2) ?_ | refine z01 (k3) ?_ | refine z00 (k3) ?_ | refine And.intro (by omega) ?_ | refine And.intro (fun d hd=>by (repeat (rcases hd with rfl | hd; · exact ⟨rfl,rfl⟩)); cases hd) ?_))
  refine ⟨⟨hp,⟨by omega,by omega⟩,fun d hd=>?_⟩,l.length - (j + 1),by omega,j + 1,p,by omega,rfl,by omega,?_,?_,?_,?_,?_⟩
  ·rcases hd with rfl | hd
   ·exact ⟨rfl,rfl⟩
   ·cases hd
  iterate 5 focus ((simp (maxSteps:=9^7) only [go_sem,↓reduceIte,reduceCtorEq,Nat.reduceEqDiff,Nat.reduceBEq,Nat.reduceAdd,Nat.reduceSub,Nat.reduceMul,Nat.reduceLT,Nat.reduceLeDiff,Nat.reduceBNe,Int.reduceBEq,Int.reduceBNe,Int.reduceLT,Int.reduceLE,t14,t15,hw,t5,h5,hnx,tk]) <;> rfl)
theorem reads_one {w:World} {T:Ty} {v:Value} {ds:List AV} (h:z48 w T [v] ds):∃ d,ds = [d]∧VR (fun b _=>b < w.heap.size) w d v:=by
 obtain ⟨h1,h2,h3⟩:=h
 match ds,h2 with
 | [d],_=>exact ⟨d,rfl,h3 0 d v rfl rfl⟩
theorem y9o (c:Array Value) (v1:Value) (w:World) (hG:Glob w) (f0:∃ ds,z48 w CfgT c.toList ds) (f1:∃ ds,z48 w (.sl NdT) [v1] ds) :
  Calls Tryz.prog 3 #[.agg c,v1] w fun e w'=>e = .returned (.bool true)∧Below w.heap.size w w':=by
 obtain ⟨d0,r0⟩:=f0
 obtain ⟨d1,r1⟩:=f1
 obtain ⟨n,e0,on⟩:=Cfg.of r0.1
 have v0:=reads_agg r0
 rw [e0] at v0
 obtain ⟨d,rfl,u1⟩:=reads_one r1
 obtain ⟨l,hd,hl,hok⟩:=y8q Nd.a Nd.ok r1.1 (fun c h=>Nd.of h)
 cases hd
 refine run_args (vs:=[.agg c,v1]) hG rfl (fun j d u hj hu=>?_) (linesL_law n l hok hl)
 match j with
 | 0=>cases hj; cases hu; exact v0
 | 1=>cases hj; cases hu; exact u1
 | j + 2=>simp at hj
end
section
/-
 'Rows.TraceLinesSaid' is proved: the law percolatelaw46.TraceLines returns true at every input,and its arguments read as they did. No condition.
-/
namespace traceLines
open Go.ChangeShapes Go.WideShapes Go.ChangeAt Go.RowKit
open Go.ChangeMaps (open_string shut_string)
set_option linter.unusedVariables false
set_option maxRecDepth 100000 in
theorem lifted (os:Os) (started:os.Started) (H:Type) (enc:TypeId × Value->H) :
  ReturnsInHanded {} Tryz.checked os 3 .any (fun w args=>(Rows.traceLinesSpec.pre enc Tryz.prog Tryz.f3 [] false w args∧laidMetH Tryz.prog Rows.traceLinesRow.laid w)∧sizedMet enc Tryz.prog Tryz.f3 (OpenSpec.ofChange Rows.traceLinesSpec) false w args) (Rows.traceLinesSpec.post enc Tryz.prog Tryz.f3 false true false false):=by
 refine returnsInHanded_of_row (C:=Tryz.checked) (s:=OpenSpec.ofChange Rows.traceLinesSpec) (F:=fun _ _ _=>0) ownK started (by kernel_rfl) Tryz.func3
  (ChangeSpec.witness_shaped (enc:=enc) (C:=Tryz.checked) (os:=os) (X:=fun w _=>laidMetH Tryz.prog Rows.traceLinesRow.laid w) false (World.laidAll Tryz.prog os Rows.traceLinesRow.laid) #[.agg #[.int .i64 0,.int .i64 0,.int .i64 0,.int .i64 0,.int .i64 0],.slice none 0 0] 8 (World.laidAll_os _ _ _)
   (World.shaped_of_ZipB (by kernel_rfl) (by kernel_rfl)) (by kernel_rfl) (by kernel_rfl) (by kernel_rfl)
   (by rw [MakeChecks.laidMetH_plain _ _ _ (by kernel_rfl)]; exact laidMet_laidAll _ (by kernel_rfl) (by kernel_rfl))) ?_
 intro W base args ds gs before hval0 hW hcnd hk hsz hL hsh _
 have hval:∀ (j:Nat) t v,Tryz.f3.params[j]? = some t->args[j]? = some v->Value.okWide Tryz.prog W .any base t v:=hval0
 have hW':=hW
 obtain ⟨p,q,hA0,hV,rfl,hfz,hnd⟩:=hW
 have hA:DataW.TrodAll enc Tryz.prog W 0 (fun _=>true) true Tryz.f3.params.toList args.toList ds p:=hA0
 rw [Tryz.params3] at hA hval
 obtain ⟨v0,vs0,d0,ds0,p0,q0,hargs,rfl,rfl,h0,r0⟩:=trodAll_cons hA
 obtain ⟨v1,vs1,d1,ds1,p1,q1,rfl,rfl,rfl,h1,r1⟩:=trodAll_cons r0
 obtain ⟨rfl,rfl,rfl⟩:=trodAll_nil r1
 obtain rfl:args = #[v0,v1]:=by cases args; simp_all
 obtain ⟨rfl,rfl⟩:=trodVars_none hV
 have hw0:(d0.weights Tryz.prog 23).all (·≤reachBytes) = true:=z3b hsz 0 23 d0 rfl rfl
 obtain ⟨c0,rfl,hc0⟩:=okWide_struct Tryz.underlying23 (hval 0 23 v0 rfl rfl)
 obtain ⟨fu0,ht0⟩:=h0
 have f0:∃ ds,z48 W (CfgT) c0.toList ds:=z9j 8 (x:=(d0,p0)) (by kernel_rfl) hw0 ht0
 have hw1:(d1.weights Tryz.prog 24).all (·≤reachBytes) = true:=z3b hsz 1 24 d1 rfl rfl
 obtain ⟨s1,n1,c1,rfl⟩:=okWide_slice Tryz.underlying24 (hval 1 24 v1 rfl rfl)
 obtain ⟨fu1,ht1⟩:=h1
 have f1:∃ ds,z48 W (.sl NdT) [.slice s1 n1 c1] ds:=z9j 8 (x:=(d1,p1)) (by kernel_rfl) hw1 ht1
 have hL':=hL
 rw [MakeChecks.laidMetH_plain _ _ _ (by kernel_rfl)] at hL'
 have hL3:laidMet Tryz.prog (("internal/strconv.uint64pow10",Rows.laid_internal_strconv_uint64pow10) :: [("unicode/utf8.acceptRanges",Rows.laid_unicode_utf8_acceptRanges),("unicode/utf8.first",Rows.laid_unicode_utf8_first)]) W:=(laidMet.tail (laidMet.tail hL'))
 rw [show (Rows.laid_internal_strconv_uint64pow10:DataW Unit) = Lib.tabData .u64 Lib.pow10Tab by kernel_rfl] at hL3
 have htab:zpc W:=Lib.tabIs_of_head (g:=1) (t:=154) (e:=147) (n:=20) (by kernel_rfl) (by kernel_rfl) Tryz.underlying154 Tryz.underlying147 (by kernel_rfl) (by kernel_rfl) hL3
 refine (y9o c0 _ W (Glob.start hsh htab) f0 f1).mono fun e W' ⟨he,hb⟩=>?_
 subst he
 exact ⟨_,rfl,post_law laidOut hW' rfl rfl rfl rfl rfl Tryz.underlying4 (by intro t ht; rw [Tryz.params3] at ht; simp only [List.mem_cons,List.not_mem_nil,or_false] at ht; rcases ht with rfl | rfl <;> exact ⟨by kernel_rfl,of_decide_eq_true (by kernel_rfl)⟩) hb⟩
theorem holds:Rows.TraceLinesSaid :=
 OpenClaim.holds_of_wide 3 Tryz.f3 rfl rfl rfl rfl rfl rfl rfl ⟨rfl,rfl,rfl,rfl,rfl⟩ rfl rfl rfl rfl rfl (by kernel_rfl) Tryz.func3 (by kernel_rfl)
  (of_decide_eq_true (by kernel_rfl)) (by unfold Func.isWrapper; first | (rw [if_pos (by decide +kernel)]; kernel_rfl) | (rw [if_neg (by decide +kernel)]; exact ⟨rfl,rfl⟩))
  (fun os started H enc _=>lifted os started H enc)
theorem proved:Rows.TraceLinesCardSaid :=
 Claim7.holds_tied_plain_at .later [] [.data,.data,.data,.data,.pinned] true (true, "dd2f23e49312479ce1c1d618dd31e06084bd015a5dc3a10af59bab1450a76e1f") false holds (fun _ h=>by cases h) (by kernel_rfl) (fun _ h=>by cases h) traceLines_row_tie rfl ⟨rfl,rfl⟩ (by kernel_rfl) rfl
  (fun f fn hf hfn=>by
   obtain rfl:f = 3:=Option.some.inj ((show Tryz.prog.funcNamed "percolate/percolatelaw46.TraceLines" = some 3 by kernel_rfl).symm.trans hf) |>.symm
   obtain rfl:fn = Tryz.f3:=(Option.some.inj (Tryz.func3.symm.trans hfn)).symm
   exact ⟨by kernel_rfl,fun j t ht=>by
    rw [Tryz.params3] at ht
    have hm:t ∈ [23,24]:=by simpa using Array.mem_of_getElem? ht
    have hall:([23,24].all fun u=>!Tryz.prog.wantsStandIn u) = true:=by kernel_rfl
    exact (show Tryz.prog.wantsStandIn t = false by simpa using List.all_eq_true.1 hall t hm)⟩)
  (by kernel_rfl)
end traceLines
end
end Go.Proofs.YthpbokjnfloeoaaGreatDoor
