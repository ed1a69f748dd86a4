/-
  Part 12 of a proof: RyE, SqG, SqH, SqJ, SqK, RyF.
-/
import Derived.Test.YtolocaankfcjiaaRR11
set_option linter.unusedVariables false
set_option linter.unusedSimpArgs false
set_option maxRecDepth 100000
namespace Go.Proofs.Ytolocaankfcjiaa
section
/-
 Layer 9 on the plain machine: what a key has,the first pairs of some keys; an operation's message.
-/
open Go.RowKit
attribute [local go_sem ↓] z0s z0g
theorem keyAt {l:List Par} {k:ByteArray} {q:Nat} {x:Par} (ho:KOrd l) (hx:l[q]? = some x):(x.key.toList == k.toList) = (hasK l k && q == lowN l k):=by
 cases he:(x.key.toList == k.toList) with
 | true =>
  have e:x.key.toList = k.toList:=by simpa using he
  have h1:¬ q < lowN l k:=fun h=>by
   have:=(zhm (k:=k) ho hx).2 h
   unfold lt at this
   rw [e,kp.less_irrefl] at this; cases this
  have h2:q = lowN l k:=by
   rcases Nat.lt_or_ge (lowN l k) q with h | h
   ·obtain ⟨y,hy⟩:∃ y,l[lowN l k]? = some y:=⟨_,List.getElem?_eq_getElem (Nat.lt_trans h (List.getElem?_eq_some_iff.1 hx).1)⟩
    have hyx:lt y.key x.key = true:=by
     have:=List.pairwise_iff_getElem.1 ho _ _ (List.getElem?_eq_some_iff.1 hy).1 (List.getElem?_eq_some_iff.1 hx).1 h
     rw [(List.getElem?_eq_some_iff.1 hy).2,(List.getElem?_eq_some_iff.1 hx).2] at this
     exact this
    have hyk:lt y.key k = true:=by unfold lt at hyx ⊢; rw [← e]; exact hyx
    have:=(zhm (k:=k) ho hy).1 hyk
    omega
   ·omega
  have h3:hasK l k = true:=by unfold hasK; rw [← h2,hx]; exact he
  rw [h3,h2]; simp
 | false =>
  cases hh:hasK l k with
  | false=>rfl
  | true =>
   unfold hasK at hh
   have:(q == lowN l k) = false:=by
    rw [beq_eq_false_iff_ne]
    intro e
    rw [← e,hx] at hh
    have hh':(x.key.toList == k.toList) = true:=hh
    rw [hh'] at he; cases he
   rw [this]; rfl
/-! ### percolate/percolateref09.Get -/
def r_r9G_0:Reg:=⟨[],[⟨.mv (.c (.str ⟨#[]⟩)),some 4,none,[],[]⟩,⟨.mv (.c (.bool false)),some 5,none,[],[]⟩],[],[],false⟩
def r_r9G_1:Reg:=⟨[],[⟨.mv (.c (.int .i64 0)),some 6,none,[],[]⟩],[],[],false⟩
def zno:List ROp:=[⟨.mv (.t 6),some 7,none,[],[]⟩,⟨.mv (.t 0),some 8,none,[],[]⟩,⟨.len false (.t 8),some 9,none,[],[]⟩,⟨.bin .lss (.t 7) (.t 9),some 10,none,[],[]⟩]
def r_r9G_2:Reg:=⟨[],zno,[],[],false⟩
def znn:List ROp:=[⟨.mv (.t 0),some 13,none,[],[]⟩,⟨.mv (.t 6),some 14,none,[],[]⟩,⟨.iaddr 2 (.t 13) (.t 14),some 15,none,[],[]⟩,⟨.faddr 0 (.t 15),some 16,none,[],[]⟩,⟨.load 1 false (.t 16),some 17,none,[],[]⟩,⟨.mv (.t 1),some 18,none,[],[]⟩,⟨.bin .eql (.t 17) (.t 18),some 19,none,[],[]⟩]
def r_r9G_3:Reg:=⟨[],znn,[],[],false⟩
def znm:List ROp:=[⟨.mv (.t 0),some 20,none,[],[]⟩,⟨.mv (.t 6),some 21,none,[],[]⟩,⟨.iaddr 2 (.t 20) (.t 21),some 22,none,[],[]⟩,⟨.faddr 1 (.t 22),some 23,none,[],[]⟩,⟨.load 1 false (.t 23),some 24,none,[],[]⟩,⟨.mv (.t 24),some 4,none,[],[]⟩,⟨.mv (.c (.bool true)),some 5,none,[],[]⟩]
def r_r9G_4:Reg:=⟨[],znm,[],[],false⟩
def znl:List ROp:=[⟨.mv (.t 6),some 11,none,[],[]⟩,⟨.bin .add (.t 11) (.c (.int .i64 1)),some 12,none,[],[]⟩,⟨.mv (.t 12),some 6,none,[],[]⟩]
def r_r9G_5:Reg:=⟨[],znl,[],[],false⟩
def zun:IR:=(.seq (.seq (.reg r_r9G_2)
 (.cond (.t 10) .skip
 (.exit 0)))
 (.seq (.block 1 (.seq (.reg r_r9G_3)
 (.cond (.t 19) (.seq (.reg r_r9G_4)
 .ret)
 .skip)))
 (.reg r_r9G_5)))
def r_r9G_7:Reg:=⟨[],[⟨.mv (.c (.str ⟨#[]⟩)),some 4,none,[],[]⟩,⟨.mv (.c (.bool false)),some 5,none,[],[]⟩],[],[],false⟩
def ir_r9G:IR:=(.seq (.reg r_r9G_0)
 (.seq (.seq (.reg r_r9G_1)
 (.block 0 (.loop zun)))
 (.seq (.reg r_r9G_7)
 .ret)))
def res_r9G:List RDesc:=[(.tmp 4),(.tmp 5)]
theorem e_r9G_0:EqR r_r9G_0 [⟨.mv (.c (.str ⟨#[]⟩)),some 4,none,[],[]⟩,⟨.mv (.c (.bool false)),some 5,none,[],[]⟩] []:=fun _ _ _=>rfl
theorem e_r9G_1:EqR r_r9G_1 [⟨.mv (.c (.int .i64 0)),some 6,none,[],[]⟩] []:=fun _ _ _=>rfl
theorem e_r9G_2:EqR r_r9G_2 zno []:=fun _ _ _=>rfl
theorem e_r9G_3:EqR r_r9G_3 znn []:=fun _ _ _=>rfl
theorem e_r9G_4:EqR r_r9G_4 znm []:=fun _ _ _=>rfl
theorem e_r9G_5:EqR r_r9G_5 znl []:=fun _ _ _=>rfl
theorem e_r9G_7:EqR r_r9G_7 [⟨.mv (.c (.str ⟨#[]⟩)),some 4,none,[],[]⟩,⟨.mv (.c (.bool false)),some 5,none,[],[]⟩] []:=fun _ _ _=>rfl
theorem fn_r9G {args:List AV} {r:AV} (ha:args.length.ble Try.f42.ntmps = true) (h:run (AFn Try.prog) ir_r9G (endQ res_r9G r) (z0b args)):AFn Try.prog 42 args r :=
 AFn.of_code (pv:=false) (hint:=fun _=>[]) (c:=Try.f42.body.getD .skip) (by kernel_rfl) (by kernel_rfl) Try.func42 (by kernel_rfl) (by kernel_rfl) (by kernel_rfl) (of_decide_eq_true (by kernel_rfl)) (Nat.le_of_ble_eq_true ha) (Nat.le_of_ble_eq_true (by kernel_rfl)) (z09 h)
/-! ### percolate/percolateref09.Scan -/
def zum:Reg:=⟨[],[⟨.box 3 66 (.t 1),some 4,none,[6],[]⟩,⟨.mknil 2 58,some 6,none,[],[]⟩],[4,6],[],false⟩
def zul:Reg:=⟨[],[⟨.mknil 2 58,some 7,none,[],[]⟩],[7],[],false⟩
def zuk:Reg:=⟨[],[⟨.mv (.c (.int .i64 0)),some 8,none,[],[]⟩],[],[],false⟩
def zgc:List ROp:=[⟨.mv (.t 8),some 9,none,[],[]⟩,⟨.mv (.t 0),some 10,none,[],[]⟩,⟨.len false (.t 10),some 11,none,[],[]⟩,⟨.bin .lss (.t 9) (.t 11),some 12,none,[],[]⟩]
def zuj:Reg:=⟨[],zgc,[],[],false⟩
def zgb:List ROp:=[⟨.bin .lss (.t 24) (.t 25),some 26,(some (22,true)),[],[]⟩,⟨.pick (.t 22) (.t 26) (.c (.bool false)),some 27,none,[],[]⟩]
def zho:List ROp:=[⟨.load 3 true (.t 4),some 15,none,[21],[]⟩,⟨.mv (.t 0),some 16,none,[21],[]⟩,⟨.mv (.t 8),some 17,none,[21],[]⟩,⟨.iaddr 2 (.t 16) (.t 17),some 18,none,[21],[]⟩,⟨.faddr 0 (.t 18),some 19,none,[21],[]⟩,⟨.load 1 false (.t 19),some 20,none,[21],[]⟩,⟨.callv (.c (.clo 56 [] [])) [(.t 15),(.t 20)],some 21,none,[],[]⟩,⟨.mv (.t 21),some 22,none,[],[]⟩,⟨.mv (.t 7),some 23,(some (22,true)),[],[]⟩,⟨.len false (.t 23),some 24,(some (22,true)),[],[]⟩,⟨.mv (.t 2),some 25,(some (22,true)),[],[]⟩]
def zui:Reg:=⟨zho,zgb,[21],[],true⟩
def zga:List ROp:=[⟨.mv (.t 7),some 28,none,[33],[]⟩,⟨.mv (.t 0),some 29,none,[33],[]⟩,⟨.mv (.t 8),some 30,none,[33],[]⟩,⟨.iaddr 2 (.t 29) (.t 30),some 31,none,[33],[]⟩,⟨.load 2 true (.t 31),some 32,none,[33],[]⟩,⟨.bsl 2 58 [(.t 32)],some 33,none,[],[]⟩,⟨.append 2 58 32 (.t 28) (.t 33),some 34,none,[],[]⟩,⟨.mv (.t 34),some 7,none,[],[]⟩]
def zuh:Reg:=⟨[],zga,[33],[],false⟩
def zg9:List ROp:=[⟨.mv (.t 8),some 13,none,[],[]⟩,⟨.bin .add (.t 13) (.c (.int .i64 1)),some 14,none,[],[]⟩,⟨.mv (.t 14),some 8,none,[],[]⟩]
def zug:Reg:=⟨[],zg9,[],[],false⟩
def zke:IR:=(.seq (.seq (.reg zuj)
 (.cond (.t 12) .skip
 (.exit 0)))
 (.seq (.block 1 (.seq (.reg zui)
 (.cond (.t 27) (.reg zuh)
 .skip)))
 (.reg zug)))
def zuf:Reg:=⟨[],[⟨.mv (.t 7),some 35,none,[],[]⟩,⟨.mv (.t 35),some 6,none,[],[]⟩],[],[],false⟩
def ir_r9Sc:IR:=(.seq (.reg zum)
 (.seq (.reg zul)
 (.seq (.seq (.reg zuk)
 (.block 0 (.loop zke)))
 (.seq (.reg zuf)
 .ret))))
def zsc:List RDesc:=[(.tmp 6)]
theorem e_r9Sc_0:EqR zum [⟨.box 3 66 (.t 1),some 4,none,[6],[]⟩,⟨.mknil 2 58,some 6,none,[],[]⟩] [4,6]:=fun _ _ _=>rfl
theorem e_r9Sc_1:EqR zul [⟨.mknil 2 58,some 7,none,[],[]⟩] [7]:=fun _ _ _=>rfl
theorem e_r9Sc_2:EqR zuk [⟨.mv (.c (.int .i64 0)),some 8,none,[],[]⟩] []:=fun _ _ _=>rfl
theorem e_r9Sc_3:EqR zuj zgc []:=fun _ _ _=>rfl
theorem e_r9Sc_4 (C:FuncId->List AV->AV->Prop) (σ:St) (K:St->Prop):z0l C zui σ K = z0a C [] zgb zho (σ.kills [21]) K:=rfl
theorem e_r9Sc_5:EqR zuh zga [33]:=fun _ _ _=>rfl
theorem e_r9Sc_6:EqR zug zg9 []:=fun _ _ _=>rfl
theorem e_r9Sc_8:EqR zuf [⟨.mv (.t 7),some 35,none,[],[]⟩,⟨.mv (.t 35),some 6,none,[],[]⟩] []:=fun _ _ _=>rfl
theorem fn_r9Sc {args:List AV} {r:AV} (ha:args.length.ble Try.f43.ntmps = true) (h:run (AFn Try.prog) ir_r9Sc (endQ zsc r) (z0b args)):AFn Try.prog 43 args r :=
 AFn.of_code (pv:=false) (hint:=fun _=>[]) (c:=Try.f43.body.getD .skip) (by kernel_rfl) (by kernel_rfl) Try.func43 (by kernel_rfl) (by kernel_rfl) (by kernel_rfl) (of_decide_eq_true (by kernel_rfl)) (Nat.le_of_ble_eq_true ha) (Nat.le_of_ble_eq_true (by kernel_rfl)) (z09 h)
/-! ### percolate/model.Scan -/
def r_mSc_0:Reg:=⟨[],[⟨.box 3 66 (.t 1),some 4,none,[6],[]⟩,⟨.mknil 2 58,some 6,none,[],[]⟩],[4,6],[],false⟩
def r_mSc_1:Reg:=⟨[],[⟨.mknil 2 58,some 7,none,[],[]⟩],[7],[],false⟩
def zof:List ROp:=[⟨.mv (.t 0),some 10,none,[],[]⟩,⟨.len false (.t 10),some 11,none,[],[]⟩,⟨.mv (.c (.int .i64 0)),some 12,none,[],[]⟩]
def r_mSc_2:Reg:=⟨[],zof,[],[],false⟩
def r_mSc_3:Reg:=⟨[],[⟨.bin .lss (.t 12) (.t 11),some 13,none,[],[]⟩],[],[],false⟩
def zoe:List ROp:=[⟨.iaddr 2 (.t 10) (.t 12),some 14,none,[9],[]⟩,⟨.load 2 true (.t 14),some 15,none,[9],[]⟩,⟨.alloc 2 58 (.agg [(.str ⟨#[]⟩),(.str ⟨#[]⟩)]),some 9,none,[],[]⟩,⟨.store 2 (.t 9) (.t 15),none,none,[],[]⟩]
def r_mSc_4:Reg:=⟨[],zoe,[9],[],false⟩
def zod:List ROp:=[⟨.mv (.t 7),some 16,none,[],[]⟩,⟨.len false (.t 16),some 17,none,[],[]⟩,⟨.mv (.t 2),some 18,none,[],[]⟩,⟨.bin .geq (.t 17) (.t 18),some 19,none,[],[]⟩]
def r_mSc_5:Reg:=⟨[],zod,[],[],false⟩
def zoc:List ROp:=[⟨.load 3 true (.t 4),some 20,none,[23],[]⟩,⟨.faddr 0 (.t 9),some 21,none,[23],[]⟩,⟨.load 1 false (.t 21),some 22,none,[23],[]⟩,⟨.callv (.c (.clo 66 [] [])) [(.t 20),(.t 22)],some 23,none,[],[]⟩]
def r_mSc_6:Reg:=⟨[],zoc,[23],[],false⟩
def zob:List ROp:=[⟨.mv (.t 7),some 24,none,[26],[]⟩,⟨.load 2 true (.t 9),some 25,none,[26],[]⟩,⟨.bsl 2 58 [(.t 25)],some 26,none,[],[]⟩,⟨.append 2 58 32 (.t 24) (.t 26),some 27,none,[],[]⟩,⟨.mv (.t 27),some 7,none,[],[]⟩]
def r_mSc_7:Reg:=⟨[],zob,[26],[],false⟩
def r_mSc_8:Reg:=⟨[],[⟨.bin .add (.t 12) (.c (.int .i64 1)),some 28,none,[],[]⟩,⟨.mv (.t 28),some 12,none,[],[]⟩],[],[],false⟩
def zva:IR:=(.seq (.reg r_mSc_3)
 (.seq (.cond (.t 13) .skip
 (.exit 0))
 (.seq (.block 1 (.seq (.reg r_mSc_4)
 (.seq (.seq (.reg r_mSc_5)
 (.cond (.t 19) (.exit 0)
 .skip))
 (.seq (.reg r_mSc_6)
 (.cond (.t 23) (.reg r_mSc_7)
 .skip)))))
 (.reg r_mSc_8))))
def zvb:Reg:=⟨[],[⟨.mv (.t 7),some 29,none,[],[]⟩,⟨.mv (.t 29),some 6,none,[],[]⟩],[],[],false⟩
def ir_mSc:IR:=(.seq (.reg r_mSc_0)
 (.seq (.reg r_mSc_1)
 (.seq (.seq (.reg r_mSc_2)
 (.block 0 (.loop zva)))
 (.seq (.reg zvb)
 .ret))))
def res_mSc:List RDesc:=[(.tmp 6)]
theorem e_mSc_0:EqR r_mSc_0 [⟨.box 3 66 (.t 1),some 4,none,[6],[]⟩,⟨.mknil 2 58,some 6,none,[],[]⟩] [4,6]:=fun _ _ _=>rfl
theorem e_mSc_1:EqR r_mSc_1 [⟨.mknil 2 58,some 7,none,[],[]⟩] [7]:=fun _ _ _=>rfl
theorem e_mSc_2:EqR r_mSc_2 zof []:=fun _ _ _=>rfl
theorem e_mSc_3:EqR r_mSc_3 [⟨.bin .lss (.t 12) (.t 11),some 13,none,[],[]⟩] []:=fun _ _ _=>rfl
theorem e_mSc_4:EqR r_mSc_4 zoe [9]:=fun _ _ _=>rfl
theorem e_mSc_5:EqR r_mSc_5 zod []:=fun _ _ _=>rfl
theorem e_mSc_6:EqR r_mSc_6 zoc [23]:=fun _ _ _=>rfl
theorem e_mSc_7:EqR r_mSc_7 zob [26]:=fun _ _ _=>rfl
theorem e_mSc_8:EqR r_mSc_8 [⟨.bin .add (.t 12) (.c (.int .i64 1)),some 28,none,[],[]⟩,⟨.mv (.t 28),some 12,none,[],[]⟩] []:=fun _ _ _=>rfl
theorem e_mSc_10:EqR zvb [⟨.mv (.t 7),some 29,none,[],[]⟩,⟨.mv (.t 29),some 6,none,[],[]⟩] []:=fun _ _ _=>rfl
theorem fn_mSc {args:List AV} {r:AV} (ha:args.length.ble Try.f48.ntmps = true) (h:run (AFn Try.prog) ir_mSc (endQ res_mSc r) (z0b args)):AFn Try.prog 48 args r :=
 AFn.of_code (pv:=false) (hint:=fun _=>[]) (c:=Try.f48.body.getD .skip) (by kernel_rfl) (by kernel_rfl) Try.func48 (by kernel_rfl) (by kernel_rfl) (by kernel_rfl) (of_decide_eq_true (by kernel_rfl)) (Nat.le_of_ble_eq_true ha) (Nat.le_of_ble_eq_true (by kernel_rfl)) (z09 h)
/-! ### percolate/op.Writes -/
def r_opW_0:Reg:=⟨[],[⟨.box 6 26 (.t 0),some 1,none,[],[]⟩,⟨.mv (.c (.bool false)),some 2,none,[],[]⟩],[1],[],false⟩
def znx:List ROp:=[⟨.faddr 0 (.t 1),some 3,none,[],[]⟩,⟨.load 1 false (.t 3),some 4,none,[],[]⟩,⟨.bin .geq (.t 4) (.c (.int .i64 1)),some 5,none,[],[]⟩,⟨.mv (.t 5),some 6,none,[],[]⟩,⟨.faddr 0 (.t 1),some 7,(some (6,true)),[],[]⟩,⟨.load 1 false (.t 7),some 8,(some (6,true)),[],[]⟩,⟨.bin .leq (.t 8) (.c (.int .i64 4)),some 9,(some (6,true)),[],[]⟩,⟨.pick (.t 6) (.t 9) (.c (.bool false)),some 10,none,[],[]⟩,⟨.mv (.t 10),some 2,none,[],[]⟩]
def r_opW_1:Reg:=⟨[],znx,[],[],false⟩
def ir_opW:IR:=(.seq (.reg r_opW_0)
 (.seq (.reg r_opW_1)
 .ret))
def res_opW:List RDesc:=[(.tmp 2)]
theorem e_opW_0:EqR r_opW_0 [⟨.box 6 26 (.t 0),some 1,none,[],[]⟩,⟨.mv (.c (.bool false)),some 2,none,[],[]⟩] [1]:=fun _ _ _=>rfl
theorem e_opW_1:EqR r_opW_1 znx []:=fun _ _ _=>rfl
theorem fn_opW {args:List AV} {r:AV} (ha:args.length.ble Try.f36.ntmps = true) (h:run (AFn Try.prog) ir_opW (endQ res_opW r) (z0b args)):AFn Try.prog 36 args r :=
 AFn.of_code (pv:=false) (hint:=fun _=>[]) (c:=Try.f36.body.getD .skip) (by kernel_rfl) (by kernel_rfl) Try.func36 (by kernel_rfl) (by kernel_rfl) (by kernel_rfl) (of_decide_eq_true (by kernel_rfl)) (Nat.le_of_ble_eq_true ha) (Nat.le_of_ble_eq_true (by kernel_rfl)) (z09 h)
/-! ### percolate/op.Message -/
def zo1:List ROp:=[⟨.box 6 26 (.t 0),some 2,none,[4],[]⟩,⟨.alloc 6 70 (.agg [(.int .i64 0),(.int .i64 0),(.str ⟨#[]⟩),(.str ⟨#[]⟩),(.bool false),(.str ⟨#[]⟩)]),some 4,none,[],[]⟩,⟨.mv (.c (.bool false)),some 5,none,[],[]⟩]
def r_opM_0:Reg:=⟨[],zo1,[2,4],[],false⟩
def zo0:List ROp:=[⟨.load 6 true (.t 2),some 6,none,[7,11],[]⟩,⟨.callv (.c (.clo 46 [] [])) [(.t 6)],some 7,none,[11],[]⟩,⟨.bin .neq (.t 7) (.c (.int .i64 0)),some 8,none,[11],[]⟩,⟨.mv (.t 8),some 9,none,[11],[]⟩,⟨.load 6 true (.t 2),some 10,(some (9,false)),[11],[]⟩,⟨.callv (.c (.clo 36 [] [])) [(.t 10)],some 11,(some (9,false)),[],[]⟩,⟨.un .not (.t 11),some 12,(some (9,false)),[],[]⟩,⟨.pick (.t 9) (.c (.bool true)) (.t 12),some 13,none,[],[]⟩,⟨.mv (.t 13),some 14,none,[],[]⟩,⟨.mv (.t 1),some 15,(some (14,false)),[],[]⟩,⟨.bin .lss (.t 15) (.c (.int .i64 1)),some 16,(some (14,false)),[],[]⟩,⟨.pick (.t 14) (.c (.bool true)) (.t 16),some 17,none,[],[]⟩]
def r_opM_1:Reg:=⟨[],zo0,[7,11],[],false⟩
def znz:List ROp:=[⟨.bld [(.int .i64 0),(.int .i64 0),(.str ⟨#[]⟩),(.str ⟨#[]⟩),(.bool false),(.str ⟨#[]⟩)] [],some 18,none,[],[]⟩,⟨.store 6 (.t 4) (.t 18),none,none,[],[]⟩,⟨.mv (.c (.bool false)),some 5,none,[],[]⟩]
def r_opM_2:Reg:=⟨[],znz,[],[],false⟩
def zny:List ROp:=[⟨.mv (.t 1),some 19,none,[],[]⟩,⟨.faddr 0 (.t 2),some 20,none,[],[]⟩,⟨.load 1 false (.t 20),some 21,none,[],[]⟩,⟨.faddr 1 (.t 2),some 22,none,[],[]⟩,⟨.load 1 false (.t 22),some 23,none,[],[]⟩,⟨.faddr 2 (.t 2),some 24,none,[],[]⟩,⟨.load 1 false (.t 24),some 25,none,[],[]⟩,⟨.faddr 3 (.t 2),some 26,none,[],[]⟩,⟨.load 1 false (.t 26),some 27,none,[],[]⟩,⟨.faddr 4 (.t 2),some 28,none,[],[]⟩,⟨.load 1 false (.t 28),some 29,none,[],[]⟩,⟨.bld [(.int .i64 0),(.int .i64 0),(.str ⟨#[]⟩),(.str ⟨#[]⟩),(.bool false),(.str ⟨#[]⟩)] [⟨0,1,(.t 19)⟩,⟨1,1,(.t 21)⟩,⟨2,1,(.t 23)⟩,⟨3,1,(.t 25)⟩,⟨4,1,(.t 27)⟩,⟨5,1,(.t 29)⟩],some 30,none,[],[]⟩,⟨.store 6 (.t 4) (.t 30),none,none,[],[]⟩,⟨.mv (.c (.bool true)),some 5,none,[],[]⟩]
def r_opM_3:Reg:=⟨[],zny,[],[],false⟩
def ir_opM:IR:=(.seq (.reg r_opM_0)
 (.seq (.seq (.reg r_opM_1)
 (.cond (.t 17) (.seq (.reg r_opM_2)
 .ret)
 .skip))
 (.seq (.reg r_opM_3)
 .ret)))
def res_opM:List RDesc:=[(.cell 4 6 true),(.tmp 5)]
theorem e_opM_0:EqR r_opM_0 zo1 [2,4]:=fun _ _ _=>rfl
theorem e_opM_1:EqR r_opM_1 zo0 [7,11]:=fun _ _ _=>rfl
theorem e_opM_2:EqR r_opM_2 znz []:=fun _ _ _=>rfl
theorem e_opM_3:EqR r_opM_3 zny []:=fun _ _ _=>rfl
theorem fn_opM {args:List AV} {r:AV} (ha:args.length.ble Try.f50.ntmps = true) (h:run (AFn Try.prog) ir_opM (endQ res_opM r) (z0b args)):AFn Try.prog 50 args r :=
 AFn.of_code (pv:=false) (hint:=fun _=>[]) (c:=Try.f50.body.getD .skip) (by kernel_rfl) (by kernel_rfl) Try.func50 (by kernel_rfl) (by kernel_rfl) (by kernel_rfl) (of_decide_eq_true (by kernel_rfl)) (Nat.le_of_ble_eq_true ha) (Nat.le_of_ble_eq_true (by kernel_rfl)) (z09 h)
attribute [local go_sem ↓] ir_r9G
attribute [local go_sem] res_r9G e_r9G_0 e_r9G_1 e_r9G_2 zno e_r9G_3 znn e_r9G_4 znm e_r9G_5 znl e_r9G_7
attribute [local go_sem ↓] ir_r9Sc
attribute [local go_sem] zsc e_r9Sc_0 e_r9Sc_1 e_r9Sc_2 e_r9Sc_3 zgc e_r9Sc_4 zgb zho e_r9Sc_5 zga e_r9Sc_6 zg9 e_r9Sc_8
attribute [local go_sem ↓] ir_mSc
attribute [local go_sem] res_mSc e_mSc_0 e_mSc_1 e_mSc_2 zof e_mSc_3 e_mSc_4 zoe e_mSc_5 zod e_mSc_6 zoc e_mSc_7 zob e_mSc_8 e_mSc_10
attribute [local go_sem ↓] ir_opW
attribute [local go_sem] res_opW e_opW_0 e_opW_1 znx
attribute [local go_sem ↓] ir_opM
attribute [local go_sem] res_opM e_opM_0 zo1 e_opM_1 zo0 e_opM_2 znz e_opM_3 zny
def r9GI (l:List Par) (k:ByteArray) (m:Nat) (σ:St):Prop :=
 ∃ i:Nat,i≤l.length∧m = l.length - i∧(hasK l k = true->i≤lowN l k)∧σ.T 0 = .sl (l.map Par.a)∧σ.T 1 = .str k∧σ.T 6 = .int .i64 i
set_option maxHeartbeats 4000000 in
theorem r9G_ok (l:List Par) (k:ByteArray) (ho:KOrd l) (hl:l.length≤1000000):AFn Try.prog 42 [.sl (l.map Par.a),.str k] (.tup [.str (valK l k),.bool (hasK l k)]):=by
 refine fn_r9G rfl ?_
 simp (maxSteps:=9^7) only [go_sem,↓reduceIte,reduceCtorEq,Nat.reduceEqDiff,Nat.reduceBEq,Nat.reduceAdd,Nat.reduceSub,Nat.reduceMul,Nat.reduceLT,Nat.reduceLeDiff,Nat.reduceBNe,Int.reduceBEq,Int.reduceBNe,Int.reduceLT,Int.reduceLE,Par.a,nul,Spn.a]
 refine z0f (r9GI l k) (k:=l.length) ⟨0,Nat.zero_le _,rfl,fun _=>Nat.zero_le _,?_,?_,?_⟩ ?_
 iterate 3 focus ((simp (maxSteps:=9^7) only [go_sem,↓reduceIte,reduceCtorEq,Nat.reduceEqDiff,Nat.reduceBEq,Nat.reduceAdd,Nat.reduceSub,Nat.reduceMul,Nat.reduceLT,Nat.reduceLeDiff,Nat.reduceBNe,Int.reduceBEq,Int.reduceBNe,Int.reduceLT,Int.reduceLE,Par.a,nul,Spn.a]) <;> rfl)
 rintro m σ ⟨i,hi,rfl,hpre,t0,t1,t6⟩
 simp only [zun]
 by_cases hlt:i < l.length
 case neg =>
  have hlt':¬ (i:Int) < (l.length:Int):=by omega
  have hh:hasK l k = false:=by
   cases hh:hasK l k with
   | false=>rfl
   | true =>
    have:=hpre hh
    unfold hasK at hh
    rw [List.getElem?_eq_none (by omega)] at hh; cases hh
  have hv:valK l k = nul:=by unfold valK; rw [hh]; rfl
  rw [hh,hv]
  simp (maxSteps:=9^7) only [go_sem,↓reduceIte,reduceCtorEq,Nat.reduceEqDiff,Nat.reduceBEq,Nat.reduceAdd,Nat.reduceSub,Nat.reduceMul,Nat.reduceLT,Nat.reduceLeDiff,Nat.reduceBNe,Int.reduceBEq,Int.reduceBNe,Int.reduceLT,Int.reduceLE,Par.a,nul,Spn.a,t0,t1,t6,hlt',List.length_map]
 have hlt':(i:Int) < (l.length:Int):=by omega
 obtain ⟨x,hx⟩:=z1w hlt
 have hge:=z1b (f:=Par.a) hx
 simp only [Par.a] at hge
 have hw:=z5s (j:=i) (by omega)
 have hk:=keyAt (k:=k) ho hx
 cases he:(x.key.toList == k.toList) with
 | true =>
  rw [he] at hk
  have hk:=hk.symm
  rw [Bool.and_eq_true,beq_iff_eq] at hk
  have hv:valK l k = x.val:=by unfold valK; rw [hk.1,if_pos rfl,← hk.2,hx]
  rw [hk.1,hv]
  have z0:(0:Int)≤(i:Int):=Int.natCast_nonneg i
  simp (maxSteps:=9^7) only [go_sem,↓reduceIte,reduceCtorEq,Nat.reduceEqDiff,Nat.reduceBEq,Nat.reduceAdd,Nat.reduceSub,Nat.reduceMul,Nat.reduceLT,Nat.reduceLeDiff,Nat.reduceBNe,Int.reduceBEq,Int.reduceBNe,Int.reduceLT,Int.reduceLE,Par.a,nul,Spn.a,z0,t0,t1,t6,hlt',hlt,hge,he,List.length_map,Int.toNat_natCast]
 | false =>
  rw [he] at hk
  simp (maxSteps:=9^7) only [go_sem,↓reduceIte,reduceCtorEq,Nat.reduceEqDiff,Nat.reduceBEq,Nat.reduceAdd,Nat.reduceSub,Nat.reduceMul,Nat.reduceLT,Nat.reduceLeDiff,Nat.reduceBNe,Int.reduceBEq,Int.reduceBNe,Int.reduceLT,Int.reduceLE,Par.a,nul,Spn.a,t0,t1,t6,hlt',hlt,hge,he,hw,List.length_map,Int.toNat_natCast]
  (repeat refine And.intro (by omega) ?_)
  refine ⟨l.length - (i + 1),by omega,i + 1,by omega,rfl,fun hh=>?_,?_,?_,?_⟩
  ·have h1:=hpre hh
   rw [hh,Bool.true_and] at hk
   have:=beq_eq_false_iff_ne.1 hk.symm
   omega
  iterate 3 focus ((simp (maxSteps:=9^7) only [go_sem,↓reduceIte,reduceCtorEq,Nat.reduceEqDiff,Nat.reduceBEq,Nat.reduceAdd,Nat.reduceSub,Nat.reduceMul,Nat.reduceLT,Nat.reduceLeDiff,Nat.reduceBNe,Int.reduceBEq,Int.reduceBNe,Int.reduceLT,Int.reduceLE,Par.a,nul,Spn.a,t0,t1,hw]) <;> rfl)
/-! ### scans -/
def z0z (s:Spn) (n:Nat) (l:List Par):List Par:=(l.filter fun p=>s.has p.key).take n
theorem zii (s:Spn) (n:Nat) (l:List Par) (x:Par):z0z s n (l ++ [x]) = if s.has x.key && decide ((z0z s n l).length < n) then z0z s n l ++ [x] else z0z s n l:=by
 unfold z0z
 rw [List.filter_append]
 cases h:s.has x.key with
 | false=>simp [h]
 | true =>
  have e:List.filter (fun p=>s.has p.key) [x] = [x]:=by simp [h]
  rw [e,List.take_append,List.length_take]
  by_cases hn:(l.filter fun p=>s.has p.key).length < n
  ·obtain ⟨d,hd⟩:∃ d,n - (l.filter fun p=>s.has p.key).length = d + 1:=⟨n - (l.filter fun p=>s.has p.key).length - 1,by omega⟩
   rw [hd,Bool.true_and,decide_eq_true (by omega),if_pos rfl,List.take_of_length_le (l:=[x]) (by simp)]
  ·have hd:n - (l.filter fun p=>s.has p.key).length = 0:=by omega
   rw [hd,Bool.true_and,decide_eq_false (by omega),List.take_zero,List.append_nil]; rfl
theorem scan_full (s:Spn) (n:Nat) (l:List Par) (i:Nat) (h:n≤(z0z s n (l.take i)).length):z0z s n l = z0z s n (l.take i):=by
 unfold z0z at h ⊢
 rw [List.length_take] at h
 have e:l.filter (fun p=>s.has p.key) = (l.take i).filter (fun p=>s.has p.key) ++ (l.drop i).filter (fun p=>s.has p.key):=by rw [← List.filter_append,List.take_append_drop]
 rw [e,List.take_append_of_le_length (by omega)]
def r9ScI (l:List Par) (s:Spn) (n:Nat) (m:Nat) (σ:St):Prop :=
 ∃ i:Nat,i≤l.length∧m = l.length - i∧σ.T 0 = .sl (l.map Par.a)∧σ.T 2 = .int .i64 n∧σ.T 4 = .ptr 4 0 0∧σ.H 4 = some ⟨3,66,[s.a],0⟩∧σ.T 8 = .int .i64 i∧σ.T 7 = .rs 7 0 (z0z s n (l.take i)).length∧σ.H 7 = some ⟨2,58,(z0z s n (l.take i)).map Par.a,0⟩
set_option maxHeartbeats 8000000 in
theorem r9Sc_ok (l:List Par) (s:Spn) (n:Nat) (hs:SOk s) (hl:l.length≤1000000) (hk:∀ p,p ∈ l->p.key.size≤9223372036854775807) (hn:n≤1000000):AFn Try.prog 43 [.sl (l.map Par.a),s.a,.int .i64 n] (.own 2 58 ((z0z s n l).map Par.a)):=by
 refine fn_r9Sc rfl ?_
 have z:z0z s n (l.take 0) = []:=by simp [z0z]
 simp (maxSteps:=9^7) only [go_sem,↓reduceIte,reduceCtorEq,Nat.reduceEqDiff,Nat.reduceBEq,Nat.reduceAdd,Nat.reduceSub,Nat.reduceMul,Nat.reduceLT,Nat.reduceLeDiff,Nat.reduceBNe,Int.reduceBEq,Int.reduceBNe,Int.reduceLT,Int.reduceLE,Par.a,nul,Spn.a]
 refine z0f (r9ScI l s n) (k:=l.length) ⟨0,Nat.zero_le _,rfl,?_,?_,?_,?_,?_,?_,?_⟩ ?_
 iterate 5 focus ((simp (maxSteps:=9^7) only [go_sem,↓reduceIte,reduceCtorEq,Nat.reduceEqDiff,Nat.reduceBEq,Nat.reduceAdd,Nat.reduceSub,Nat.reduceMul,Nat.reduceLT,Nat.reduceLeDiff,Nat.reduceBNe,Int.reduceBEq,Int.reduceBNe,Int.reduceLT,Int.reduceLE,Par.a,nul,Spn.a]) <;> rfl)
 ·rw [z]; (simp (maxSteps:=9^7) only [go_sem,↓reduceIte,reduceCtorEq,Nat.reduceEqDiff,Nat.reduceBEq,Nat.reduceAdd,Nat.reduceSub,Nat.reduceMul,Nat.reduceLT,Nat.reduceLeDiff,Nat.reduceBNe,Int.reduceBEq,Int.reduceBNe,Int.reduceLT,Int.reduceLE,Par.a,nul,Spn.a]) <;> rfl
 ·rw [z]; (simp (maxSteps:=9^7) only [go_sem,↓reduceIte,reduceCtorEq,Nat.reduceEqDiff,Nat.reduceBEq,Nat.reduceAdd,Nat.reduceSub,Nat.reduceMul,Nat.reduceLT,Nat.reduceLeDiff,Nat.reduceBNe,Int.reduceBEq,Int.reduceBNe,Int.reduceLT,Int.reduceLE,Par.a,nul,Spn.a]) <;> rfl
 rintro m σ ⟨i,hi,rfl,t0,t2,t4,h4,t8,t7,h7⟩
 simp only [Spn.a] at h4
 simp only [zke]
 have hle:(z0z s n (l.take i)).length≤n:=by unfold z0z; rw [List.length_take]; omega
 by_cases hlt:i < l.length
 case neg =>
  have hlt':¬ (i:Int) < (l.length:Int):=by omega
  have e:l.take i = l:=List.take_of_length_le (by omega)
  rw [e] at t7 h7
  have tk:List.take (z0z s n l).length ((z0z s n l).map Par.a) = (z0z s n l).map Par.a:=List.take_of_length_le (by simp)
  simp (maxSteps:=9^7) only [go_sem,↓reduceIte,reduceCtorEq,Nat.reduceEqDiff,Nat.reduceBEq,Nat.reduceAdd,Nat.reduceSub,Nat.reduceMul,Nat.reduceLT,Nat.reduceLeDiff,Nat.reduceBNe,Int.reduceBEq,Int.reduceBNe,Int.reduceLT,Int.reduceLE,Par.a,nul,Spn.a,t0,t2,t4,h4,t8,t7,h7,hlt',tk,List.length_map]
 have hlt':(i:Int) < (l.length:Int):=by omega
 obtain ⟨x,hx⟩:=z1w hlt
 have hge:=z1b (f:=Par.a) hx
 simp only [Par.a] at hge
 have hw:=z5s (j:=i) (by omega)
 have c:=zss s x.key hs (hk x (List.mem_of_getElem? hx))
 simp only [Spn.a] at c
 have tk1:l.take (i + 1) = l.take i ++ [x]:=by rw [List.take_add_one,hx]; rfl
 have sn:=zii s n (l.take i) x
 rw [← tk1] at sn
 generalize hO:z0z s n (l.take i) = out at *
 cases hh:s.has x.key with
 | false =>
  rw [hh] at c sn
  have sn':z0z s n (l.take (i + 1)) = out:=sn
  (repeat (first | simp (maxSteps:=9^7) only [go_sem,↓reduceIte,reduceCtorEq,Nat.reduceEqDiff,Nat.reduceBEq,Nat.reduceAdd,Nat.reduceSub,Nat.reduceMul,Nat.reduceLT,Nat.reduceLeDiff,Nat.reduceBNe,Int.reduceBEq,Int.reduceBNe,Int.reduceLT,Int.reduceLE,Par.a,nul,Spn.a,t0,t2,t4,h4,t8,t7,h7,hlt',hlt,hge,hw,List.length_map,Int.toNat_natCast] | refine z01 (c) ?_ | refine z00 (c) ?_ | refine And.intro (by omega) ?_ | refine And.intro (fun d hd=>by (repeat (rcases hd with rfl | hd; · exact ⟨rfl,rfl⟩)); cases hd) ?_))
  refine ⟨l.length - (i + 1),by omega,i + 1,by omega,rfl,?_,?_,?_,?_,?_,?_,?_⟩
  iterate 5 focus ((simp (maxSteps:=9^7) only [go_sem,↓reduceIte,reduceCtorEq,Nat.reduceEqDiff,Nat.reduceBEq,Nat.reduceAdd,Nat.reduceSub,Nat.reduceMul,Nat.reduceLT,Nat.reduceLeDiff,Nat.reduceBNe,Int.reduceBEq,Int.reduceBNe,Int.reduceLT,Int.reduceLE,Par.a,nul,Spn.a,t0,t2,t4,h4,hw]) <;> rfl)
  ·rw [sn']; simp (maxSteps:=9^7) only [go_sem,↓reduceIte,reduceCtorEq,Nat.reduceEqDiff,Nat.reduceBEq,Nat.reduceAdd,Nat.reduceSub,Nat.reduceMul,Nat.reduceLT,Nat.reduceLeDiff,Nat.reduceBNe,Int.reduceBEq,Int.reduceBNe,Int.reduceLT,Int.reduceLE,Par.a,nul,Spn.a,t7]
  ·rw [sn']; simp (maxSteps:=9^7) only [go_sem,↓reduceIte,reduceCtorEq,Nat.reduceEqDiff,Nat.reduceBEq,Nat.reduceAdd,Nat.reduceSub,Nat.reduceMul,Nat.reduceLT,Nat.reduceLeDiff,Nat.reduceBNe,Int.reduceBEq,Int.reduceBNe,Int.reduceLT,Int.reduceLE,Par.a,nul,Spn.a,h7]
 | true =>
  rw [hh] at c sn
  by_cases hf:out.length < n
  ·have hf':(out.length:Int) < (n:Int):=by omega
   rw [Bool.true_and,decide_eq_true hf,if_pos rfl] at sn
   have tk:List.take out.length (out.map Par.a) = out.map Par.a:=List.take_of_length_le (by simp)
   have ho1:(out ++ [x]).map Par.a = out.map Par.a ++ [.agg [.str x.key,.str x.val]]:=List.map_append
   have ho2:(out ++ [x]).length = out.length + 1:=List.length_append
   (repeat (first | simp (maxSteps:=9^7) only [go_sem,↓reduceIte,reduceCtorEq,Nat.reduceEqDiff,Nat.reduceBEq,Nat.reduceAdd,Nat.reduceSub,Nat.reduceMul,Nat.reduceLT,Nat.reduceLeDiff,Nat.reduceBNe,Int.reduceBEq,Int.reduceBNe,Int.reduceLT,Int.reduceLE,Par.a,nul,Spn.a,t0,t2,t4,h4,t8,t7,h7,hlt',hlt,hge,hw,hf',tk,List.length_map,Int.toNat_natCast] | refine z01 (c) ?_ | refine z00 (c) ?_ | refine And.intro (by omega) ?_ | refine And.intro (fun d hd=>by (repeat (rcases hd with rfl | hd; · exact ⟨rfl,rfl⟩)); cases hd) ?_))
   refine ⟨⟨by omega,fun d hd=>?_⟩,l.length - (i + 1),by omega,i + 1,by omega,rfl,?_,?_,?_,?_,?_,?_,?_⟩
   ·rcases hd with rfl | hd
    ·exact ⟨rfl,rfl⟩
    ·cases hd
   iterate 5 focus ((simp (maxSteps:=9^7) only [go_sem,↓reduceIte,reduceCtorEq,Nat.reduceEqDiff,Nat.reduceBEq,Nat.reduceAdd,Nat.reduceSub,Nat.reduceMul,Nat.reduceLT,Nat.reduceLeDiff,Nat.reduceBNe,Int.reduceBEq,Int.reduceBNe,Int.reduceLT,Int.reduceLE,Par.a,nul,Spn.a,t0,t2,t4,h4,hw]) <;> rfl)
   ·rw [sn,ho2]; simp (maxSteps:=9^7) only [go_sem,↓reduceIte,reduceCtorEq,Nat.reduceEqDiff,Nat.reduceBEq,Nat.reduceAdd,Nat.reduceSub,Nat.reduceMul,Nat.reduceLT,Nat.reduceLeDiff,Nat.reduceBNe,Int.reduceBEq,Int.reduceBNe,Int.reduceLT,Int.reduceLE,Par.a,nul,Spn.a]
   ·rw [sn,ho1]; simp (maxSteps:=9^7) only [go_sem,↓reduceIte,reduceCtorEq,Nat.reduceEqDiff,Nat.reduceBEq,Nat.reduceAdd,Nat.reduceSub,Nat.reduceMul,Nat.reduceLT,Nat.reduceLeDiff,Nat.reduceBNe,Int.reduceBEq,Int.reduceBNe,Int.reduceLT,Int.reduceLE,Par.a,nul,Spn.a,h7,tk]
  ·have hf':¬ (out.length:Int) < (n:Int):=by omega
   rw [Bool.true_and,decide_eq_false hf] at sn
   have sn':z0z s n (l.take (i + 1)) = out:=sn
   (repeat (first | simp (maxSteps:=9^7) only [go_sem,↓reduceIte,reduceCtorEq,Nat.reduceEqDiff,Nat.reduceBEq,Nat.reduceAdd,Nat.reduceSub,Nat.reduceMul,Nat.reduceLT,Nat.reduceLeDiff,Nat.reduceBNe,Int.reduceBEq,Int.reduceBNe,Int.reduceLT,Int.reduceLE,Par.a,nul,Spn.a,t0,t2,t4,h4,t8,t7,h7,hlt',hlt,hge,hw,hf',List.length_map,Int.toNat_natCast] | refine z01 (c) ?_ | refine z00 (c) ?_ | refine And.intro (by omega) ?_ | refine And.intro (fun d hd=>by (repeat (rcases hd with rfl | hd; · exact ⟨rfl,rfl⟩)); cases hd) ?_))
   refine ⟨l.length - (i + 1),by omega,i + 1,by omega,rfl,?_,?_,?_,?_,?_,?_,?_⟩
   iterate 5 focus ((simp (maxSteps:=9^7) only [go_sem,↓reduceIte,reduceCtorEq,Nat.reduceEqDiff,Nat.reduceBEq,Nat.reduceAdd,Nat.reduceSub,Nat.reduceMul,Nat.reduceLT,Nat.reduceLeDiff,Nat.reduceBNe,Int.reduceBEq,Int.reduceBNe,Int.reduceLT,Int.reduceLE,Par.a,nul,Spn.a,t0,t2,t4,h4,hw]) <;> rfl)
   ·rw [sn']; simp (maxSteps:=9^7) only [go_sem,↓reduceIte,reduceCtorEq,Nat.reduceEqDiff,Nat.reduceBEq,Nat.reduceAdd,Nat.reduceSub,Nat.reduceMul,Nat.reduceLT,Nat.reduceLeDiff,Nat.reduceBNe,Int.reduceBEq,Int.reduceBNe,Int.reduceLT,Int.reduceLE,Par.a,nul,Spn.a,t7]
   ·rw [sn']; simp (maxSteps:=9^7) only [go_sem,↓reduceIte,reduceCtorEq,Nat.reduceEqDiff,Nat.reduceBEq,Nat.reduceAdd,Nat.reduceSub,Nat.reduceMul,Nat.reduceLT,Nat.reduceLeDiff,Nat.reduceBNe,Int.reduceBEq,Int.reduceBNe,Int.reduceLT,Int.reduceLE,Par.a,nul,Spn.a,h7]
def mScI (l:List Par) (s:Spn) (n:Nat) (m:Nat) (σ:St):Prop :=
 ∃ i:Nat,i≤l.length∧m = l.length - i∧σ.T 10 = .sl (l.map Par.a)∧σ.T 11 = .int .i64 l.length∧σ.T 2 = .int .i64 n∧σ.T 4 = .ptr 4 0 0∧σ.H 4 = some ⟨3,66,[s.a],0⟩∧σ.T 12 = .int .i64 i∧σ.T 7 = .rs 7 0 (z0z s n (l.take i)).length∧σ.H 7 = some ⟨2,58,(z0z s n (l.take i)).map Par.a,0⟩
set_option maxHeartbeats 8000000 in
theorem mSc_ok (l:List Par) (s:Spn) (n:Nat) (hl:l.length≤1000000) (hn:n≤1000000):AFn Try.prog 48 [.sl (l.map Par.a),s.a,.int .i64 n] (.own 2 58 ((z0z s n l).map Par.a)):=by
 refine fn_mSc rfl ?_
 have z:z0z s n (l.take 0) = []:=by simp [z0z]
 simp (maxSteps:=9^7) only [go_sem,↓reduceIte,reduceCtorEq,Nat.reduceEqDiff,Nat.reduceBEq,Nat.reduceAdd,Nat.reduceSub,Nat.reduceMul,Nat.reduceLT,Nat.reduceLeDiff,Nat.reduceBNe,Int.reduceBEq,Int.reduceBNe,Int.reduceLT,Int.reduceLE,Par.a,nul,Spn.a,List.length_map]
 refine z0f (mScI l s n) (k:=l.length) ⟨0,Nat.zero_le _,rfl,?_,?_,?_,?_,?_,?_,?_,?_⟩ ?_
 iterate 6 focus ((simp (maxSteps:=9^7) only [go_sem,↓reduceIte,reduceCtorEq,Nat.reduceEqDiff,Nat.reduceBEq,Nat.reduceAdd,Nat.reduceSub,Nat.reduceMul,Nat.reduceLT,Nat.reduceLeDiff,Nat.reduceBNe,Int.reduceBEq,Int.reduceBNe,Int.reduceLT,Int.reduceLE,Par.a,nul,Spn.a,List.length_map]) <;> rfl)
 ·rw [z]; (simp (maxSteps:=9^7) only [go_sem,↓reduceIte,reduceCtorEq,Nat.reduceEqDiff,Nat.reduceBEq,Nat.reduceAdd,Nat.reduceSub,Nat.reduceMul,Nat.reduceLT,Nat.reduceLeDiff,Nat.reduceBNe,Int.reduceBEq,Int.reduceBNe,Int.reduceLT,Int.reduceLE,Par.a,nul,Spn.a]) <;> rfl
 ·rw [z]; (simp (maxSteps:=9^7) only [go_sem,↓reduceIte,reduceCtorEq,Nat.reduceEqDiff,Nat.reduceBEq,Nat.reduceAdd,Nat.reduceSub,Nat.reduceMul,Nat.reduceLT,Nat.reduceLeDiff,Nat.reduceBNe,Int.reduceBEq,Int.reduceBNe,Int.reduceLT,Int.reduceLE,Par.a,nul,Spn.a]) <;> rfl
 rintro m σ ⟨i,hi,rfl,t10,t11,t2,t4,h4,t12,t7,h7⟩
 simp only [Spn.a] at h4
 simp only [zva]
 have hle:(z0z s n (l.take i)).length≤n:=by unfold z0z; rw [List.length_take]; omega
 by_cases hlt:i < l.length
 case neg =>
  have hlt':¬ (i:Int) < (l.length:Int):=by omega
  have e:l.take i = l:=List.take_of_length_le (by omega)
  rw [e] at t7 h7
  have tk:List.take (z0z s n l).length ((z0z s n l).map Par.a) = (z0z s n l).map Par.a:=List.take_of_length_le (by simp)
  simp (maxSteps:=9^7) only [go_sem,↓reduceIte,reduceCtorEq,Nat.reduceEqDiff,Nat.reduceBEq,Nat.reduceAdd,Nat.reduceSub,Nat.reduceMul,Nat.reduceLT,Nat.reduceLeDiff,Nat.reduceBNe,Int.reduceBEq,Int.reduceBNe,Int.reduceLT,Int.reduceLE,Par.a,nul,Spn.a,t10,t11,t2,t4,h4,t12,t7,h7,hlt',tk,List.length_map]
 have hlt':(i:Int) < (l.length:Int):=by omega
 obtain ⟨x,hx⟩:=z1w hlt
 have hge:=z1b (f:=Par.a) hx
 simp only [Par.a] at hge
 have hw:=z5s (j:=i) (by omega)
 have c:=zha s x.key
 simp only [Spn.a] at c
 have tk1:l.take (i + 1) = l.take i ++ [x]:=by rw [List.take_add_one,hx]; rfl
 have sn:=zii s n (l.take i) x
 rw [← tk1] at sn
 have sf:=scan_full s n l i
 generalize hO:z0z s n (l.take i) = out at *
 have tk:List.take out.length (out.map Par.a) = out.map Par.a:=List.take_of_length_le (by simp)
 by_cases hf:out.length < n
 case neg =>
  have hf':(out.length:Int) ≥ (n:Int):=by omega
  have hf2:(n:Int)≤(out.length:Int):=by omega
  rw [sf (by omega)]
  have z0:(0:Int)≤(i:Int):=Int.natCast_nonneg i
  simp (maxSteps:=9^7) only [go_sem,↓reduceIte,reduceCtorEq,Nat.reduceEqDiff,Nat.reduceBEq,Nat.reduceAdd,Nat.reduceSub,Nat.reduceMul,Nat.reduceLT,Nat.reduceLeDiff,Nat.reduceBNe,Int.reduceBEq,Int.reduceBNe,Int.reduceLT,Int.reduceLE,Par.a,nul,Spn.a,z0,t10,t11,t2,t4,h4,t12,t7,h7,hlt',hlt,hge,hf',hf2,tk,List.length_map,Int.toNat_natCast]
 have hf':¬ (out.length:Int) ≥ (n:Int):=by omega
 have hf2:¬ (n:Int)≤(out.length:Int):=by omega
 cases hh:s.has x.key with
 | false =>
  rw [hh] at c sn
  have sn':z0z s n (l.take (i + 1)) = out:=sn
  (repeat (first | simp (maxSteps:=9^7) only [go_sem,↓reduceIte,reduceCtorEq,Nat.reduceEqDiff,Nat.reduceBEq,Nat.reduceAdd,Nat.reduceSub,Nat.reduceMul,Nat.reduceLT,Nat.reduceLeDiff,Nat.reduceBNe,Int.reduceBEq,Int.reduceBNe,Int.reduceLT,Int.reduceLE,Par.a,nul,Spn.a,t10,t11,t2,t4,h4,t12,t7,h7,hlt',hlt,hge,hw,hf',hf2,List.length_map,Int.toNat_natCast] | refine z01 (c) ?_ | refine z00 (c) ?_ | refine And.intro (by omega) ?_ | refine And.intro (fun d hd=>by (repeat (rcases hd with rfl | hd; · exact ⟨rfl,rfl⟩)); cases hd) ?_))
  refine ⟨l.length - (i + 1),by omega,i + 1,by omega,rfl,?_,?_,?_,?_,?_,?_,?_,?_⟩
  iterate 6 focus ((simp (maxSteps:=9^7) only [go_sem,↓reduceIte,reduceCtorEq,Nat.reduceEqDiff,Nat.reduceBEq,Nat.reduceAdd,Nat.reduceSub,Nat.reduceMul,Nat.reduceLT,Nat.reduceLeDiff,Nat.reduceBNe,Int.reduceBEq,Int.reduceBNe,Int.reduceLT,Int.reduceLE,Par.a,nul,Spn.a,t10,t11,t2,t4,h4,hw]) <;> rfl)
  ·rw [sn']; simp (maxSteps:=9^7) only [go_sem,↓reduceIte,reduceCtorEq,Nat.reduceEqDiff,Nat.reduceBEq,Nat.reduceAdd,Nat.reduceSub,Nat.reduceMul,Nat.reduceLT,Nat.reduceLeDiff,Nat.reduceBNe,Int.reduceBEq,Int.reduceBNe,Int.reduceLT,Int.reduceLE,Par.a,nul,Spn.a,t7]
  ·rw [sn']; simp (maxSteps:=9^7) only [go_sem,↓reduceIte,reduceCtorEq,Nat.reduceEqDiff,Nat.reduceBEq,Nat.reduceAdd,Nat.reduceSub,Nat.reduceMul,Nat.reduceLT,Nat.reduceLeDiff,Nat.reduceBNe,Int.reduceBEq,Int.reduceBNe,Int.reduceLT,Int.reduceLE,Par.a,nul,Spn.a,h7]
 | true =>
  rw [hh] at c sn
  rw [Bool.true_and,decide_eq_true hf,if_pos rfl] at sn
  have ho1:(out ++ [x]).map Par.a = out.map Par.a ++ [.agg [.str x.key,.str x.val]]:=List.map_append
  have ho2:(out ++ [x]).length = out.length + 1:=List.length_append
  (repeat (first | simp (maxSteps:=9^7) only [go_sem,↓reduceIte,reduceCtorEq,Nat.reduceEqDiff,Nat.reduceBEq,Nat.reduceAdd,Nat.reduceSub,Nat.reduceMul,Nat.reduceLT,Nat.reduceLeDiff,Nat.reduceBNe,Int.reduceBEq,Int.reduceBNe,Int.reduceLT,Int.reduceLE,Par.a,nul,Spn.a,t10,t11,t2,t4,h4,t12,t7,h7,hlt',hlt,hge,hw,hf',hf2,tk,List.length_map,Int.toNat_natCast] | refine z01 (c) ?_ | refine z00 (c) ?_ | refine And.intro (by omega) ?_ | refine And.intro (fun d hd=>by (repeat (rcases hd with rfl | hd; · exact ⟨rfl,rfl⟩)); cases hd) ?_))
  refine ⟨⟨by omega,fun d hd=>?_⟩,l.length - (i + 1),by omega,i + 1,by omega,rfl,?_,?_,?_,?_,?_,?_,?_,?_⟩
  ·rcases hd with rfl | hd
   ·exact ⟨rfl,rfl⟩
   ·cases hd
  iterate 6 focus ((simp (maxSteps:=9^7) only [go_sem,↓reduceIte,reduceCtorEq,Nat.reduceEqDiff,Nat.reduceBEq,Nat.reduceAdd,Nat.reduceSub,Nat.reduceMul,Nat.reduceLT,Nat.reduceLeDiff,Nat.reduceBNe,Int.reduceBEq,Int.reduceBNe,Int.reduceLT,Int.reduceLE,Par.a,nul,Spn.a,t10,t11,t2,t4,h4,hw]) <;> rfl)
  ·rw [sn,ho2]; simp (maxSteps:=9^7) only [go_sem,↓reduceIte,reduceCtorEq,Nat.reduceEqDiff,Nat.reduceBEq,Nat.reduceAdd,Nat.reduceSub,Nat.reduceMul,Nat.reduceLT,Nat.reduceLeDiff,Nat.reduceBNe,Int.reduceBEq,Int.reduceBNe,Int.reduceLT,Int.reduceLE,Par.a,nul,Spn.a]
  ·rw [sn,ho1]; simp (maxSteps:=9^7) only [go_sem,↓reduceIte,reduceCtorEq,Nat.reduceEqDiff,Nat.reduceBEq,Nat.reduceAdd,Nat.reduceSub,Nat.reduceMul,Nat.reduceLT,Nat.reduceLeDiff,Nat.reduceBNe,Int.reduceBEq,Int.reduceBNe,Int.reduceLT,Int.reduceLE,Par.a,nul,Spn.a,h7,tk]
/-! ### an operation's message -/
def Opr.wr (o:Opr):Bool:=decide (1≤o.kind) && decide (o.kind≤4)
theorem opW_ok (o:Opr):AFn Try.prog 36 [o.a] (.bool o.wr):=by
 refine fn_opW rfl ?_
 unfold Opr.wr
 by_cases h1:1≤o.kind <;> by_cases h2:o.kind≤4 <;> (simp (maxSteps:=9^7) only [go_sem,↓reduceIte,reduceCtorEq,Nat.reduceEqDiff,Nat.reduceBEq,Nat.reduceAdd,Nat.reduceSub,Nat.reduceMul,Nat.reduceLT,Nat.reduceLeDiff,Nat.reduceBNe,Int.reduceBEq,Int.reduceBNe,Int.reduceLT,Int.reduceLE,Par.a,nul,Spn.a,Opr.a,h1,h2])
def Opr.msg (o:Opr):Msg:=⟨1,o.kind,o.key,o.hi,o.op,o.val⟩
theorem opM_ok (o:Opr) (h:o.key.size≤9000000000) (hr:o.right = true) (hw:o.wr = true):AFn Try.prog 50 [o.a,.int .i64 1] (.tup [o.msg.a,.bool true]):=by
 refine fn_opM rfl ?_
 have c1:=zlk o h
 have c2:=opW_ok o
 rw [hr,if_pos rfl] at c1
 rw [hw] at c2
 simp only [Opr.a] at c1 c2
 (repeat (first | simp (maxSteps:=9^7) only [go_sem,↓reduceIte,reduceCtorEq,Nat.reduceEqDiff,Nat.reduceBEq,Nat.reduceAdd,Nat.reduceSub,Nat.reduceMul,Nat.reduceLT,Nat.reduceLeDiff,Nat.reduceBNe,Int.reduceBEq,Int.reduceBNe,Int.reduceLT,Int.reduceLE,Par.a,nul,Spn.a,Opr.a,Msg.a,Opr.msg] | refine z01 (c1) ?_ | refine z00 (c1) ?_ | refine z01 (c2) ?_ | refine z00 (c2) ?_ | refine And.intro (by omega) ?_ | refine And.intro (fun d hd=>by (repeat (rcases hd with rfl | hd; · exact ⟨rfl,rfl⟩)); cases hd) ?_))
end
section
/-
 The law SqueezeOnce on the plain machine.
-/
open Go.RowKit
def onceP (l:List Msg):Prop:=∀ (i j:Nat) (m x:Msg),i < j->l[i]? = some m->l[j]? = some x->m.kind ≠ 4->(m.span.meet x.span).empty = true
end
section
/-
 What Squeeze leaves: of each key at most one behind the last Wipe that has it. No program.
-/
open Go.RowKit
theorem maxS_comm (a b:ByteArray):maxS a b = maxS b a:=by
 unfold maxS
 cases h:lt a b <;> cases h2:lt b a
 ·have:=kp.less_total _ _ h h2
  rw [ByteArray.toList_eq,ByteArray.toList_eq] at this
  simp only [Bool.false_eq_true,if_false]
  cases a; cases b; congr 1; exact Array.ext' this
 ·simp
 ·simp
 ·rw [show lt b a = false from kp.less_asymm _ _ h] at h2; cases h2
theorem minS_comm (a b:ByteArray):minS a b = minS b a:=by
 unfold minS
 cases h:lt a b <;> cases h2:lt b a
 ·have:=kp.less_total _ _ h h2
  rw [ByteArray.toList_eq,ByteArray.toList_eq] at this
  simp only [Bool.false_eq_true,if_false]
  cases a; cases b; congr 1; exact Array.ext' this
 ·simp
 ·simp
 ·rw [show lt b a = false from kp.less_asymm _ _ h] at h2; cases h2
theorem zln (a b:Spn):a.meet b = b.meet a:=by
 unfold Spn.meet Spn.cut
 rw [maxS_comm a.lo b.lo,minS_comm a.hi b.hi,Bool.and_comm a.op b.op]
 cases a.op <;> cases b.op <;> rfl
theorem z93:∀ a b:List UInt8,Op.bytesLess a b = true->Op.bytesLess b (a ++ [0]) = false
 | _,[],h=>by rw [kp.less_nil] at h; cases h
 | [],y :: ys,_=>by
  simp only [List.nil_append,kp.less_cons,kp.less_nil,Bool.and_false,Bool.or_false,decide_eq_false_iff_not]
  simp [UInt8.lt_iff_toNat_lt]
 | x :: xs,y :: ys,h=>by
  simp only [kp.less_cons,Bool.or_eq_true,decide_eq_true_eq,Bool.and_eq_true,beq_iff_eq] at h
  simp only [List.cons_append,kp.less_cons,Bool.or_eq_false_iff,decide_eq_false_iff_not,Bool.and_eq_false_iff,beq_eq_false_iff_ne]
  rcases h with h | ⟨rfl,h⟩
  ·exact ⟨fun h'=>kp.u8_lt_irrefl _ (kp.u8_lt_trans h h'),.inl (fun e=>by subst e; exact kp.u8_lt_irrefl _ h)⟩
  ·exact ⟨kp.u8_lt_irrefl _,.inr (z93 xs ys h)⟩
theorem z92 (a:ByteArray):(a ++ (⟨#[0]⟩:ByteArray)).toList = a.toList ++ [0]:=by
 rw [ByteArray.toList_eq,ByteArray.toList_eq,ByteArray.data_append,Array.toList_append]
theorem z6f:Spn.none.empty = true:=by decide +kernel
theorem zc0 {a b:ByteArray} (h:(z1v a).touch (z1v b) = true):a = b:=by
 have key:∀ x y:ByteArray,lt x y = true->(z1v x).meet (z1v y) = Spn.none:=by
  intro x y hxy
  have h1:lt y (x ++ ⟨#[0]⟩) = false:=by
   unfold lt; rw [z92]; exact z93 _ _ hxy
  have h2:maxS x y = y:=by unfold maxS; rw [if_pos hxy]
  unfold Spn.meet Spn.norm
  have:((z1v x).cut (z1v y)).empty = true:=by
   unfold Spn.cut Spn.empty z1v
   simp only [h2,Bool.and_false,Bool.not_false,Bool.true_and,Bool.false_eq_true,if_false,Bool.not_eq_true']
   unfold minS
   split
   ·rename_i h3
    cases h4:lt y (y ++ ⟨#[0]⟩) with
    | false=>rfl
    | true =>
     have:=kp.less_trans _ _ _ h4 h3
     rw [show Op.bytesLess y.toList (x ++ ⟨#[0]⟩).toList = false from h1] at this; cases this
   ·exact h1
  rw [if_pos this]
 cases h1:lt a b with
 | true=>unfold Spn.touch at h; rw [key a b h1,z6f] at h; cases h
 | false =>
  cases h2:lt b a with
  | true=>unfold Spn.touch at h; rw [zln,key b a h2,z6f] at h; cases h
  | false =>
   have:=kp.less_total _ _ h1 h2
   rw [ByteArray.toList_eq,ByteArray.toList_eq] at this
   cases a; cases b; congr 1; exact Array.ext' this
theorem z6p {p:Nat->Bool}:∀ {f j:Nat},z1y p f j = none->∀ k,j≤k->k < j + f->p k = false
 | 0,j,_,k,h1,h2=>by omega
 | f + 1,j,h,k,h1,h2=>by
  simp only [z1y] at h
  by_cases hp:p j = true
  ·rw [if_pos hp] at h; cases h
  ·rw [if_neg hp] at h
   by_cases e:k = j
   ·subst e; simpa using hp
   ·exact z6p h k (by omega) (by omega)
theorem zpy {l:List Msg} {i:Nat} {m:Msg} (hm:l[i]? = some m) (h:z4i l i = none) {k:Nat} {x:Msg} (hk:i + 1≤k) (hx:l[k]? = some x):x.span.touch m.span = false:=by
 unfold z4i at h
 rw [hm] at h
 have hl:=(List.getElem?_eq_some_iff.1 hx).1
 have:=z6p h k hk (by omega)
 simpa [hx] using this
theorem z60 {l:List Msg} {i j:Nat} {m x:Msg} (hm:l[i]? = some m) (h:z4i l i = some j) (hx:l[j]? = some x):x.span.touch m.span = true:=by
 unfold z4i at h
 rw [hm] at h
 have:=(z4q h).2.2
 simpa [hx] using this
theorem on_kind (m:Msg) (k:ByteArray):(m.on k).kind ≠ 4:=by
 unfold Msg.on Eff.none
 split
 ·split
  ·rename_i h; simp only; omega
  ·split <;> simp
 ·simp
theorem thenC_kind {a b:Eff} (ha:a.kind ≠ 4) (hb:b.kind ≠ 4):(a.thenC b).kind ≠ 4:=by
 unfold Eff.thenC
 split
 ·exact ha
 ·split
  ·exact hb
  ·simp only; split <;> omega
/-- a message and the next one that has to do with it,which adds -/
theorem zck {m x:Msg} (h1:m.kind ≠ 4) (h2:x.kind = 2) (ht:x.span.touch m.span = true):(z32 m x).2 = true∧(z32 m x).1.span = x.span∧(z32 m x).1.kind ≠ 4∧(z32 m x).1.hi = x.hi:=by
 have hx:x.span = z1v x.key:=by unfold Msg.span; rw [if_neg (by omega)]
 have hm:m.span = z1v m.key:=by unfold Msg.span; rw [if_neg h1]
 rw [hx,hm] at ht
 have hk:=zc0 ht
 have hj:z32 m x = ({ x with kind:=((m.on m.key).thenC (x.on x.key)).kind,val:=((m.on m.key).thenC (x.on x.key)).val },true):=by
  unfold z32
  rw [if_neg (by omega),if_neg (by intro h; rcases h with h | h | h; exact h1 h; omega; exact h hk.symm)]
 rw [hj]
 have hne:=thenC_kind (on_kind m m.key) (on_kind x x.key)
 refine ⟨rfl,?_,hne,rfl⟩
 show Msg.span _ = _
 unfold Msg.span
 simp only
 rw [if_neg hne,if_neg (by omega)]
def Bd (m:Msg):Prop:=m.key.size≤281474976710656∧m.hi.size≤281474976710656∧m.val.size≤4611686018427387903
structure SQ (i:Nat) (rest out:List Msg):Prop where
 pair:onceP out
 ahead:∀ m,m ∈ out->m.kind ≠ 4->∀ k x,i≤k->rest[k]? = some x->x.span.touch m.span = false
 bdR:∀ m,m ∈ rest->Bd m
 bdO:∀ m,m ∈ out->Bd m
 len:out.length≤i
theorem SQ.skip {i:Nat} {rest out:List Msg} (h:SQ i rest out):SQ (i + 1) rest out:=⟨h.pair,fun m hm h4 k x hk hx=>h.ahead m hm h4 k x (by omega) hx,h.bdR,h.bdO,by have:=h.len; omega⟩
theorem SQ.add {i:Nat} {rest out:List Msg} (h:SQ i rest out) {m:Msg} (hm:rest[i]? = some m) (hn:m.kind ≠ 4->z4i rest i = none):SQ (i + 1) rest (out ++ [m]):=by
 refine ⟨fun p q a x hpq hp hq h4=>?_,fun a ha h4 k x hk hx=>?_,h.bdR,fun a ha=>?_,by rw [List.length_append]; have:=h.len; simp; omega⟩
 ·have hql:=(List.getElem?_eq_some_iff.1 hq).1
  rw [List.length_append] at hql
  simp at hql
  have hpl:p < out.length:=by omega
  rw [List.getElem?_append_left hpl] at hp
  rcases Nat.lt_or_ge q out.length with h1 | h1
  ·rw [List.getElem?_append_left h1] at hq
   exact h.pair p q a x hpq hp hq h4
  ·rw [List.getElem?_append_right h1] at hq
   have:q = out.length:=by omega
   subst this
   simp at hq
   subst hq
   have:=h.ahead a (List.mem_of_getElem? hp) h4 i m (Nat.le_refl _) hm
   unfold Spn.touch at this
   rw [zln] at this
   simpa using this
 ·rcases List.mem_append.1 ha with ha | ha
  ·exact h.ahead a ha h4 k x (by omega) hx
  ·simp at ha; subst ha
   exact zpy hm (hn h4) hk hx
 ·rcases List.mem_append.1 ha with ha | ha
  ·exact h.bdO a ha
  ·simp at ha; subst ha
   exact h.bdR a (List.mem_of_getElem? hm)
end
section
/-
 What Squeeze keeps: to each text it does what it did,it takes no more,and a squeezed list stays so. No program.
-/
open Go.RowKit
theorem lt_eq {a b:ByteArray} (h1:lt a b = false) (h2:lt b a = false):a = b:=by
 have:=kp.less_total _ _ h1 h2
 rw [ByteArray.toList_eq,ByteArray.toList_eq] at this
 cases a; cases b; congr 1; exact Array.ext' this
theorem lt_tr {a b c:ByteArray} (h1:lt a b = true) (h2:lt b c = true):lt a c = true:=kp.less_trans _ _ _ h1 h2
theorem lt_ir (a:ByteArray):lt a a = false:=kp.less_irrefl _
/-- not behind,and not behind -/
theorem le_lt {a b c:ByteArray} (h1:lt b a = false) (h2:lt b c = true):lt a c = true:=by
 cases h:lt a b with
 | true=>exact lt_tr h h2
 | false=>rw [lt_eq h h1]; exact h2
theorem lt_le {a b c:ByteArray} (h1:lt a b = true) (h2:lt c b = false):lt a c = true:=by
 cases h:lt b c with
 | true=>exact lt_tr h1 h
 | false=>rw [lt_eq h2 h]; exact h1
theorem lt_max (x a b:ByteArray):lt x (maxS a b) = (lt x a || lt x b):=by
 unfold maxS
 split
 ·rename_i h
  cases h1:lt x a with
  | false=>simp
  | true=>rw [lt_tr h1 h]; rfl
 ·rename_i h
  cases h1:lt x b with
  | false=>simp
  | true=>rw [lt_le h1 (by simpa using h)]; rfl
theorem lt_min (x a b:ByteArray):lt x (minS a b) = (lt x a && lt x b):=by
 unfold minS
 split
 ·rename_i h
  cases h1:lt x b with
  | false=>simp
  | true=>rw [lt_tr h1 h]; rfl
 ·rename_i h
  cases h1:lt x a with
  | false=>simp
  | true=>rw [lt_le h1 (by simpa using h)]; rfl
theorem zlt:∀ a:List UInt8,Op.bytesLess a (a ++ [0]) = true
 | []=>kp.nil_less _ _
 | x :: xs=>by
  simp only [List.cons_append,kp.less_cons,zlt xs]
  simp
theorem lt_next (k:ByteArray):lt k (k ++ ⟨#[0]⟩) = true:=by
 unfold lt; rw [z92]; exact zlt _
theorem z49 (k x:ByteArray):(z1v k).has x = decide (x = k):=by
 unfold Spn.has z1v
 simp only [Bool.false_or]
 by_cases h:x = k
 ·subst h; simp [lt_ir,lt_next]
 ·rw [decide_eq_false h]
  cases h1:lt x k with
  | true=>rfl
  | false =>
   cases h2:lt k x with
   | false=>exact absurd (lt_eq h1 h2) h
   | true =>
    have:lt x (k ++ ⟨#[0]⟩) = false:=by unfold lt; rw [z92]; exact z93 _ _ h2
    simp [this]
theorem z63 {s:Spn} {x:ByteArray} (h:s.has x = true):s.empty = false:=by
 unfold Spn.has at h
 unfold Spn.empty
 simp only [Bool.and_eq_true,Bool.not_eq_true',Bool.or_eq_true] at h
 rcases h with ⟨h1,h2 | h2⟩
 ·rw [h2]; rfl
 ·rw [le_lt h1 h2]; simp
theorem none_has (x:ByteArray):Spn.none.has x = false:=by
 cases h:Spn.none.has x with
 | false=>rfl
 | true=>have:=z63 h; rw [z6f] at this; cases this
theorem zx4 (s:Spn) (x:ByteArray):s.norm.has x = s.has x:=by
 unfold Spn.norm
 split
 ·rename_i h
  rw [none_has]
  cases h2:s.has x with
  | false=>rfl
  | true=>rw [z63 h2] at h; cases h
 ·split
  ·rename_i h h2
   simp [Spn.has,h2]
  ·rfl
theorem cut_has (a b:Spn) (x:ByteArray):(a.cut b).has x = (a.has x && b.has x):=by
 unfold Spn.has Spn.cut
 simp only [lt_max]
 cases ha:a.op <;> cases hb:b.op <;> simp [lt_min] <;> cases lt x a.lo <;> cases lt x b.lo <;> simp
theorem zhk (a b:Spn) (x:ByteArray):(a.meet b).has x = (a.has x && b.has x):=by
 unfold Spn.meet
 rw [zx4,cut_has]
theorem norm_norm (s:Spn):s.norm.norm = s.norm:=by
 unfold Spn.norm
 by_cases h:s.empty = true
 ·rw [if_pos h,if_pos z6f]
 ·rw [if_neg h]
  by_cases h2:s.op = true
  ·rw [if_pos h2]
   simp [Spn.empty]
  ·rw [if_neg h2,if_neg h,if_neg h2]
theorem meet_norm (a b:Spn):(a.meet b).norm = a.meet b:=norm_norm _
theorem within_eq (a b:Spn):a.within b = decide (a.meet b = a.norm):=by unfold Spn.within; rw [meet_norm]
theorem within_has {a b:Spn} {x:ByteArray} (h:a.within b = true) (hx:a.has x = true):b.has x = true:=by
 rw [within_eq,decide_eq_true_eq] at h
 have:=zhk a b x
 rw [h,zx4,hx] at this
 simpa using this.symm
theorem zi9 {s:Spn} {k:ByteArray}:s.touch (z1v k) = s.has k:=by
 unfold Spn.touch
 cases h:s.has k with
 | true =>
  have:(s.meet (z1v k)).has k = true:=by rw [zhk,h,z49]; simp
  rw [z63 this]; rfl
 | false =>
  rw [← has_lo,Bool.not_not,zhk,z49]
  cases h2:s.has (s.meet (z1v k)).lo with
  | false=>rfl
  | true =>
   have:(s.meet (z1v k)).lo ≠ k:=fun e=>by rw [e,h] at h2; cases h2
   simp [this]
/-! ### effects -/
theorem bext {a b:ByteArray} (h:a.data.toList = b.data.toList):a = b:=by
 cases a; cases b; congr 1; exact Array.ext' h
theorem z2e (s:ByteArray):(z1u s).data.toList = s.data.toList.drop (s.data.toList.length - 16):=by
 unfold z1u
 have e:s.size = s.data.toList.length:=by rw [Array.length_toList]; rfl
 rw [ByteArray.data_extract,Array.toList_extract,e,List.extract_eq_take_drop,List.take_of_length_le (by rw [List.length_drop]; omega)]
theorem tail16_l (s t:ByteArray):z1u (z1u s ++ t) = z1u (s ++ t):=by
 apply bext
 rw [z2e,z2e,ByteArray.data_append,Array.toList_append,z2e,ByteArray.data_append,Array.toList_append]
 generalize s.data.toList = a
 generalize t.data.toList = b
 simp only [List.length_append,List.length_drop,List.drop_append,List.drop_drop]
 congr 2 <;> omega
theorem tail16_r (s t:ByteArray):z1u (s ++ z1u t) = z1u (s ++ t):=by
 apply bext
 rw [z2e,z2e,ByteArray.data_append,Array.toList_append,z2e,ByteArray.data_append,Array.toList_append]
 generalize s.data.toList = a
 generalize t.data.toList = b
 simp only [List.length_append,List.length_drop,List.drop_append,List.drop_drop]
 by_cases h:b.length≤16
 ·rw [show b.length - 16 = 0 by omega]; simp
 ·rw [List.drop_eq_nil_of_le (by omega:a.length≤_),List.drop_eq_nil_of_le (by omega:a.length≤_)]
  congr 2; omega
theorem z5w (e:Eff):e.thenR Eff.none = e:=by simp [Eff.thenR,Eff.none]
theorem zdg (e b:Eff) (h0:b.kind ≠ 0) (h2:b.kind ≠ 2):e.thenR b = b:=by simp [Eff.thenR,h0,h2]
theorem then_assoc (e a b:Eff) (hb:b.kind = 2):(e.thenR a).thenR b = e.thenR (a.thenR b):=by
 by_cases ha:a.kind = 0
 ·rw [show e.thenR a = e by simp [Eff.thenR,ha],show a.thenR b = b by simp [Eff.thenR,ha,hb]]
 ·have h1:a.thenR b = ⟨if a.kind = 2 then 2 else 1,z1u (a.val ++ b.val)⟩:=by simp [Eff.thenR,ha,hb]
  by_cases ha2:a.kind = 2
  ·by_cases he:e.kind = 0
   ·rw [show e.thenR a = a by simp [Eff.thenR,he,ha2],h1]
    simp [Eff.thenR,he,ha2]
   ·rw [h1]
    simp only [Eff.thenR,ha2,he,hb]
    by_cases he2:e.kind = 2 <;> simp [he2,tail16_l,tail16_r,ByteArray.append_assoc]
  ·rw [show e.thenR a = a by simp [Eff.thenR,ha,ha2],h1]
   simp [Eff.thenR,ha2]
theorem on_del (m:Msg) (k:ByteArray):(m.on k).kind = 3->(m.on k).val = ⟨#[]⟩:=by
 unfold Msg.on Eff.none
 split
 ·split
  ·rename_i h; intro h3; simp only at h3; omega
  ·split <;> simp
 ·simp
theorem on_thenC (m:Msg) (k:ByteArray) (b:Eff):(m.on k).thenC b = (m.on k).thenR b:=then_same b (on_del m k)
theorem zey {m:Msg} {x:ByteArray} (h:m.span.has x = false):m.on x = Eff.none:=by simp [Msg.on,h]
theorem z26 {m:Msg} (h:m.kind ≠ 4):m.span = z1v m.key:=by simp [Msg.span,h]
def z2c (x:ByteArray) (e:Eff) (l:List Msg):Eff:=l.foldl (fun e m=>e.thenR (m.on x)) e
theorem z1e (x:ByteArray) (e:Eff) (m:Msg) (l:List Msg):z2c x e (m :: l) = z2c x (e.thenR (m.on x)) l:=rfl
theorem z9x (x:ByteArray) (e:Eff) (a b:List Msg):z2c x e (a ++ b) = z2c x (z2c x e a) b:=by simp [z2c]
theorem z99 {x:ByteArray}:∀ {l:List Msg} {b:Msg},b ∈ l->(b.on x).kind ≠ 0->(b.on x).kind ≠ 2->∀ e e',z2c x e l = z2c x e' l
 | [],b,h,_,_,_,_=>by cases h
 | m :: l,b,h,h0,h2,e,e'=>by
  rw [z1e,z1e]
  rcases List.mem_cons.1 h with rfl | h
  ·rw [zdg _ _ h0 h2,zdg _ _ h0 h2]
  ·exact z99 h h0 h2 _ _
theorem zm5 {x:ByteArray} {b:Msg}:∀ {l:List Msg} {q:Nat} {a:Msg},l[q]? = some a->b.on x = a.on x->∀ e,z2c x e (l.set q b) = z2c x e l
 | [],q,a,h,_,_=>by simp at h
 | m :: l,0,a,h,hb,e=>by
  simp at h; subst h
  rw [List.set_cons_zero,z1e,z1e,hb]
 | m :: l,q + 1,a,h,hb,e=>by
  rw [List.set_cons_succ,z1e,z1e]
  exact zm5 (by simpa using h) hb _
theorem zxv {x:ByteArray} {b:Msg} {M:Eff}:∀ {l:List Msg} {q:Nat} {a:Msg},l[q]? = some a->(∀ p z,p < q->l[p]? = some z->z.on x = Eff.none)->b.on x = M.thenR (a.on x)->(a.on x).kind = 2->∀ e,z2c x (e.thenR M) l = z2c x e (l.set q b)
 | [],q,a,h,_,_,_,_=>by simp at h
 | m :: l,0,a,h,_,hb,h2,e=>by
  simp at h; subst h
  rw [List.set_cons_zero,z1e,z1e,hb,then_assoc _ _ _ h2]
 | m :: l,q + 1,a,h,hp,hb,h2,e=>by
  rw [List.set_cons_succ,z1e,z1e,hp 0 m (by omega) rfl,z5w,z5w]
  exact zxv (by simpa using h) (fun p z hpq hz=>hp (p + 1) z (by omega) (by simpa using hz)) hb h2 _
def Msg.size (m:Msg):Nat:=if m.kind = 4 then 36 else 4 + m.key.size + m.val.size
def z7o (l:List Msg):Nat:=(l.map Msg.size).sum
theorem z3a (m:Msg) (l:List Msg):z7o (m :: l) = m.size + z7o l:=by simp [z7o]
theorem z7n (a b:List Msg):z7o (a ++ b) = z7o a + z7o b:=by simp [z7o]
theorem zig {b:Msg}:∀ {l:List Msg} {q:Nat} {a:Msg},l[q]? = some a->z7o (l.set q b) + a.size = z7o l + b.size
 | [],q,a,h=>by simp at h
 | m :: l,0,a,h=>by
  simp at h; subst h
  rw [List.set_cons_zero,z3a,z3a]; omega
 | m :: l,q + 1,a,h=>by
  rw [List.set_cons_succ,z3a,z3a]
  have:=zig (b:=b) (l:=l) (q:=q) (a:=a) (by simpa using h)
  omega
/-! ### what a step does -/
theorem z64 {p:Nat->Bool}:∀ {f j k:Nat},z1y p f j = some k->∀ i,j≤i->i < k->p i = false
 | 0,j,k,h,i,_,_=>by simp [z1y] at h
 | f + 1,j,k,h,i,h1,h2=>by
  simp only [z1y] at h
  by_cases hp:p j = true
  ·rw [if_pos hp] at h; cases h; omega
  ·rw [if_neg hp] at h
   by_cases e:i = j
   ·subst e; simpa using hp
   ·exact z64 h i (by omega) h2
theorem nextOf_mid {l:List Msg} {i j:Nat} {m:Msg} (hm:l[i]? = some m) (h:z4i l i = some j) {k:Nat} {x:Msg} (h1:i < k) (h2:k < j) (hx:l[k]? = some x):x.span.touch m.span = false:=by
 unfold z4i at h
 rw [hm] at h
 have:=z64 h k (by omega) h2
 simpa [hx] using this
theorem zcl {m x:Msg} (h1:m.kind ≠ 4) (h2:x.kind = 2) (ht:x.span.touch m.span = true):m.key = x.key∧z32 m x = ({ x with kind:=((m.on m.key).thenR (x.on x.key)).kind,val:=((m.on m.key).thenR (x.on x.key)).val },true):=by
 rw [z26 h1,z26 (by omega:x.kind ≠ 4)] at ht
 have hk:=zc0 ht
 refine ⟨hk.symm,?_⟩
 unfold z32
 rw [if_neg (by omega),if_neg (by intro h; rcases h with h | h | h; exact h1 h; omega; exact h hk.symm),on_thenC]
theorem zpx {x:Msg} (h2:x.kind = 2):x.on x.key = ⟨2,x.val⟩:=by
 have:x.span.has x.key = true:=by rw [z26 (by omega:x.kind ≠ 4),z49]; simp
 simp [Msg.on,this,h2]
theorem z7i (a:Eff) (v:ByteArray):(a.thenR ⟨2,v⟩).kind = 1∨(a.thenR ⟨2,v⟩).kind = 2:=by
 unfold Eff.thenR
 by_cases h:a.kind = 0
 ·simp [h]
 ·by_cases h2:a.kind = 2 <;> simp [h,h2]
theorem join_on {m x:Msg} (h1:m.kind ≠ 4) (h2:x.kind = 2) (ht:x.span.touch m.span = true):(z32 m x).1.on x.key = (m.on x.key).thenR (x.on x.key)∧∀ y,y ≠ x.key->(z32 m x).1.on y = x.on y:=by
 obtain ⟨hk,hj⟩:=zcl h1 h2 ht
 obtain ⟨_,hs,_,_⟩:=zck h1 h2 ht
 have hxs:=z26 (m:=x) (by omega)
 refine ⟨?_,fun y hy=>?_⟩
 ·have hh:(z32 m x).1.span.has x.key = true:=by rw [hs,hxs,z49]; simp
  unfold Msg.on
  rw [if_pos hh]
  change (if (z32 m x).1.kind = 1∨(z32 m x).1.kind = 2 then (⟨(z32 m x).1.kind,(z32 m x).1.val⟩:Eff) else _) = _
  rw [hj]
  rw [if_pos (by rw [zpx h2]; exact z7i _ _),hk]
  rfl
 ·have hh:x.span.has y = false:=by rw [hxs,z49]; simp [hy]
  rw [zey hh,zey (by rw [hs]; exact hh)]
/-- what holds while it goes -/
structure SK (f:ByteArray->Eff) (st:List Int) (n:Nat) (i:Nat) (rest out:List Msg):Prop where
 on:∀ y,z2c y Eff.none (out ++ rest.drop i) = f y
 wip:∀ a,a ∈ out->a.kind = 4->∀ k x,i≤k->rest[k]? = some x->x.kind = 4->a.span.within x.span = false
 pair:∀ (p q:Nat) (a x:Msg),p < q->out[p]? = some a->out[q]? = some x->a.kind = 4->x.kind = 4->a.span.within x.span = false
 size:z7o (out ++ rest.drop i)≤n
 stamps:((out ++ rest.drop i).map Msg.stamp).Sublist st
 right:∀ m,m ∈ out ++ rest.drop i->m.right = true
theorem right_kind {m:Msg} (h:m.right = true):m.kind = 1∨m.kind = 2∨m.kind = 3∨m.kind = 4:=by
 unfold Msg.right at h
 by_cases h4:m.kind = 4
 ·omega
 ·rw [if_neg h4] at h
  simp only [Bool.and_eq_true,Bool.or_eq_true,beq_iff_eq] at h
  omega
theorem dead_fold {rest:List Msg} {i:Nat} {m:Msg} (hm:rest[i]? = some m) (hr:∀ x,x ∈ rest.drop i->x.right = true) (hd:dead rest i = true) (y:ByteArray) (e:Eff) :
  z2c y (e.thenR (m.on y)) (rest.drop (i + 1)) = z2c y e (rest.drop (i + 1)):=by
 unfold dead at hd
 rw [hm] at hd
 simp only at hd
 by_cases h4:m.kind = 4
 ·rw [if_pos h4] at hd
  unfold cov at hd
  rw [hm] at hd
  simp only [List.any_eq_true,Bool.and_eq_true,beq_iff_eq] at hd
  obtain ⟨b,hb,hb4,hw⟩:=hd
  cases hy:m.span.has y with
  | false=>rw [zey hy,z5w]
  | true =>
   have hby:=within_has hw hy
   have:b.on y = ⟨3,⟨#[]⟩⟩:=by simp [Msg.on,hby,hb4]
   exact z99 hb (by rw [this]; simp) (by rw [this]; simp) _ _
 ·rw [if_neg h4] at hd
  cases hn:z4i rest i with
  | none=>rw [hn] at hd; cases hd
  | some j =>
   obtain ⟨hij,x,hx⟩:=zc6 hn
   rw [hn] at hd
   simp only [hx,Option.any_some,bne_iff_ne,ne_eq] at hd
   have ht:=z60 hm hn hx
   rw [z26 h4,zi9] at ht
   have hxm:x ∈ rest.drop (i + 1):=List.mem_of_getElem? (by rw [List.getElem?_drop,show i + 1 + (j - (i + 1)) = j by omega]; exact hx)
   have hxr:=hr x (by rw [List.drop_eq_getElem_cons (List.getElem?_eq_some_iff.1 hm).1]; exact List.mem_cons_of_mem _ hxm)
   by_cases hy:y = m.key
   ·subst hy
    have hk:=right_kind hxr
    have:x.on m.key = if x.kind = 1 then ⟨1,x.val⟩ else ⟨3,⟨#[]⟩⟩:=by
     unfold Msg.on
     rw [if_pos ht]
     rcases hk with h | h | h | h
     ·simp [h]
     ·exact absurd h hd
     ·simp [h]
     ·simp [h]
    exact z99 hxm (by rw [this]; split <;> simp) (by rw [this]; split <;> simp) _ _
   ·rw [zey (by rw [z26 h4,z49]; simp [hy]),z5w]
theorem zcx {α:Type} {l:List α} {i:Nat} {m:α} (h:l[i]? = some m):l.drop i = m :: l.drop (i + 1):=by
 rw [List.drop_eq_getElem_cons (List.getElem?_eq_some_iff.1 h).1]
 congr 1
 exact (List.getElem?_eq_some_iff.1 h).2
theorem SK.skip {f:ByteArray->Eff} {st:List Int} {n i:Nat} {rest out:List Msg} (h:SK f st n i rest out) {m:Msg} (hm:rest[i]? = some m) (hd:dead rest i = true):SK f st n (i + 1) rest out:=by
 have hc:=zcx hm
 refine ⟨fun y=>?_,fun a ha h4 k x hk hx=>h.wip a ha h4 k x (by omega) hx,h.pair,?_,?_,?_⟩
 ·rw [← h.on y,z9x,z9x,hc,z1e]
  exact (dead_fold hm (fun x hx=>h.right x (List.mem_append_right _ hx)) hd y _).symm
 ·refine Nat.le_trans ?_ h.size
  rw [z7n,z7n,hc,z3a]; omega
 ·refine List.Sublist.trans (List.Sublist.map _ ?_) h.stamps
  rw [hc]
  exact List.Sublist.append_left (List.sublist_cons_self _ _) _
 ·intro x hx
  refine h.right x ?_
  rw [hc]
  rcases List.mem_append.1 hx with hx | hx
  ·exact List.mem_append_left _ hx
  ·exact List.mem_append_right _ (List.mem_cons_of_mem _ hx)
theorem SK.add {f:ByteArray->Eff} {st:List Int} {n i:Nat} {rest out:List Msg} (h:SK f st n i rest out) {m:Msg} (hm:rest[i]? = some m) (hd:¬ dead rest i = true):SK f st n (i + 1) rest (out ++ [m]):=by
 have hc:=zcx hm
 have he:out ++ [m] ++ rest.drop (i + 1) = out ++ rest.drop i:=by rw [List.append_assoc,hc]; rfl
 have hw:m.kind = 4->∀ k x,i + 1≤k->rest[k]? = some x->x.kind = 4->m.span.within x.span = false:=by
  intro h4 k x hk hx hx4
  unfold dead cov at hd
  rw [hm] at hd
  simp only [if_pos h4,List.any_eq_true,Bool.and_eq_true,beq_iff_eq] at hd
  cases hwi:m.span.within x.span with
  | false=>rfl
  | true =>
   exact absurd ⟨x,List.mem_of_getElem? (by rw [List.getElem?_drop,show i + 1 + (k - (i + 1)) = k by omega]; exact hx),hx4,hwi⟩ hd
 refine ⟨fun y=>by rw [he]; exact h.on y,fun a ha h4 k x hk hx hx4=>?_,fun p q a x hpq hp hq h4 hx4=>?_,by rw [he]; exact h.size,by rw [he]; exact h.stamps,by rw [he]; exact h.right⟩
 ·rcases List.mem_append.1 ha with ha | ha
  ·exact h.wip a ha h4 k x (by omega) hx hx4
  ·simp at ha; subst ha
   exact hw h4 k x hk hx hx4
 ·have hql:=(List.getElem?_eq_some_iff.1 hq).1
  rw [List.length_append] at hql
  simp at hql
  have hpl:p < out.length:=by omega
  rw [List.getElem?_append_left hpl] at hp
  rcases Nat.lt_or_ge q out.length with h1 | h1
  ·rw [List.getElem?_append_left h1] at hq
   exact h.pair p q a x hpq hp hq h4 hx4
  ·rw [List.getElem?_append_right h1] at hq
   have:q = out.length:=by omega
   subst this
   simp at hq
   subst hq
   exact h.wip a (List.mem_of_getElem? hp) h4 i m (Nat.le_refl _) hm hx4
theorem z9i {b:Msg}:∀ {l:List Msg} {q:Nat} {a:Msg},l[q]? = some a->b.stamp = a.stamp->(l.set q b).map Msg.stamp = l.map Msg.stamp
 | [],q,a,h,_=>by simp at h
 | m :: l,0,a,h,hb=>by simp at h; subst h; simp [hb]
 | m :: l,q + 1,a,h,hb=>by
  rw [List.set_cons_succ,List.map_cons,List.map_cons,z9i (by simpa using h) hb]
theorem zfq (a:Eff) (v:ByteArray):(a.thenR ⟨2,v⟩).val.size≤a.val.size + v.size:=by
 unfold Eff.thenR
 by_cases h:a.kind = 0
 ·simp [h]
 ·simp only [h,ne_eq,not_true_eq_false,or_self,if_false,show ¬ ((2:Int) = 0) by omega]
  have:(z1u (a.val ++ v)).size≤(a.val ++ v).size:=by unfold z1u; rw [ByteArray.size_extract]; omega
  rw [ByteArray.size_append] at this
  exact this
theorem za1 (a:Eff) (v:ByteArray) (hv:v.size≤16):(a.thenR ⟨2,v⟩).val.size≤16:=by
 unfold Eff.thenR
 by_cases h:a.kind = 0
 ·simp [h,hv]
 ·simp only [h,ne_eq,not_true_eq_false,or_self,if_false,show ¬ ((2:Int) = 0) by omega]
  exact za4 _
theorem join_more {m x:Msg} (h1:m.kind ≠ 4) (h2:x.kind = 2) (ht:x.span.touch m.span = true):(z32 m x).1.stamp = x.stamp∧(z32 m x).1.size≤m.size + x.size∧(x.right = true->(z32 m x).1.right = true):=by
 obtain ⟨hk,hj⟩:=zcl h1 h2 ht
 rw [hj,hk,zpx h2]
 have e1:=z7i (m.on x.key) x.val
 have e2:=zfq (m.on x.key) x.val
 have e3:=zpw m x.key
 refine ⟨rfl,?_,fun hr=>?_⟩
 ·unfold Msg.size
  simp only
  rw [if_neg (by omega),if_neg h1,if_neg (by omega)]
  omega
 ·have e4:=za1 (m.on x.key) x.val
  unfold Msg.right at hr ⊢
  simp only at hr ⊢
  rw [if_neg (by omega)] at hr
  rw [if_neg (by omega)]
  simp only [Bool.and_eq_true,decide_eq_true_eq] at hr
  simp only [Bool.and_eq_true,decide_eq_true_eq]
  refine ⟨⟨⟨⟨hr.1.1.1.1,hr.1.1.1.2⟩,e4 hr.1.1.2⟩,hr.1.2⟩,hr.2.1,?_⟩
  rcases e1 with e | e <;> rw [e] <;> rfl
theorem SK.join {f:ByteArray->Eff} {st:List Int} {n i:Nat} {rest out:List Msg} (h:SK f st n i rest out) {m x:Msg} {j:Nat} (hm:rest[i]? = some m) (hn:z4i rest i = some j) (hx:rest[j]? = some x) (h4:m.kind ≠ 4) (h2:x.kind = 2):SK f st n (i + 1) (rest.set j (z32 m x).1) out:=by
 have hc:=zcx hm
 have hij:=(zc6 hn).1
 have ht:=z60 hm hn hx
 obtain ⟨j1,j2,j3,j4⟩:=zck h4 h2 ht
 obtain ⟨k1,k2,k3⟩:=join_more h4 h2 ht
 obtain ⟨o1,o2⟩:=join_on h4 h2 ht
 obtain ⟨hk,_⟩:=zcl h4 h2 ht
 have hq:(rest.drop (i + 1))[j - (i + 1)]? = some x:=by rw [List.getElem?_drop,show i + 1 + (j - (i + 1)) = j by omega]; exact hx
 have hs:(rest.set j (z32 m x).1).drop (i + 1) = (rest.drop (i + 1)).set (j - (i + 1)) (z32 m x).1:=by
  rw [List.drop_set,if_neg (by omega)]
 have hxr:=h.right x (by rw [hc]; exact List.mem_append_right _ (List.mem_cons_of_mem _ (List.mem_of_getElem? hq)))
 refine ⟨fun y=>?_,fun a ha ha4 k z hk' hz hz4=>?_,h.pair,?_,?_,?_⟩
 ·rw [← h.on y,z9x,z9x,hc,z1e,hs]
  by_cases hy:y = x.key
  ·subst hy
   refine (zxv hq (fun p z hp hz=>?_) o1 (by rw [zpx h2]) _).symm
   rw [List.getElem?_drop] at hz
   have:=nextOf_mid hm hn (by omega) (by omega) hz
   rw [z26 h4,hk,zi9] at this
   exact zey this
  ·rw [zey (m:=m) (by rw [z26 h4,z49,hk]; simp [hy]),z5w]
   exact zm5 hq (o2 y hy) _
 ·rw [List.getElem?_set] at hz
  split at hz
  ·split at hz
   ·cases hz; exact absurd hz4 j3
   ·cases hz
  ·exact h.wip a ha ha4 k z (by omega) hz hz4
 ·refine Nat.le_trans ?_ h.size
  rw [z7n,z7n,hc,z3a,hs]
  have:=zig (b:=(z32 m x).1) hq
  omega
 ·refine List.Sublist.trans ?_ h.stamps
  rw [hs,List.map_append,List.map_append,z9i hq k1,hc]
  exact List.Sublist.append_left (List.Sublist.map _ (List.sublist_cons_self _ _)) _
 ·intro z hz
  rw [hs] at hz
  rcases List.mem_append.1 hz with hz | hz
  ·exact h.right z (List.mem_append_left _ hz)
  ·rcases List.mem_or_eq_of_mem_set hz with hz | hz
   ·exact h.right z (by rw [hc]; exact List.mem_append_right _ (List.mem_cons_of_mem _ hz))
   ·subst hz; exact k3 hxr
theorem z4v {f:ByteArray->Eff} {st:List Int} {n:Nat}:∀ (g i:Nat) (rest out:List Msg),SK f st n i rest out->i + g = rest.length->∃ rest',rest'.length = rest.length∧SK f st n rest.length rest' (sqGo g i rest out)
 | 0,i,rest,out,h,hf=>⟨rest,rfl,by rw [← hf]; exact h⟩
 | g + 1,i,rest,out,h,hf=>by
  obtain ⟨m,hm⟩:∃ m,rest[i]? = some m:=⟨_,List.getElem?_eq_getElem (by omega)⟩
  simp only [sqGo,hm]
  by_cases hd:dead rest i = true
  ·rw [if_pos hd]
   exact z4v g (i + 1) rest out (h.skip hm hd) (by omega)
  ·rw [if_neg hd]
   cases hx:z4i rest i with
   | none =>
    simp only
    exact z4v g (i + 1) rest _ (h.add hm hd) (by omega)
   | some j =>
    obtain ⟨hij,x,hxj⟩:=zc6 hx
    simp only [hxj]
    by_cases h4:m.kind = 4
    ·rw [if_pos h4]
     exact z4v g (i + 1) rest _ (h.add hm hd) (by omega)
    ·rw [if_neg h4]
     have hk:x.kind = 2:=by
      unfold dead at hd
      simp only [hm,hx,hxj,if_neg h4] at hd
      simpa using hd
     rw [if_pos (zck h4 hk (z60 hm hx hxj)).1]
     have:=z4v g (i + 1) (rest.set j (z32 m x).1) out (h.join hm hx hxj h4 hk) (by rw [List.length_set]; omega)
     rw [List.length_set] at this
     exact this
theorem z7d:∀ l:List Msg,z7f l = true ↔ (∀ m,m ∈ l->m.right = true)∧(l.map Msg.stamp).Pairwise (· < ·)
 | []=>by simp [z7f]
 | [m]=>by simp [z7f]
 | m :: x :: l=>by
  have ih:=z7d (x :: l)
  rw [z7f]
  simp only [Bool.and_eq_true,decide_eq_true_eq,ih,List.map_cons,List.pairwise_cons,List.mem_cons,forall_eq_or_imp]
  refine ⟨fun ⟨⟨h1,h2⟩,⟨h3,h4⟩,h5,h6⟩=>⟨⟨h1,h3,h4⟩,⟨h2,fun a ha=>Int.lt_trans h2 (h5 a ha)⟩,h5,h6⟩,fun ⟨⟨h1,h3,h4⟩,⟨h2,_⟩,h5,h6⟩=>⟨⟨h1,h2⟩,⟨h3,h4⟩,h5,h6⟩⟩
theorem keeps (l:List Msg) (h:z7f l = true):(∀ y,z2c y Eff.none (z7m l) = z2c y Eff.none l)∧z7o (z7m l)≤z7o l∧z7f (z7m l) = true ∧
  ∀ (p q:Nat) (a x:Msg),p < q->(z7m l)[p]? = some a->(z7m l)[q]? = some x->a.kind = 4->x.kind = 4->a.span.within x.span = false:=by
 obtain ⟨h1,h2⟩:=(z7d l).1 h
 obtain ⟨rest',hl,hk⟩:=z4v (f:=fun y=>z2c y Eff.none l) (st:=l.map Msg.stamp) (n:=z7o l) l.length 0 l [] ⟨fun y=>rfl,(fun a ha=>by cases ha),(fun p q a x _ hp=>by simp at hp),Nat.le_refl _,List.Sublist.refl _,h1⟩ (by omega)
 have hd:rest'.drop l.length = []:=List.drop_eq_nil_of_le (by omega)
 obtain ⟨k1,_,k3,k4,k5,k6⟩:=hk
 rw [hd,List.append_nil] at k4 k5 k6
 refine ⟨fun y=>by have:=k1 y; rw [hd,List.append_nil] at this; exact this,k4,(z7d _).2 ⟨k6,h2.sublist k5⟩,k3⟩
/-! ### a squeezed list stays so -/
end
section
/-
 The document's effects and messages,z7o,and lists that are one,on the plain machine.
-/
open Go.RowKit
attribute [local go_sem ↓] z0s z0g
/-! ### percolate/percolateref03.Tail -/
def zjv:Reg:=⟨[],[⟨.mv (.c (.str ⟨#[]⟩)),some 2,none,[],[]⟩],[],[],false⟩
def zju:Reg:=⟨[],[⟨.mv (.c (.str ⟨#[]⟩)),some 3,none,[],[]⟩],[],[],false⟩
def zaa:List ROp:=[⟨.mv (.t 0),some 5,none,[],[]⟩,⟨.len true (.t 5),some 6,none,[],[]⟩,⟨.bin .sub (.t 6) (.c (.int .i64 1)),some 7,none,[],[]⟩,⟨.mv (.t 7),some 4,none,[],[]⟩]
def zjt:Reg:=⟨[],zaa,[],[],false⟩
def za9:List ROp:=[⟨.mv (.t 4),some 8,none,[],[]⟩,⟨.bin .geq (.t 8) (.c (.int .i64 0)),some 9,none,[],[]⟩,⟨.mv (.t 9),some 10,none,[],[]⟩,⟨.mv (.t 3),some 11,(some (10,true)),[],[]⟩,⟨.len true (.t 11),some 12,(some (10,true)),[],[]⟩,⟨.bin .lss (.t 12) (.c (.int .i64 16)),some 13,(some (10,true)),[],[]⟩,⟨.pick (.t 10) (.t 13) (.c (.bool false)),some 14,none,[],[]⟩]
def zjs:Reg:=⟨[],za9,[],[],false⟩
def za8:List ROp:=[⟨.mv (.t 0),some 17,none,[],[]⟩,⟨.mv (.t 4),some 18,none,[],[]⟩,⟨.mv (.t 4),some 19,none,[],[]⟩,⟨.bin .add (.t 19) (.c (.int .i64 1)),some 20,none,[],[]⟩,⟨.slc true 0 (.t 17) (some (.t 18)) (some (.t 20)),some 21,none,[],[]⟩,⟨.mv (.t 3),some 22,none,[],[]⟩,⟨.bin .add (.t 21) (.t 22),some 23,none,[],[]⟩,⟨.mv (.t 23),some 3,none,[],[]⟩]
def zjr:Reg:=⟨[],za8,[],[],false⟩
def za7:List ROp:=[⟨.mv (.t 4),some 15,none,[],[]⟩,⟨.bin .sub (.t 15) (.c (.int .i64 1)),some 16,none,[],[]⟩,⟨.mv (.t 16),some 4,none,[],[]⟩]
def zjq:Reg:=⟨[],za7,[],[],false⟩
def ze2:IR:=(.seq (.seq (.reg zjs)
 (.cond (.t 14) .skip
 (.exit 0)))
 (.seq (.block 1 (.reg zjr))
 (.reg zjq)))
def zjp:Reg:=⟨[],[⟨.mv (.t 3),some 24,none,[],[]⟩,⟨.mv (.t 24),some 2,none,[],[]⟩],[],[],false⟩
def zxi:IR:=(.seq (.reg zjv)
 (.seq (.reg zju)
 (.seq (.seq (.reg zjt)
 (.block 0 (.loop ze2)))
 (.seq (.reg zjp)
 .ret))))
def ziu:List RDesc:=[(.tmp 2)]
theorem e_rTail_0:EqR zjv [⟨.mv (.c (.str ⟨#[]⟩)),some 2,none,[],[]⟩] []:=fun _ _ _=>rfl
theorem e_rTail_1:EqR zju [⟨.mv (.c (.str ⟨#[]⟩)),some 3,none,[],[]⟩] []:=fun _ _ _=>rfl
theorem e_rTail_2:EqR zjt zaa []:=fun _ _ _=>rfl
theorem e_rTail_3:EqR zjs za9 []:=fun _ _ _=>rfl
theorem e_rTail_4:EqR zjr za8 []:=fun _ _ _=>rfl
theorem e_rTail_5:EqR zjq za7 []:=fun _ _ _=>rfl
theorem e_rTail_7:EqR zjp [⟨.mv (.t 3),some 24,none,[],[]⟩,⟨.mv (.t 24),some 2,none,[],[]⟩] []:=fun _ _ _=>rfl
theorem fn_rTail {args:List AV} {r:AV} (ha:args.length.ble Try.f85.ntmps = true) (h:run (AFn Try.prog) zxi (endQ ziu r) (z0b args)):AFn Try.prog 85 args r :=
 AFn.of_code (pv:=false) (hint:=fun _=>[]) (c:=Try.f85.body.getD .skip) (by kernel_rfl) (by kernel_rfl) Try.func85 (by kernel_rfl) (by kernel_rfl) (by kernel_rfl) (of_decide_eq_true (by kernel_rfl)) (Nat.le_of_ble_eq_true ha) (Nat.le_of_ble_eq_true (by kernel_rfl)) (z09 h)
/-! ### percolate/percolateref05.On -/
def zmw:List ROp:=[⟨.box 6 70 (.t 0),some 2,none,[4],[]⟩,⟨.alloc 2 80 (.agg [(.int .i64 0),(.str ⟨#[]⟩)]),some 4,none,[],[]⟩]
def r_rOn_0:Reg:=⟨[],zmw,[2,4],[],false⟩
def zmv:List ROp:=[⟨.load 6 true (.t 2),some 5,none,[6,8],[]⟩,⟨.callv (.c (.clo 59 [] [])) [(.t 5)],some 6,none,[8],[]⟩,⟨.mv (.t 1),some 7,none,[8],[]⟩,⟨.callv (.c (.clo 56 [] [])) [(.t 6),(.t 7)],some 8,none,[],[]⟩,⟨.un .not (.t 8),some 9,none,[],[]⟩,⟨.mv (.t 9),some 10,none,[],[]⟩,⟨.faddr 1 (.t 2),some 11,(some (10,false)),[],[]⟩,⟨.load 1 false (.t 11),some 12,(some (10,false)),[],[]⟩,⟨.bin .lss (.t 12) (.c (.int .i64 1)),some 13,(some (10,false)),[],[]⟩,⟨.pick (.t 10) (.c (.bool true)) (.t 13),some 14,none,[],[]⟩,⟨.mv (.t 14),some 15,none,[],[]⟩,⟨.faddr 1 (.t 2),some 16,(some (15,false)),[],[]⟩,⟨.load 1 false (.t 16),some 17,(some (15,false)),[],[]⟩,⟨.bin .gtr (.t 17) (.c (.int .i64 4)),some 18,(some (15,false)),[],[]⟩,⟨.pick (.t 15) (.c (.bool true)) (.t 18),some 19,none,[],[]⟩]
def r_rOn_1:Reg:=⟨[],zmv,[6,8],[],false⟩
def r_rOn_2:Reg:=⟨[],[⟨.bld [(.int .i64 0),(.str ⟨#[]⟩)] [],some 20,none,[],[]⟩,⟨.store 2 (.t 4) (.t 20),none,none,[],[]⟩],[],[],false⟩
def zmu:List ROp:=[⟨.faddr 1 (.t 2),some 21,none,[],[]⟩,⟨.load 1 false (.t 21),some 22,none,[],[]⟩,⟨.bin .geq (.t 22) (.c (.int .i64 3)),some 23,none,[],[]⟩]
def r_rOn_3:Reg:=⟨[],zmu,[],[],false⟩
def zmt:List ROp:=[⟨.bld [(.int .i64 0),(.str ⟨#[]⟩)] [⟨0,1,(.c (.int .i64 3))⟩],some 24,none,[],[]⟩,⟨.store 2 (.t 4) (.t 24),none,none,[],[]⟩]
def r_rOn_4:Reg:=⟨[],zmt,[],[],false⟩
def zms:List ROp:=[⟨.faddr 1 (.t 2),some 25,none,[],[]⟩,⟨.load 1 false (.t 25),some 26,none,[],[]⟩,⟨.faddr 5 (.t 2),some 27,none,[],[]⟩,⟨.load 1 false (.t 27),some 28,none,[],[]⟩,⟨.bld [(.int .i64 0),(.str ⟨#[]⟩)] [⟨0,1,(.t 26)⟩,⟨1,1,(.t 28)⟩],some 29,none,[],[]⟩,⟨.store 2 (.t 4) (.t 29),none,none,[],[]⟩]
def r_rOn_5:Reg:=⟨[],zms,[],[],false⟩
def ir_rOn:IR:=(.seq (.reg r_rOn_0)
 (.seq (.seq (.reg r_rOn_1)
 (.cond (.t 19) (.seq (.reg r_rOn_2)
 .ret)
 .skip))
 (.seq (.seq (.reg r_rOn_3)
 (.cond (.t 23) (.seq (.reg r_rOn_4)
 .ret)
 .skip))
 (.seq (.reg r_rOn_5)
 .ret))))
def res_rOn:List RDesc:=[(.cell 4 2 true)]
theorem e_rOn_0:EqR r_rOn_0 zmw [2,4]:=fun _ _ _=>rfl
theorem e_rOn_1:EqR r_rOn_1 zmv [6,8]:=fun _ _ _=>rfl
theorem e_rOn_2:EqR r_rOn_2 [⟨.bld [(.int .i64 0),(.str ⟨#[]⟩)] [],some 20,none,[],[]⟩,⟨.store 2 (.t 4) (.t 20),none,none,[],[]⟩] []:=fun _ _ _=>rfl
theorem e_rOn_3:EqR r_rOn_3 zmu []:=fun _ _ _=>rfl
theorem e_rOn_4:EqR r_rOn_4 zmt []:=fun _ _ _=>rfl
theorem e_rOn_5:EqR r_rOn_5 zms []:=fun _ _ _=>rfl
theorem fn_rOn {args:List AV} {r:AV} (ha:args.length.ble Try.f58.ntmps = true) (h:run (AFn Try.prog) ir_rOn (endQ res_rOn r) (z0b args)):AFn Try.prog 58 args r :=
 AFn.of_code (pv:=false) (hint:=fun _=>[]) (c:=Try.f58.body.getD .skip) (by kernel_rfl) (by kernel_rfl) Try.func58 (by kernel_rfl) (by kernel_rfl) (by kernel_rfl) (of_decide_eq_true (by kernel_rfl)) (Nat.le_of_ble_eq_true ha) (Nat.le_of_ble_eq_true (by kernel_rfl)) (z09 h)
attribute [local go_sem ↓] zxi
attribute [local go_sem] ziu e_rTail_0 e_rTail_1 e_rTail_2 zaa e_rTail_3 za9 e_rTail_4 za8 e_rTail_5 za7 e_rTail_7
attribute [local go_sem ↓] ir_rOn
attribute [local go_sem] res_rOn e_rOn_0 zmw e_rOn_1 zmv e_rOn_2 e_rOn_3 zmu e_rOn_4 zmt e_rOn_5 zms
def tailInv (s:ByteArray) (k:Nat) (σ:St):Prop :=
 ∃ j:Nat,j≤s.size∧k = j∧s.size - j≤16∧σ.T 0 = .str s∧σ.T 3 = .str (s.extract j s.size)∧σ.T 4 = .int .i64 ((j:Int) - 1)
theorem refTail (s:ByteArray) (hs:s.size≤9223372036854775807):AFn Try.prog 85 [.str s] (.str (z1u s)):=by
 refine fn_rTail rfl ?_
 have hw0:IntKind.i64.wrap ((s.size:Int) - 1) = (s.size:Int) - 1:=IntWalk.i64_in _ (by omega)
 simp (maxSteps:=9^7) only [go_sem,↓reduceIte,reduceCtorEq,Nat.reduceEqDiff,Nat.reduceBEq,Nat.reduceAdd,Nat.reduceSub,Nat.reduceMul,Nat.reduceLT,Nat.reduceLeDiff,Nat.reduceBNe,Int.reduceBEq,Int.reduceBNe,Int.reduceLT,Int.reduceLE,Spn.a,Msg.a,Eff.a,hw0]
 refine z0f (tailInv s) (k:=s.size) ⟨s.size,Nat.le_refl _,rfl,by omega,?_,?_,?_⟩ ?_
 ·simp (maxSteps:=9^7) only [go_sem,↓reduceIte,reduceCtorEq,Nat.reduceEqDiff,Nat.reduceBEq,Nat.reduceAdd,Nat.reduceSub,Nat.reduceMul,Nat.reduceLT,Nat.reduceLeDiff,Nat.reduceBNe,Int.reduceBEq,Int.reduceBNe,Int.reduceLT,Int.reduceLE,Spn.a,Msg.a,Eff.a]
 ·simp (maxSteps:=9^7) only [go_sem,↓reduceIte,reduceCtorEq,Nat.reduceEqDiff,Nat.reduceBEq,Nat.reduceAdd,Nat.reduceSub,Nat.reduceMul,Nat.reduceLT,Nat.reduceLeDiff,Nat.reduceBNe,Int.reduceBEq,Int.reduceBNe,Int.reduceLT,Int.reduceLE,Spn.a,Msg.a,Eff.a]
  rw [ByteArray.extract_same]; rfl
 ·simp (maxSteps:=9^7) only [go_sem,↓reduceIte,reduceCtorEq,Nat.reduceEqDiff,Nat.reduceBEq,Nat.reduceAdd,Nat.reduceSub,Nat.reduceMul,Nat.reduceLT,Nat.reduceLeDiff,Nat.reduceBNe,Int.reduceBEq,Int.reduceBNe,Int.reduceLT,Int.reduceLE,Spn.a,Msg.a,Eff.a]
 rintro k σ ⟨j,hj,rfl,h16,t0,t3,t4⟩
 simp only [ze2]
 have hz:(s.extract k s.size).size = s.size - k:=by rw [ByteArray.size_extract]; omega
 have fin:s.size - k = 16∨k = 0->s.extract k s.size = z1u s:=by
  intro h
  unfold z1u
  congr 1; omega
 by_cases h0:k = 0
 ·subst h0
  have h1:¬ (((0:Nat):Int) - 1) ≥ 0:=by omega
  simp (maxSteps:=9^7) only [go_sem,↓reduceIte,reduceCtorEq,Nat.reduceEqDiff,Nat.reduceBEq,Nat.reduceAdd,Nat.reduceSub,Nat.reduceMul,Nat.reduceLT,Nat.reduceLeDiff,Nat.reduceBNe,Int.reduceBEq,Int.reduceBNe,Int.reduceLT,Int.reduceLE,Spn.a,Msg.a,Eff.a,t0,t3,t4,h1]
  exact (fin (.inr rfl)).symm
 ·have h1:((k:Int) - 1) ≥ 0:=by omega
  by_cases h2:s.size - k = 16
  ·have h2':¬ ((s.extract k s.size).size:Int) < 16:=by rw [hz]; omega
   simp (maxSteps:=9^7) only [go_sem,↓reduceIte,reduceCtorEq,Nat.reduceEqDiff,Nat.reduceBEq,Nat.reduceAdd,Nat.reduceSub,Nat.reduceMul,Nat.reduceLT,Nat.reduceLeDiff,Nat.reduceBNe,Int.reduceBEq,Int.reduceBNe,Int.reduceLT,Int.reduceLE,Spn.a,Msg.a,Eff.a,t0,t3,t4,h1,h2']
   exact (fin (.inl h2)).symm
  ·have h2':((s.extract k s.size).size:Int) < 16:=by rw [hz]; omega
   have hw1:IntKind.i64.wrap ((k:Int) - 1 + 1) = (k:Int):=by rw [IntWalk.i64_in _ (by omega)]; omega
   have hw2:IntKind.i64.wrap ((k:Int) - 1 - 1) = ((k - 1:Nat):Int) - 1:=by rw [IntWalk.i64_in _ (by omega)]; omega
   have hn:((k:Int) - 1).toNat = k - 1:=by omega
   simp (maxSteps:=9^7) only [go_sem,↓reduceIte,reduceCtorEq,Nat.reduceEqDiff,Nat.reduceBEq,Nat.reduceAdd,Nat.reduceSub,Nat.reduceMul,Nat.reduceLT,Nat.reduceLeDiff,Nat.reduceBNe,Int.reduceBEq,Int.reduceBNe,Int.reduceLT,Int.reduceLE,Spn.a,Msg.a,Eff.a,t0,t3,t4,h1,h2',hw1,hw2,hn,Int.toNat_natCast]
   refine ⟨by omega,?_,k - 1,by omega,k - 1,by omega,rfl,by omega,?_,?_,?_⟩
   ·rw [ByteArray.size_extract,ByteArray.size_extract]; omega
   ·simp (maxSteps:=9^7) only [go_sem,↓reduceIte,reduceCtorEq,Nat.reduceEqDiff,Nat.reduceBEq,Nat.reduceAdd,Nat.reduceSub,Nat.reduceMul,Nat.reduceLT,Nat.reduceLeDiff,Nat.reduceBNe,Int.reduceBEq,Int.reduceBNe,Int.reduceLT,Int.reduceLE,Spn.a,Msg.a,Eff.a,t0]
   ·simp (maxSteps:=9^7) only [go_sem,↓reduceIte,reduceCtorEq,Nat.reduceEqDiff,Nat.reduceBEq,Nat.reduceAdd,Nat.reduceSub,Nat.reduceMul,Nat.reduceLT,Nat.reduceLeDiff,Nat.reduceBNe,Int.reduceBEq,Int.reduceBNe,Int.reduceLT,Int.reduceLE,Spn.a,Msg.a,Eff.a]
    rw [ByteArray.extract_append_extract,show min (k - 1) k = k - 1 by omega,show max k s.size = s.size by omega]
   ·simp (maxSteps:=9^7) only [go_sem,↓reduceIte,reduceCtorEq,Nat.reduceEqDiff,Nat.reduceBEq,Nat.reduceAdd,Nat.reduceSub,Nat.reduceMul,Nat.reduceLT,Nat.reduceLeDiff,Nat.reduceBNe,Int.reduceBEq,Int.reduceBNe,Int.reduceLT,Int.reduceLE,Spn.a,Msg.a,Eff.a]
theorem refOn (m:Msg) (k:ByteArray) (h1:m.key.size + 1≤9223372036854775807) (h2:m.hi.size≤9223372036854775807) (hk:k.size≤9223372036854775807):AFn Try.prog 58 [m.a,.str k] (m.on k).a:=by
 refine fn_rOn rfl ?_
 simp (maxSteps:=9^7) only [go_sem,↓reduceIte,reduceCtorEq,Nat.reduceEqDiff,Nat.reduceBEq,Nat.reduceAdd,Nat.reduceSub,Nat.reduceMul,Nat.reduceLT,Nat.reduceLeDiff,Nat.reduceBNe,Int.reduceBEq,Int.reduceBNe,Int.reduceLT,Int.reduceLE,Spn.a,Msg.a,Eff.a]
 (first | refine z01 (zpr m (by omega)) ?_ | refine z00 (zpr m (by omega)) ?_)
 simp (maxSteps:=9^7) only [go_sem,↓reduceIte,reduceCtorEq,Nat.reduceEqDiff,Nat.reduceBEq,Nat.reduceAdd,Nat.reduceSub,Nat.reduceMul,Nat.reduceLT,Nat.reduceLeDiff,Nat.reduceBNe,Int.reduceBEq,Int.reduceBNe,Int.reduceLT,Int.reduceLE,Spn.a,Msg.a,Eff.a]
 (first | refine z01 (zss m.span k (zpe (n:=0) h1 h2) hk) ?_ | refine z00 (zss m.span k (zpe (n:=0) h1 h2) hk) ?_)
 cases hh:m.span.has k with
 | false =>
  simp (maxSteps:=9^7) only [go_sem,↓reduceIte,reduceCtorEq,Nat.reduceEqDiff,Nat.reduceBEq,Nat.reduceAdd,Nat.reduceSub,Nat.reduceMul,Nat.reduceLT,Nat.reduceLeDiff,Nat.reduceBNe,Int.reduceBEq,Int.reduceBNe,Int.reduceLT,Int.reduceLE,Spn.a,Msg.a,Eff.a]
  simp [Msg.on,hh,Eff.none]
 | true =>
  by_cases g1:m.kind < 1
  ·simp (maxSteps:=9^7) only [go_sem,↓reduceIte,reduceCtorEq,Nat.reduceEqDiff,Nat.reduceBEq,Nat.reduceAdd,Nat.reduceSub,Nat.reduceMul,Nat.reduceLT,Nat.reduceLeDiff,Nat.reduceBNe,Int.reduceBEq,Int.reduceBNe,Int.reduceLT,Int.reduceLE,Spn.a,Msg.a,Eff.a,g1]
   have a1:m.kind ≠ 1:=by omega
   have a2:m.kind ≠ 2:=by omega
   have a3:m.kind ≠ 3:=by omega
   have a4:m.kind ≠ 4:=by omega
   simp [Msg.on,hh,Eff.none,a1,a2,a3,a4]
  ·by_cases g2:m.kind > 4
   ·have g2':4 < m.kind:=g2
    simp (maxSteps:=9^7) only [go_sem,↓reduceIte,reduceCtorEq,Nat.reduceEqDiff,Nat.reduceBEq,Nat.reduceAdd,Nat.reduceSub,Nat.reduceMul,Nat.reduceLT,Nat.reduceLeDiff,Nat.reduceBNe,Int.reduceBEq,Int.reduceBNe,Int.reduceLT,Int.reduceLE,Spn.a,Msg.a,Eff.a,g1,g2']
    have a1:m.kind ≠ 1:=by omega
    have a2:m.kind ≠ 2:=by omega
    have a3:m.kind ≠ 3:=by omega
    have a4:m.kind ≠ 4:=by omega
    simp [Msg.on,hh,Eff.none,a1,a2,a3,a4]
   ·have g2':¬ 4 < m.kind:=g2
    by_cases g3:m.kind ≥ 3
    ·have g3':3≤m.kind:=g3
     simp (maxSteps:=9^7) only [go_sem,↓reduceIte,reduceCtorEq,Nat.reduceEqDiff,Nat.reduceBEq,Nat.reduceAdd,Nat.reduceSub,Nat.reduceMul,Nat.reduceLT,Nat.reduceLeDiff,Nat.reduceBNe,Int.reduceBEq,Int.reduceBNe,Int.reduceLT,Int.reduceLE,Spn.a,Msg.a,Eff.a,g1,g2',g3']
     have a1:m.kind ≠ 1:=by omega
     have a2:m.kind ≠ 2:=by omega
     have a3:m.kind = 3∨m.kind = 4:=by omega
     simp [Msg.on,hh,Eff.none,a1,a2,a3]
    ·have g3':¬ 3≤m.kind:=g3
     simp (maxSteps:=9^7) only [go_sem,↓reduceIte,reduceCtorEq,Nat.reduceEqDiff,Nat.reduceBEq,Nat.reduceAdd,Nat.reduceSub,Nat.reduceMul,Nat.reduceLT,Nat.reduceLeDiff,Nat.reduceBNe,Int.reduceBEq,Int.reduceBNe,Int.reduceLT,Int.reduceLE,Spn.a,Msg.a,Eff.a,g1,g2',g3']
     have a1:m.kind = 1∨m.kind = 2:=by omega
     simp [Msg.on,hh,a1]
end
section
/-
 Layer 4 and layer 9 on the plain machine: what a key has behind an effect; the document's map behind an effect,a message.
-/
open Go.RowKit
attribute [local go_sem ↓] z0s z0g
def z4e (e:Eff) (has:Bool) (v:ByteArray):Bool × ByteArray:=if e.kind = 1 then (true,e.val) else if e.kind = 2 then (true,z1u ((if has then v else nul) ++ e.val)) else if e.kind = 3 then (false,nul) else (has,if has then v else nul)
/-! ### percolate/percolateref04.Apply -/
def znu:List ROp:=[⟨.box 2 80 (.t 0),some 3,none,[],[]⟩,⟨.mv (.c (.bool false)),some 6,none,[],[]⟩,⟨.mv (.c (.str ⟨#[]⟩)),some 7,none,[],[]⟩]
def r_r4A_0:Reg:=⟨[],znu,[3],[],false⟩
def znt:List ROp:=[⟨.faddr 0 (.t 3),some 8,none,[],[]⟩,⟨.load 1 false (.t 8),some 9,none,[],[]⟩,⟨.bin .eql (.t 9) (.c (.int .i64 1)),some 10,none,[],[]⟩]
def r_r4A_1:Reg:=⟨[],znt,[],[],false⟩
def zql:List ROp:=[⟨.faddr 1 (.t 3),some 11,none,[],[]⟩,⟨.load 1 false (.t 11),some 12,none,[],[]⟩,⟨.mv (.c (.bool true)),some 6,none,[],[]⟩]
def r_r4A_2:Reg:=⟨zql,[⟨.mv (.t 12),some 7,none,[],[]⟩],[],[],true⟩
def zns:List ROp:=[⟨.faddr 0 (.t 3),some 13,none,[],[]⟩,⟨.load 1 false (.t 13),some 14,none,[],[]⟩,⟨.bin .eql (.t 14) (.c (.int .i64 3)),some 15,none,[],[]⟩]
def r_r4A_3:Reg:=⟨[],zns,[],[],false⟩
def r_r4A_4:Reg:=⟨[],[⟨.mv (.c (.bool false)),some 6,none,[],[]⟩,⟨.mv (.c (.str ⟨#[]⟩)),some 7,none,[],[]⟩],[],[],false⟩
def r_r4A_5:Reg:=⟨[],[⟨.mv (.t 1),some 16,none,[],[]⟩,⟨.un .not (.t 16),some 17,none,[],[]⟩],[],[],false⟩
def r_r4A_6:Reg:=⟨[],[⟨.mv (.c (.str ⟨#[]⟩)),some 2,none,[],[]⟩],[],[],false⟩
def znr:List ROp:=[⟨.faddr 0 (.t 3),some 18,none,[],[]⟩,⟨.load 1 false (.t 18),some 19,none,[],[]⟩,⟨.bin .eql (.t 19) (.c (.int .i64 2)),some 20,none,[],[]⟩]
def r_r4A_7:Reg:=⟨[],znr,[],[],false⟩
def znq:List ROp:=[⟨.mv (.t 2),some 21,none,[25],[]⟩,⟨.faddr 1 (.t 3),some 22,none,[25],[]⟩,⟨.load 1 false (.t 22),some 23,none,[25],[]⟩,⟨.bin .add (.t 21) (.t 23),some 24,none,[25],[]⟩,⟨.callv (.c (.clo 85 [] [])) [(.t 24)],some 25,none,[],[]⟩,⟨.mv (.c (.bool true)),some 6,none,[],[]⟩,⟨.mv (.t 25),some 7,none,[],[]⟩]
def r_r4A_8:Reg:=⟨[],znq,[25],[],false⟩
def znp:List ROp:=[⟨.mv (.t 1),some 26,none,[],[]⟩,⟨.mv (.t 2),some 27,none,[],[]⟩,⟨.mv (.t 26),some 6,none,[],[]⟩,⟨.mv (.t 27),some 7,none,[],[]⟩]
def r_r4A_9:Reg:=⟨[],znp,[],[],false⟩
def ir_r4A:IR:=(.seq (.reg r_r4A_0)
 (.seq (.seq (.reg r_r4A_1)
 (.cond (.t 10) (.seq (.reg r_r4A_2)
 .ret)
 .skip))
 (.seq (.seq (.reg r_r4A_3)
 (.cond (.t 15) (.seq (.reg r_r4A_4)
 .ret)
 .skip))
 (.seq (.seq (.reg r_r4A_5)
 (.cond (.t 17) (.reg r_r4A_6)
 .skip))
 (.seq (.seq (.reg r_r4A_7)
 (.cond (.t 20) (.seq (.reg r_r4A_8)
 .ret)
 .skip))
 (.seq (.reg r_r4A_9)
 .ret))))))
def res_r4A:List RDesc:=[(.tmp 6),(.tmp 7)]
theorem e_r4A_0:EqR r_r4A_0 znu [3]:=fun _ _ _=>rfl
theorem e_r4A_1:EqR r_r4A_1 znt []:=fun _ _ _=>rfl
theorem e_r4A_2 (C:FuncId->List AV->AV->Prop) (σ:St) (K:St->Prop):z0l C r_r4A_2 σ K = z0a C [] [⟨.mv (.t 12),some 7,none,[],[]⟩] zql (σ.kills []) K:=rfl
theorem e_r4A_3:EqR r_r4A_3 zns []:=fun _ _ _=>rfl
theorem e_r4A_4:EqR r_r4A_4 [⟨.mv (.c (.bool false)),some 6,none,[],[]⟩,⟨.mv (.c (.str ⟨#[]⟩)),some 7,none,[],[]⟩] []:=fun _ _ _=>rfl
theorem e_r4A_5:EqR r_r4A_5 [⟨.mv (.t 1),some 16,none,[],[]⟩,⟨.un .not (.t 16),some 17,none,[],[]⟩] []:=fun _ _ _=>rfl
theorem e_r4A_6:EqR r_r4A_6 [⟨.mv (.c (.str ⟨#[]⟩)),some 2,none,[],[]⟩] []:=fun _ _ _=>rfl
theorem e_r4A_7:EqR r_r4A_7 znr []:=fun _ _ _=>rfl
theorem e_r4A_8:EqR r_r4A_8 znq [25]:=fun _ _ _=>rfl
theorem e_r4A_9:EqR r_r4A_9 znp []:=fun _ _ _=>rfl
theorem fn_r4A {args:List AV} {r:AV} (ha:args.length.ble Try.f74.ntmps = true) (h:run (AFn Try.prog) ir_r4A (endQ res_r4A r) (z0b args)):AFn Try.prog 74 args r :=
 AFn.of_code (pv:=false) (hint:=fun _=>[]) (c:=Try.f74.body.getD .skip) (by kernel_rfl) (by kernel_rfl) Try.func74 (by kernel_rfl) (by kernel_rfl) (by kernel_rfl) (of_decide_eq_true (by kernel_rfl)) (Nat.le_of_ble_eq_true ha) (Nat.le_of_ble_eq_true (by kernel_rfl)) (z09 h)
/-! ### percolate/effect.Apply -/
def zoq:List ROp:=[⟨.box 2 80 (.t 0),some 3,none,[],[]⟩,⟨.mv (.c (.bool false)),some 6,none,[],[]⟩,⟨.mv (.c (.str ⟨#[]⟩)),some 7,none,[],[]⟩]
def r_eAp_0:Reg:=⟨[],zoq,[3],[],false⟩
def r_eAp_1:Reg:=⟨[],[⟨.mv (.t 1),some 8,none,[],[]⟩,⟨.un .not (.t 8),some 9,none,[],[]⟩],[],[],false⟩
def r_eAp_2:Reg:=⟨[],[⟨.mv (.c (.str ⟨#[]⟩)),some 2,none,[],[]⟩],[],[],false⟩
def r_eAp_3:Reg:=⟨[],[⟨.faddr 0 (.t 3),some 10,none,[],[]⟩,⟨.load 1 false (.t 10),some 11,none,[],[]⟩],[],[],false⟩
def r_eAp_4:Reg:=⟨[],[⟨.bin .eql (.t 11) (.c (.int .i64 1)),some 13,none,[],[]⟩,⟨.mv (.t 13),some 12,none,[],[]⟩],[],[],false⟩
def zqo:List ROp:=[⟨.faddr 1 (.t 3),some 14,none,[],[]⟩,⟨.load 1 false (.t 14),some 15,none,[],[]⟩,⟨.mv (.c (.bool true)),some 6,none,[],[]⟩]
def r_eAp_5:Reg:=⟨zqo,[⟨.mv (.t 15),some 7,none,[],[]⟩],[],[],true⟩
def r_eAp_6:Reg:=⟨[],[⟨.bin .eql (.t 11) (.c (.int .i64 2)),some 17,none,[],[]⟩,⟨.mv (.t 17),some 16,none,[],[]⟩],[],[],false⟩
def zop:List ROp:=[⟨.mv (.t 2),some 18,none,[21],[]⟩,⟨.faddr 1 (.t 3),some 19,none,[21],[]⟩,⟨.load 1 false (.t 19),some 20,none,[21],[]⟩,⟨.callv (.c (.clo 88 [] [])) [(.t 18),(.t 20)],some 21,none,[],[]⟩,⟨.mv (.c (.bool true)),some 6,none,[],[]⟩,⟨.mv (.t 21),some 7,none,[],[]⟩]
def r_eAp_7:Reg:=⟨[],zop,[21],[],false⟩
def r_eAp_8:Reg:=⟨[],[⟨.bin .eql (.t 11) (.c (.int .i64 3)),some 23,none,[],[]⟩,⟨.mv (.t 23),some 22,none,[],[]⟩],[],[],false⟩
def r_eAp_9:Reg:=⟨[],[⟨.mv (.c (.bool false)),some 6,none,[],[]⟩,⟨.mv (.c (.str ⟨#[]⟩)),some 7,none,[],[]⟩],[],[],false⟩
def zgw:List ROp:=[⟨.mv (.t 1),some 24,none,[],[]⟩,⟨.mv (.t 2),some 25,none,[],[]⟩,⟨.mv (.t 24),some 6,none,[],[]⟩,⟨.mv (.t 25),some 7,none,[],[]⟩]
def zw9:Reg:=⟨[],zgw,[],[],false⟩
def ir_eAp:IR:=(.seq (.reg r_eAp_0)
 (.seq (.seq (.reg r_eAp_1)
 (.cond (.t 9) (.reg r_eAp_2)
 .skip))
 (.seq (.seq (.reg r_eAp_3)
 (.block 0 (.seq (.reg r_eAp_4)
 (.cond (.t 12) (.seq (.reg r_eAp_5)
 .ret)
 (.seq (.reg r_eAp_6)
 (.cond (.t 16) (.seq (.reg r_eAp_7)
 .ret)
 (.seq (.reg r_eAp_8)
 (.cond (.t 22) (.seq (.reg r_eAp_9)
 .ret)
 .skip))))))))
 (.seq (.reg zw9)
 .ret))))
def res_eAp:List RDesc:=[(.tmp 6),(.tmp 7)]
theorem e_eAp_0:EqR r_eAp_0 zoq [3]:=fun _ _ _=>rfl
theorem e_eAp_1:EqR r_eAp_1 [⟨.mv (.t 1),some 8,none,[],[]⟩,⟨.un .not (.t 8),some 9,none,[],[]⟩] []:=fun _ _ _=>rfl
theorem e_eAp_2:EqR r_eAp_2 [⟨.mv (.c (.str ⟨#[]⟩)),some 2,none,[],[]⟩] []:=fun _ _ _=>rfl
theorem e_eAp_3:EqR r_eAp_3 [⟨.faddr 0 (.t 3),some 10,none,[],[]⟩,⟨.load 1 false (.t 10),some 11,none,[],[]⟩] []:=fun _ _ _=>rfl
theorem e_eAp_4:EqR r_eAp_4 [⟨.bin .eql (.t 11) (.c (.int .i64 1)),some 13,none,[],[]⟩,⟨.mv (.t 13),some 12,none,[],[]⟩] []:=fun _ _ _=>rfl
theorem e_eAp_5 (C:FuncId->List AV->AV->Prop) (σ:St) (K:St->Prop):z0l C r_eAp_5 σ K = z0a C [] [⟨.mv (.t 15),some 7,none,[],[]⟩] zqo (σ.kills []) K:=rfl
theorem e_eAp_6:EqR r_eAp_6 [⟨.bin .eql (.t 11) (.c (.int .i64 2)),some 17,none,[],[]⟩,⟨.mv (.t 17),some 16,none,[],[]⟩] []:=fun _ _ _=>rfl
theorem e_eAp_7:EqR r_eAp_7 zop [21]:=fun _ _ _=>rfl
theorem e_eAp_8:EqR r_eAp_8 [⟨.bin .eql (.t 11) (.c (.int .i64 3)),some 23,none,[],[]⟩,⟨.mv (.t 23),some 22,none,[],[]⟩] []:=fun _ _ _=>rfl
theorem e_eAp_9:EqR r_eAp_9 [⟨.mv (.c (.bool false)),some 6,none,[],[]⟩,⟨.mv (.c (.str ⟨#[]⟩)),some 7,none,[],[]⟩] []:=fun _ _ _=>rfl
theorem e_eAp_10:EqR zw9 zgw []:=fun _ _ _=>rfl
theorem fn_eAp {args:List AV} {r:AV} (ha:args.length.ble Try.f81.ntmps = true) (h:run (AFn Try.prog) ir_eAp (endQ res_eAp r) (z0b args)):AFn Try.prog 81 args r :=
 AFn.of_code (pv:=false) (hint:=fun _=>[]) (c:=Try.f81.body.getD .skip) (by kernel_rfl) (by kernel_rfl) Try.func81 (by kernel_rfl) (by kernel_rfl) (by kernel_rfl) (of_decide_eq_true (by kernel_rfl)) (Nat.le_of_ble_eq_true ha) (Nat.le_of_ble_eq_true (by kernel_rfl)) (z09 h)
attribute [local go_sem ↓] ir_r4A
attribute [local go_sem] res_r4A e_r4A_0 znu e_r4A_1 znt e_r4A_2 zql e_r4A_3 zns e_r4A_4 e_r4A_5 e_r4A_6 e_r4A_7 znr e_r4A_8 znq e_r4A_9 znp
attribute [local go_sem ↓] ir_eAp
attribute [local go_sem] res_eAp e_eAp_0 zoq e_eAp_1 e_eAp_2 e_eAp_3 e_eAp_4 e_eAp_5 zqo e_eAp_6 e_eAp_7 zop e_eAp_8 e_eAp_9 e_eAp_10 zgw
theorem r4A_ok (e:Eff) (has:Bool) (v:ByteArray) (hv:v.size + e.val.size≤1000000000):AFn Try.prog 74 [e.a,.bool has,.str v] (.tup [.bool (z4e e has v).1,.str (z4e e has v).2]):=by
 refine fn_r4A rfl ?_
 have c1:=refTail (v ++ e.val) (by rw [ByteArray.size_append]; omega)
 have c2:=refTail (nul ++ e.val) (by rw [ByteArray.size_append]; show 0 + _≤_; omega)
 have z0:(ByteArray.mk #[]).size = 0:=rfl
 have b1:v.size + e.val.size≤9223372036854775807:=by omega
 have b2:0 + e.val.size≤9223372036854775807:=by omega
 unfold z4e
 simp only [nul] at c2 ⊢
 cases h1:(e.kind == 1) with
 | true =>
  have h1':e.kind = 1:=by simpa using h1
  rw [if_pos h1']
  simp (maxSteps:=9^7) only [go_sem,↓reduceIte,reduceCtorEq,Nat.reduceEqDiff,Nat.reduceBEq,Nat.reduceAdd,Nat.reduceSub,Nat.reduceMul,Nat.reduceLT,Nat.reduceLeDiff,Nat.reduceBNe,Int.reduceBEq,Int.reduceBNe,Int.reduceLT,Int.reduceLE,Par.a,nul,Spn.a,Eff.a,Msg.a,h1]
 | false =>
  have h1':¬ e.kind = 1:=by simpa using h1
  rw [if_neg h1']
  cases h3:(e.kind == 3) with
  | true =>
   have h3':e.kind = 3:=by simpa using h3
   rw [if_neg (by omega),if_pos h3']
   simp (maxSteps:=9^7) only [go_sem,↓reduceIte,reduceCtorEq,Nat.reduceEqDiff,Nat.reduceBEq,Nat.reduceAdd,Nat.reduceSub,Nat.reduceMul,Nat.reduceLT,Nat.reduceLeDiff,Nat.reduceBNe,Int.reduceBEq,Int.reduceBNe,Int.reduceLT,Int.reduceLE,Par.a,nul,Spn.a,Eff.a,Msg.a,h1,h3]
  | false =>
   have h3':¬ e.kind = 3:=by simpa using h3
   cases h2:(e.kind == 2) with
   | true =>
    have h2':e.kind = 2:=by simpa using h2
    rw [if_pos h2']
    cases has <;> ((repeat (first | simp (maxSteps:=9^7) only [go_sem,↓reduceIte,reduceCtorEq,Nat.reduceEqDiff,Nat.reduceBEq,Nat.reduceAdd,Nat.reduceSub,Nat.reduceMul,Nat.reduceLT,Nat.reduceLeDiff,Nat.reduceBNe,Int.reduceBEq,Int.reduceBNe,Int.reduceLT,Int.reduceLE,Par.a,nul,Spn.a,Eff.a,Msg.a,h1,h2,h3,z0,b1,b2] | refine z01 (c1) ?_ | refine z00 (c1) ?_ | refine z01 (c2) ?_ | refine z00 (c2) ?_ | refine And.intro (by omega) ?_ | refine And.intro (fun d hd=>by (repeat (rcases hd with rfl | hd; · exact ⟨rfl,rfl⟩)); cases hd) ?_)))
   | false =>
    have h2':¬ e.kind = 2:=by simpa using h2
    rw [if_neg h2',if_neg h3']
    cases has <;> (simp (maxSteps:=9^7) only [go_sem,↓reduceIte,reduceCtorEq,Nat.reduceEqDiff,Nat.reduceBEq,Nat.reduceAdd,Nat.reduceSub,Nat.reduceMul,Nat.reduceLT,Nat.reduceLeDiff,Nat.reduceBNe,Int.reduceBEq,Int.reduceBNe,Int.reduceLT,Int.reduceLE,Par.a,nul,Spn.a,Eff.a,Msg.a,h1,h2,h3])
theorem eAp_ok (e:Eff) (has:Bool) (v:ByteArray) (hv:v.size + e.val.size≤1000000000):AFn Try.prog 81 [e.a,.bool has,.str v] (.tup [.bool (z4e e has v).1,.str (z4e e has v).2]):=by
 refine fn_eAp rfl ?_
 have c1:=zru v e.val (by omega)
 have c2:=zru nul e.val (by show 0 + _≤_; omega)
 unfold z4e
 simp only [nul] at c2 ⊢
 cases h1:(e.kind == 1) with
 | true =>
  have h1':e.kind = 1:=by simpa using h1
  rw [if_pos h1']
  cases has <;> (simp (maxSteps:=9^7) only [go_sem,↓reduceIte,reduceCtorEq,Nat.reduceEqDiff,Nat.reduceBEq,Nat.reduceAdd,Nat.reduceSub,Nat.reduceMul,Nat.reduceLT,Nat.reduceLeDiff,Nat.reduceBNe,Int.reduceBEq,Int.reduceBNe,Int.reduceLT,Int.reduceLE,Par.a,nul,Spn.a,Eff.a,Msg.a,h1])
 | false =>
  have h1':¬ e.kind = 1:=by simpa using h1
  rw [if_neg h1']
  cases h2:(e.kind == 2) with
  | true =>
   have h2':e.kind = 2:=by simpa using h2
   rw [if_pos h2']
   cases has <;> ((repeat (first | simp (maxSteps:=9^7) only [go_sem,↓reduceIte,reduceCtorEq,Nat.reduceEqDiff,Nat.reduceBEq,Nat.reduceAdd,Nat.reduceSub,Nat.reduceMul,Nat.reduceLT,Nat.reduceLeDiff,Nat.reduceBNe,Int.reduceBEq,Int.reduceBNe,Int.reduceLT,Int.reduceLE,Par.a,nul,Spn.a,Eff.a,Msg.a,h1,h2] | refine z01 (c1) ?_ | refine z00 (c1) ?_ | refine z01 (c2) ?_ | refine z00 (c2) ?_ | refine And.intro (by omega) ?_ | refine And.intro (fun d hd=>by (repeat (rcases hd with rfl | hd; · exact ⟨rfl,rfl⟩)); cases hd) ?_)))
  | false =>
   have h2':¬ e.kind = 2:=by simpa using h2
   rw [if_neg h2']
   cases h3:(e.kind == 3) with
   | true =>
    have h3':e.kind = 3:=by simpa using h3
    rw [if_pos h3']
    cases has <;> (simp (maxSteps:=9^7) only [go_sem,↓reduceIte,reduceCtorEq,Nat.reduceEqDiff,Nat.reduceBEq,Nat.reduceAdd,Nat.reduceSub,Nat.reduceMul,Nat.reduceLT,Nat.reduceLeDiff,Nat.reduceBNe,Int.reduceBEq,Int.reduceBNe,Int.reduceLT,Int.reduceLE,Par.a,nul,Spn.a,Eff.a,Msg.a,h1,h2,h3])
   | false =>
    have h3':¬ e.kind = 3:=by simpa using h3
    rw [if_neg h3']
    cases has <;> (simp (maxSteps:=9^7) only [go_sem,↓reduceIte,reduceCtorEq,Nat.reduceEqDiff,Nat.reduceBEq,Nat.reduceAdd,Nat.reduceSub,Nat.reduceMul,Nat.reduceLT,Nat.reduceLeDiff,Nat.reduceBNe,Int.reduceBEq,Int.reduceBNe,Int.reduceLT,Int.reduceLE,Par.a,nul,Spn.a,Eff.a,Msg.a,h1,h2,h3])
end
end Go.Proofs.Ytolocaankfcjiaa
