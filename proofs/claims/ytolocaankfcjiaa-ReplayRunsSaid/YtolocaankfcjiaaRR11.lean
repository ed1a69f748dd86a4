/-
  Part 11 of a proof: RyD, RyB.
-/
import Derived.Test.YtolocaankfcjiaaRR10
set_option linter.unusedVariables false
set_option linter.unusedSimpArgs false
set_option maxRecDepth 100000
namespace Go.Proofs.Ytolocaankfcjiaa
section
/-
 Layer 9 on the plain machine: a map is pairs that rise; where a key stands.
-/
open Go.RowKit
attribute [local go_sem ↓] z0s z0g
theorem zxc {a b c:ByteArray} (h1:lt a b = true) (h2:lt b c = true):lt a c = true:=kp.less_trans _ _ _ h1 h2
theorem lt_as7 {a b:ByteArray} (h:lt a b = true):lt b a = false:=kp.less_asymm _ _ h
theorem lt_ir7 (a:ByteArray):lt a a = false:=kp.less_irrefl _
theorem lt_eq7 {a b:ByteArray} (h1:lt a b = false) (h2:lt b a = false):a = b:=by
 have:=kp.less_total _ _ h1 h2
 rw [ByteArray.toList_eq,ByteArray.toList_eq] at this
 cases a; cases b; congr 1; exact Array.ext' this
/-- the keys rise -/
def KOrd (l:List Par):Prop:=l.Pairwise fun a b=>lt a.key b.key = true
/-- how many keys are less -/
def lowN (l:List Par) (k:ByteArray):Nat:=l.countP fun p=>lt p.key k
theorem lowN_le (l:List Par) (k:ByteArray):lowN l k≤l.length:=List.countP_le_length
theorem zhl {l:List Par} {k:ByteArray} (h:∀ p,p ∈ l->lt p.key k = false):lowN l k = 0:=by
 unfold lowN
 rw [List.countP_eq_zero]
 intro p hp
 rw [h p hp]; decide
theorem zhm:∀ {l:List Par} {k:ByteArray} {q:Nat} {x:Par},KOrd l->l[q]? = some x->(lt x.key k = true ↔ q < lowN l k)
 | [],_,q,x,_,hx=>by simp at hx
 | a :: l,k,q,x,h,hx=>by
  unfold KOrd at h
  rw [List.pairwise_cons] at h
  cases ha:lt a.key k with
  | true =>
   have e:lowN (a :: l) k = lowN l k + 1:=by unfold lowN; rw [List.countP_cons,ha]; rfl
   match q with
   | 0=>cases hx; rw [ha,e]; simp
   | q + 1 =>
    have:=zhm (k:=k) (q:=q) (x:=x) h.2 hx
    rw [this,e]; omega
  | false =>
   have nn:∀ p,p ∈ l->lt p.key k = false:=fun p hp=>by
    cases hq:lt p.key k with
    | false=>rfl
    | true=>rw [zxc (h.1 p hp) hq] at ha; cases ha
   have e:lowN (a :: l) k = 0:=by
    have:=zhl (l:=a :: l) (k:=k) fun p hp=>by
     rcases List.mem_cons.1 hp with rfl | hp
     ·exact ha
     ·exact nn p hp
    exact this
   match q with
   | 0=>cases hx; rw [ha,e]; simp
   | q + 1=>rw [nn x (List.mem_of_getElem? hx),e]; simp
def hasK (l:List Par) (k:ByteArray):Bool:=match l[lowN l k]? with | some x=>x.key.toList == k.toList | none=>false
def cmpS (a b:ByteArray):Int:=if lt a b then -1 else if lt b a then 1 else 0
theorem cmpS_neg (a b:ByteArray):(cmpS a b < 0) ↔ lt a b = true:=by
 unfold cmpS
 cases lt a b <;> cases lt b a <;> simp
theorem zmb (a b:ByteArray):(cmpS a b == 0) = (a.toList == b.toList):=by
 unfold cmpS
 cases h1:lt a b with
 | true =>
  have:(a.toList == b.toList) = false:=by
   rw [beq_eq_false_iff_ne]
   intro e
   unfold lt at h1
   rw [e,kp.less_irrefl] at h1; cases h1
  rw [this]; rfl
 | false =>
  cases h2:lt b a with
  | true =>
   have:(a.toList == b.toList) = false:=by
    rw [beq_eq_false_iff_ne]
    intro e
    unfold lt at h2
    rw [e,kp.less_irrefl] at h2; cases h2
   rw [this]; rfl
  | false=>rw [lt_eq7 h1 h2]; simp
/-! ### cmp.isNaN[string] -/
def zv3:Reg:=⟨[],[⟨.mv (.c (.bool false)),some 2,none,[],[]⟩],[],[],false⟩
def zgm:List ROp:=[⟨.mv (.t 0),some 3,none,[],[]⟩,⟨.mv (.t 0),some 4,none,[],[]⟩,⟨.bin .neq (.t 3) (.t 4),some 5,none,[],[]⟩,⟨.mv (.t 5),some 2,none,[],[]⟩]
def zv2:Reg:=⟨[],zgm,[],[],false⟩
def ir_nanS:IR:=(.seq (.reg zv3)
 (.seq (.reg zv2)
 .ret))
def zsf:List RDesc:=[(.tmp 2)]
theorem e_nanS_0:EqR zv3 [⟨.mv (.c (.bool false)),some 2,none,[],[]⟩] []:=fun _ _ _=>rfl
theorem e_nanS_1:EqR zv2 zgm []:=fun _ _ _=>rfl
theorem fn_nanS {args:List AV} {r:AV} (ha:args.length.ble Try.f91.ntmps = true) (h:run (AFn Try.prog) ir_nanS (endQ zsf r) (z0b args)):AFn Try.prog 91 args r :=
 AFn.of_code (pv:=false) (hint:=fun _=>[]) (c:=Try.f91.body.getD .skip) (by kernel_rfl) (by kernel_rfl) Try.func91 (by kernel_rfl) (by kernel_rfl) (by kernel_rfl) (of_decide_eq_true (by kernel_rfl)) (Nat.le_of_ble_eq_true ha) (Nat.le_of_ble_eq_true (by kernel_rfl)) (z09 h)
/-! ### cmp.Compare[string] -/
def r_cCS_0:Reg:=⟨[],[⟨.mv (.c (.int .i64 0)),some 4,none,[],[]⟩],[],[],false⟩
def zox:List ROp:=[⟨.mv (.t 0),some 7,none,[8],[]⟩,⟨.callv (.c (.clo 91 [] [])) [(.t 7)],some 8,none,[],[]⟩,⟨.mv (.t 8),some 5,none,[],[]⟩]
def r_cCS_1:Reg:=⟨[],zox,[8],[],false⟩
def zow:List ROp:=[⟨.mv (.t 1),some 9,none,[10],[]⟩,⟨.callv (.c (.clo 91 [] [])) [(.t 9)],some 10,none,[],[]⟩,⟨.mv (.t 10),some 6,none,[],[]⟩]
def r_cCS_2:Reg:=⟨[],zow,[10],[],false⟩
def r_cCS_3:Reg:=⟨[],[⟨.mv (.t 5),some 11,none,[],[]⟩],[],[],false⟩
def r_cCS_4:Reg:=⟨[],[⟨.mv (.t 6),some 12,none,[],[]⟩],[],[],false⟩
def r_cCS_5:Reg:=⟨[],[⟨.mv (.c (.int .i64 0)),some 4,none,[],[]⟩],[],[],false⟩
def r_cCS_6:Reg:=⟨[],[⟨.mv (.c (.int .i64 (-1))),some 4,none,[],[]⟩],[],[],false⟩
def r_cCS_7:Reg:=⟨[],[⟨.mv (.t 6),some 13,none,[],[]⟩],[],[],false⟩
def r_cCS_8:Reg:=⟨[],[⟨.mv (.c (.int .i64 1)),some 4,none,[],[]⟩],[],[],false⟩
def zov:List ROp:=[⟨.mv (.t 0),some 14,none,[],[]⟩,⟨.mv (.t 1),some 15,none,[],[]⟩,⟨.bin .lss (.t 14) (.t 15),some 16,none,[],[]⟩]
def r_cCS_9:Reg:=⟨[],zov,[],[],false⟩
def zwq:Reg:=⟨[],[⟨.mv (.c (.int .i64 (-1))),some 4,none,[],[]⟩],[],[],false⟩
def zh2:List ROp:=[⟨.mv (.t 0),some 17,none,[],[]⟩,⟨.mv (.t 1),some 18,none,[],[]⟩,⟨.bin .gtr (.t 17) (.t 18),some 19,none,[],[]⟩]
def zwp:Reg:=⟨[],zh2,[],[],false⟩
def zwo:Reg:=⟨[],[⟨.mv (.c (.int .i64 1)),some 4,none,[],[]⟩],[],[],false⟩
def zwn:Reg:=⟨[],[⟨.mv (.c (.int .i64 0)),some 4,none,[],[]⟩],[],[],false⟩
def ir_cCS:IR:=(.seq (.reg r_cCS_0)
 (.seq (.reg r_cCS_1)
 (.seq (.reg r_cCS_2)
 (.seq (.seq (.reg r_cCS_3)
 (.cond (.t 11) (.seq (.seq (.reg r_cCS_4)
 (.cond (.t 12) (.seq (.reg r_cCS_5)
 .ret)
 .skip))
 (.seq (.reg r_cCS_6)
 .ret))
 .skip))
 (.seq (.seq (.reg r_cCS_7)
 (.cond (.t 13) (.seq (.reg r_cCS_8)
 .ret)
 .skip))
 (.seq (.seq (.reg r_cCS_9)
 (.cond (.t 16) (.seq (.reg zwq)
 .ret)
 .skip))
 (.seq (.seq (.reg zwp)
 (.cond (.t 19) (.seq (.reg zwo)
 .ret)
 .skip))
 (.seq (.reg zwn)
 .ret))))))))
def res_cCS:List RDesc:=[(.tmp 4)]
theorem e_cCS_0:EqR r_cCS_0 [⟨.mv (.c (.int .i64 0)),some 4,none,[],[]⟩] []:=fun _ _ _=>rfl
theorem e_cCS_1:EqR r_cCS_1 zox [8]:=fun _ _ _=>rfl
theorem e_cCS_2:EqR r_cCS_2 zow [10]:=fun _ _ _=>rfl
theorem e_cCS_3:EqR r_cCS_3 [⟨.mv (.t 5),some 11,none,[],[]⟩] []:=fun _ _ _=>rfl
theorem e_cCS_4:EqR r_cCS_4 [⟨.mv (.t 6),some 12,none,[],[]⟩] []:=fun _ _ _=>rfl
theorem e_cCS_5:EqR r_cCS_5 [⟨.mv (.c (.int .i64 0)),some 4,none,[],[]⟩] []:=fun _ _ _=>rfl
theorem e_cCS_6:EqR r_cCS_6 [⟨.mv (.c (.int .i64 (-1))),some 4,none,[],[]⟩] []:=fun _ _ _=>rfl
theorem e_cCS_7:EqR r_cCS_7 [⟨.mv (.t 6),some 13,none,[],[]⟩] []:=fun _ _ _=>rfl
theorem e_cCS_8:EqR r_cCS_8 [⟨.mv (.c (.int .i64 1)),some 4,none,[],[]⟩] []:=fun _ _ _=>rfl
theorem e_cCS_9:EqR r_cCS_9 zov []:=fun _ _ _=>rfl
theorem e_cCS_10:EqR zwq [⟨.mv (.c (.int .i64 (-1))),some 4,none,[],[]⟩] []:=fun _ _ _=>rfl
theorem e_cCS_11:EqR zwp zh2 []:=fun _ _ _=>rfl
theorem e_cCS_12:EqR zwo [⟨.mv (.c (.int .i64 1)),some 4,none,[],[]⟩] []:=fun _ _ _=>rfl
theorem e_cCS_13:EqR zwn [⟨.mv (.c (.int .i64 0)),some 4,none,[],[]⟩] []:=fun _ _ _=>rfl
theorem fn_cCS {args:List AV} {r:AV} (ha:args.length.ble Try.f86.ntmps = true) (h:run (AFn Try.prog) ir_cCS (endQ res_cCS r) (z0b args)):AFn Try.prog 86 args r :=
 AFn.of_code (pv:=false) (hint:=fun _=>[]) (c:=Try.f86.body.getD .skip) (by kernel_rfl) (by kernel_rfl) Try.func86 (by kernel_rfl) (by kernel_rfl) (by kernel_rfl) (of_decide_eq_true (by kernel_rfl)) (Nat.le_of_ble_eq_true ha) (Nat.le_of_ble_eq_true (by kernel_rfl)) (z09 h)
/-! ### percolate/key.Compare -/
def zvn:Reg:=⟨[],[⟨.mv (.c (.int .i64 0)),some 4,none,[],[]⟩],[],[],false⟩
def zgs:List ROp:=[⟨.mv (.t 0),some 5,none,[7],[]⟩,⟨.mv (.t 1),some 6,none,[7],[]⟩,⟨.callv (.c (.clo 86 [] [])) [(.t 5),(.t 6)],some 7,none,[],[]⟩,⟨.mv (.t 7),some 4,none,[],[]⟩]
def zvm:Reg:=⟨[],zgs,[7],[],false⟩
def ir_kCmp:IR:=(.seq (.reg zvn)
 (.seq (.reg zvm)
 .ret))
def zsk:List RDesc:=[(.tmp 4)]
theorem e_kCmp_0:EqR zvn [⟨.mv (.c (.int .i64 0)),some 4,none,[],[]⟩] []:=fun _ _ _=>rfl
theorem e_kCmp_1:EqR zvm zgs [7]:=fun _ _ _=>rfl
theorem fn_kCmp {args:List AV} {r:AV} (ha:args.length.ble Try.f77.ntmps = true) (h:run (AFn Try.prog) ir_kCmp (endQ zsk r) (z0b args)):AFn Try.prog 77 args r :=
 AFn.of_code (pv:=false) (hint:=fun _=>[]) (c:=Try.f77.body.getD .skip) (by kernel_rfl) (by kernel_rfl) Try.func77 (by kernel_rfl) (by kernel_rfl) (by kernel_rfl) (of_decide_eq_true (by kernel_rfl)) (Nat.le_of_ble_eq_true ha) (Nat.le_of_ble_eq_true (by kernel_rfl)) (z09 h)
/-! ### percolate/model.find$1 -/
def zw8:Reg:=⟨[],[⟨.box 2 58 (.t 0),some 2,none,[],[]⟩,⟨.mv (.c (.int .i64 0)),some 4,none,[],[]⟩],[2],[],false⟩
def zgv:List ROp:=[⟨.faddr 0 (.t 2),some 5,none,[8],[]⟩,⟨.load 1 false (.t 5),some 6,none,[8],[]⟩,⟨.mv (.t 1),some 7,none,[8],[]⟩,⟨.callv (.c (.clo 77 [] [])) [(.t 6),(.t 7)],some 8,none,[],[]⟩,⟨.mv (.t 8),some 4,none,[],[]⟩]
def zw7:Reg:=⟨[],zgv,[8],[],false⟩
def ir_fnd1:IR:=(.seq (.reg zw8)
 (.seq (.reg zw7)
 .ret))
def zsn:List RDesc:=[(.tmp 4)]
theorem e_fnd1_0:EqR zw8 [⟨.box 2 58 (.t 0),some 2,none,[],[]⟩,⟨.mv (.c (.int .i64 0)),some 4,none,[],[]⟩] [2]:=fun _ _ _=>rfl
theorem e_fnd1_1:EqR zw7 zgv [8]:=fun _ _ _=>rfl
theorem fn_fnd1 {args:List AV} {r:AV} (ha:args.length.ble Try.f76.ntmps = true) (h:run (AFn Try.prog) ir_fnd1 (endQ zsn r) (z0b args)):AFn Try.prog 76 args r :=
 AFn.of_code (pv:=false) (hint:=fun _=>[]) (c:=Try.f76.body.getD .skip) (by kernel_rfl) (by kernel_rfl) Try.func76 (by kernel_rfl) (by kernel_rfl) (by kernel_rfl) (of_decide_eq_true (by kernel_rfl)) (Nat.le_of_ble_eq_true ha) (Nat.le_of_ble_eq_true (by kernel_rfl)) (z09 h)
/-! ### slices.BinarySearchFunc[[]percolate/api.Pair,percolate/api.Pair,string] -/
def r_bsF_0:Reg:=⟨[],[⟨.mv (.c (.int .i64 0)),some 6,none,[],[]⟩,⟨.mv (.c (.bool false)),some 7,none,[],[]⟩],[],[],false⟩
def zp4:List ROp:=[⟨.mv (.t 0),some 12,none,[],[]⟩,⟨.len false (.t 12),some 13,none,[],[]⟩,⟨.mv (.t 13),some 8,none,[],[]⟩]
def r_bsF_1:Reg:=⟨[],zp4,[],[],false⟩
def zp3:List ROp:=[⟨.mv (.t 8),some 14,none,[],[]⟩,⟨.mv (.c (.int .i64 0)),some 9,none,[],[]⟩,⟨.mv (.t 14),some 10,none,[],[]⟩]
def r_bsF_2:Reg:=⟨[],zp3,[],[],false⟩
def zp2:List ROp:=[⟨.mv (.t 9),some 15,none,[],[]⟩,⟨.mv (.t 10),some 16,none,[],[]⟩,⟨.bin .lss (.t 15) (.t 16),some 17,none,[],[]⟩]
def r_bsF_3:Reg:=⟨[],zp2,[],[],false⟩
def zp1:List ROp:=[⟨.mv (.t 9),some 18,none,[22],[]⟩,⟨.mv (.t 10),some 19,none,[22],[]⟩,⟨.bin .add (.t 18) (.t 19),some 20,none,[22],[]⟩,⟨.conv .u64 (.t 20),some 21,none,[22],[]⟩,⟨.call 4 [(.t 21),(.c (.int .u64 1))],some 22,none,[],[]⟩,⟨.conv .i64 (.t 22),some 23,none,[],[]⟩,⟨.mv (.t 23),some 11,none,[],[]⟩]
def r_bsF_4:Reg:=⟨[],zp1,[22],[],false⟩
def zp0:List ROp:=[⟨.mv (.t 2),some 24,none,[30],[]⟩,⟨.mv (.t 0),some 25,none,[30],[]⟩,⟨.mv (.t 11),some 26,none,[30],[]⟩,⟨.iaddr 2 (.t 25) (.t 26),some 27,none,[30],[]⟩,⟨.load 2 true (.t 27),some 28,none,[30],[]⟩,⟨.mv (.t 1),some 29,none,[30],[]⟩,⟨.callv (.t 24) [(.t 28),(.t 29)],some 30,none,[],[]⟩,⟨.bin .lss (.t 30) (.c (.int .i64 0)),some 31,none,[],[]⟩]
def r_bsF_5:Reg:=⟨[],zp0,[30],[],false⟩
def zoz:List ROp:=[⟨.mv (.t 11),some 32,none,[],[]⟩,⟨.bin .add (.t 32) (.c (.int .i64 1)),some 33,none,[],[]⟩,⟨.mv (.t 33),some 9,none,[],[]⟩]
def r_bsF_6:Reg:=⟨[],zoz,[],[],false⟩
def r_bsF_7:Reg:=⟨[],[⟨.mv (.t 11),some 34,none,[],[]⟩,⟨.mv (.t 34),some 10,none,[],[]⟩],[],[],false⟩
def zwr:IR:=(.seq (.seq (.reg r_bsF_3)
 (.cond (.t 17) .skip
 (.exit 0)))
 (.block 1 (.seq (.reg r_bsF_4)
 (.seq (.reg r_bsF_5)
 (.cond (.t 31) (.reg r_bsF_6)
 (.reg r_bsF_7))))))
def zoy:List ROp:=[⟨.mv (.t 9),some 35,none,[46],[]⟩,⟨.mv (.t 9),some 36,none,[46],[]⟩,⟨.mv (.t 8),some 37,none,[46],[]⟩,⟨.bin .lss (.t 36) (.t 37),some 38,none,[46],[]⟩,⟨.mv (.t 38),some 39,none,[46],[]⟩,⟨.mv (.t 2),some 40,(some (39,true)),[46],[]⟩,⟨.mv (.t 0),some 41,(some (39,true)),[46],[]⟩,⟨.mv (.t 9),some 42,(some (39,true)),[46],[]⟩,⟨.iaddr 2 (.t 41) (.t 42),some 43,(some (39,true)),[46],[]⟩,⟨.load 2 true (.t 43),some 44,(some (39,true)),[46],[]⟩,⟨.mv (.t 1),some 45,(some (39,true)),[46],[]⟩,⟨.callv (.t 40) [(.t 44),(.t 45)],some 46,(some (39,true)),[],[]⟩,⟨.bin .eql (.t 46) (.c (.int .i64 0)),some 47,(some (39,true)),[],[]⟩,⟨.pick (.t 39) (.t 47) (.c (.bool false)),some 48,none,[],[]⟩,⟨.mv (.t 35),some 6,none,[],[]⟩,⟨.mv (.t 48),some 7,none,[],[]⟩]
def r_bsF_9:Reg:=⟨[],zoy,[46],[],false⟩
def ir_bsF:IR:=(.seq (.reg r_bsF_0)
 (.seq (.reg r_bsF_1)
 (.seq (.reg r_bsF_2)
 (.seq (.block 0 (.loop zwr))
 (.seq (.reg r_bsF_9)
 .ret)))))
def res_bsF:List RDesc:=[(.tmp 6),(.tmp 7)]
theorem e_bsF_0:EqR r_bsF_0 [⟨.mv (.c (.int .i64 0)),some 6,none,[],[]⟩,⟨.mv (.c (.bool false)),some 7,none,[],[]⟩] []:=fun _ _ _=>rfl
theorem e_bsF_1:EqR r_bsF_1 zp4 []:=fun _ _ _=>rfl
theorem e_bsF_2:EqR r_bsF_2 zp3 []:=fun _ _ _=>rfl
theorem e_bsF_3:EqR r_bsF_3 zp2 []:=fun _ _ _=>rfl
theorem e_bsF_4:EqR r_bsF_4 zp1 [22]:=fun _ _ _=>rfl
theorem e_bsF_5:EqR r_bsF_5 zp0 [30]:=fun _ _ _=>rfl
theorem e_bsF_6:EqR r_bsF_6 zoz []:=fun _ _ _=>rfl
theorem e_bsF_7:EqR r_bsF_7 [⟨.mv (.t 11),some 34,none,[],[]⟩,⟨.mv (.t 34),some 10,none,[],[]⟩] []:=fun _ _ _=>rfl
theorem e_bsF_9:EqR r_bsF_9 zoy [46]:=fun _ _ _=>rfl
theorem fn_bsF {args:List AV} {r:AV} (ha:args.length.ble Try.f75.ntmps = true) (h:run (AFn Try.prog) ir_bsF (endQ res_bsF r) (z0b args)):AFn Try.prog 75 args r :=
 AFn.of_code (pv:=false) (hint:=fun _=>[]) (c:=Try.f75.body.getD .skip) (by kernel_rfl) (by kernel_rfl) Try.func75 (by kernel_rfl) (by kernel_rfl) (by kernel_rfl) (of_decide_eq_true (by kernel_rfl)) (Nat.le_of_ble_eq_true ha) (Nat.le_of_ble_eq_true (by kernel_rfl)) (z09 h)
/-! ### percolate/model.find -/
def zvj:Reg:=⟨[],[⟨.mv (.c (.int .i64 0)),some 4,none,[],[]⟩,⟨.mv (.c (.bool false)),some 5,none,[],[]⟩],[],[],false⟩
def zgq:List ROp:=[⟨.mv (.t 0),some 6,none,[8],[]⟩,⟨.mv (.t 1),some 7,none,[8],[]⟩,⟨.callv (.c (.clo 75 [] [])) [(.t 6),(.t 7),(.c (.clo 76 [] []))],some 8,none,[],[]⟩,⟨.ext 0 (.t 8),some 9,none,[],[]⟩,⟨.ext 1 (.t 8),some 10,none,[],[]⟩,⟨.mv (.t 9),some 4,none,[],[]⟩,⟨.mv (.t 10),some 5,none,[],[]⟩]
def zvi:Reg:=⟨[],zgq,[8],[],false⟩
def ir_mFnd:IR:=(.seq (.reg zvj)
 (.seq (.reg zvi)
 .ret))
def zsi:List RDesc:=[(.tmp 4),(.tmp 5)]
theorem e_mFnd_0:EqR zvj [⟨.mv (.c (.int .i64 0)),some 4,none,[],[]⟩,⟨.mv (.c (.bool false)),some 5,none,[],[]⟩] []:=fun _ _ _=>rfl
theorem e_mFnd_1:EqR zvi zgq [8]:=fun _ _ _=>rfl
theorem fn_mFnd {args:List AV} {r:AV} (ha:args.length.ble Try.f65.ntmps = true) (h:run (AFn Try.prog) ir_mFnd (endQ zsi r) (z0b args)):AFn Try.prog 65 args r :=
 AFn.of_code (pv:=false) (hint:=fun _=>[]) (c:=Try.f65.body.getD .skip) (by kernel_rfl) (by kernel_rfl) Try.func65 (by kernel_rfl) (by kernel_rfl) (by kernel_rfl) (of_decide_eq_true (by kernel_rfl)) (Nat.le_of_ble_eq_true ha) (Nat.le_of_ble_eq_true (by kernel_rfl)) (z09 h)
/-! ### percolate/model.Get -/
def zvh:Reg:=⟨[],[⟨.mv (.c (.str ⟨#[]⟩)),some 4,none,[],[]⟩,⟨.mv (.c (.bool false)),some 5,none,[],[]⟩],[],[],false⟩
def zgp:List ROp:=[⟨.mv (.t 0),some 9,none,[11],[]⟩,⟨.mv (.t 1),some 10,none,[11],[]⟩,⟨.callv (.c (.clo 65 [] [])) [(.t 9),(.t 10)],some 11,none,[],[]⟩,⟨.mv (.t 11),some 8,none,[],[]⟩,⟨.ext 0 (.t 8),some 12,none,[],[]⟩,⟨.ext 1 (.t 8),some 13,none,[],[]⟩,⟨.mv (.t 12),some 6,none,[],[]⟩,⟨.mv (.t 13),some 7,none,[],[]⟩]
def zvg:Reg:=⟨[],zgp,[11],[],false⟩
def zvf:Reg:=⟨[],[⟨.mv (.t 7),some 14,none,[],[]⟩,⟨.un .not (.t 14),some 15,none,[],[]⟩],[],[],false⟩
def zve:Reg:=⟨[],[⟨.mv (.c (.str ⟨#[]⟩)),some 4,none,[],[]⟩,⟨.mv (.c (.bool false)),some 5,none,[],[]⟩],[],[],false⟩
def zgo:List ROp:=[⟨.mv (.t 0),some 16,none,[],[]⟩,⟨.mv (.t 6),some 17,none,[],[]⟩,⟨.iaddr 2 (.t 16) (.t 17),some 18,none,[],[]⟩,⟨.faddr 1 (.t 18),some 19,none,[],[]⟩,⟨.load 1 false (.t 19),some 20,none,[],[]⟩,⟨.mv (.t 20),some 4,none,[],[]⟩,⟨.mv (.c (.bool true)),some 5,none,[],[]⟩]
def zvd:Reg:=⟨[],zgo,[],[],false⟩
def ir_mGet:IR:=(.seq (.reg zvh)
 (.seq (.reg zvg)
 (.seq (.seq (.reg zvf)
 (.cond (.t 15) (.seq (.reg zve)
 .ret)
 .skip))
 (.seq (.reg zvd)
 .ret))))
def zsh:List RDesc:=[(.tmp 4),(.tmp 5)]
theorem e_mGet_0:EqR zvh [⟨.mv (.c (.str ⟨#[]⟩)),some 4,none,[],[]⟩,⟨.mv (.c (.bool false)),some 5,none,[],[]⟩] []:=fun _ _ _=>rfl
theorem e_mGet_1:EqR zvg zgp [11]:=fun _ _ _=>rfl
theorem e_mGet_2:EqR zvf [⟨.mv (.t 7),some 14,none,[],[]⟩,⟨.un .not (.t 14),some 15,none,[],[]⟩] []:=fun _ _ _=>rfl
theorem e_mGet_3:EqR zve [⟨.mv (.c (.str ⟨#[]⟩)),some 4,none,[],[]⟩,⟨.mv (.c (.bool false)),some 5,none,[],[]⟩] []:=fun _ _ _=>rfl
theorem e_mGet_4:EqR zvd zgo []:=fun _ _ _=>rfl
theorem fn_mGet {args:List AV} {r:AV} (ha:args.length.ble Try.f47.ntmps = true) (h:run (AFn Try.prog) ir_mGet (endQ zsh r) (z0b args)):AFn Try.prog 47 args r :=
 AFn.of_code (pv:=false) (hint:=fun _=>[]) (c:=Try.f47.body.getD .skip) (by kernel_rfl) (by kernel_rfl) Try.func47 (by kernel_rfl) (by kernel_rfl) (by kernel_rfl) (of_decide_eq_true (by kernel_rfl)) (Nat.le_of_ble_eq_true ha) (Nat.le_of_ble_eq_true (by kernel_rfl)) (z09 h)
attribute [local go_sem ↓] ir_nanS
attribute [local go_sem] zsf e_nanS_0 e_nanS_1 zgm
attribute [local go_sem ↓] ir_cCS
attribute [local go_sem] res_cCS e_cCS_0 e_cCS_1 zox e_cCS_2 zow e_cCS_3 e_cCS_4 e_cCS_5 e_cCS_6 e_cCS_7 e_cCS_8 e_cCS_9 zov e_cCS_10 e_cCS_11 zh2 e_cCS_12 e_cCS_13
attribute [local go_sem ↓] ir_kCmp
attribute [local go_sem] zsk e_kCmp_0 e_kCmp_1 zgs
attribute [local go_sem ↓] ir_fnd1
attribute [local go_sem] zsn e_fnd1_0 e_fnd1_1 zgv
attribute [local go_sem ↓] ir_bsF
attribute [local go_sem] res_bsF e_bsF_0 e_bsF_1 zp4 e_bsF_2 zp3 e_bsF_3 zp2 e_bsF_4 zp1 e_bsF_5 zp0 e_bsF_6 zoz e_bsF_7 e_bsF_9 zoy
attribute [local go_sem ↓] ir_mFnd
attribute [local go_sem] zsi e_mFnd_0 e_mFnd_1 zgq
attribute [local go_sem ↓] ir_mGet
attribute [local go_sem] zsh e_mGet_0 e_mGet_1 zgp e_mGet_2 e_mGet_3 e_mGet_4 zgo
theorem nanS_ok (a:ByteArray):AFn Try.prog 91 [.str a] (.bool false):=by
 refine fn_nanS rfl ?_
 have h:(a.toList != a.toList) = false:=bne_self_eq_false _
 simp (maxSteps:=9^7) only [go_sem,↓reduceIte,reduceCtorEq,Nat.reduceEqDiff,Nat.reduceBEq,Nat.reduceAdd,Nat.reduceSub,Nat.reduceMul,Nat.reduceLT,Nat.reduceLeDiff,Nat.reduceBNe,Int.reduceBEq,Int.reduceBNe,Int.reduceLT,Int.reduceLE,Par.a,nul,h]
theorem cCS_ok (a b:ByteArray):AFn Try.prog 86 [.str a,.str b] (.int .i64 (cmpS a b)):=by
 refine fn_cCS rfl ?_
 have n1:=nanS_ok a
 have n2:=nanS_ok b
 have e:=zmb a b
 unfold cmpS lt at e ⊢
 cases h1:Op.bytesLess a.toList b.toList with
 | true=>(repeat (first | simp (maxSteps:=9^7) only [go_sem,↓reduceIte,reduceCtorEq,Nat.reduceEqDiff,Nat.reduceBEq,Nat.reduceAdd,Nat.reduceSub,Nat.reduceMul,Nat.reduceLT,Nat.reduceLeDiff,Nat.reduceBNe,Int.reduceBEq,Int.reduceBNe,Int.reduceLT,Int.reduceLE,Par.a,nul,h1] | refine z01 (n1) ?_ | refine z00 (n1) ?_ | refine z01 (n2) ?_ | refine z00 (n2) ?_ | refine And.intro (by omega) ?_ | refine And.intro (fun d hd=>by (repeat (rcases hd with rfl | hd; · exact ⟨rfl,rfl⟩)); cases hd) ?_))
 | false =>
  rw [h1] at e
  cases h2:Op.bytesLess b.toList a.toList with
  | true =>
   rw [h2] at e
   have e':(a.toList == b.toList) = false:=e.symm
   (repeat (first | simp (maxSteps:=9^7) only [go_sem,↓reduceIte,reduceCtorEq,Nat.reduceEqDiff,Nat.reduceBEq,Nat.reduceAdd,Nat.reduceSub,Nat.reduceMul,Nat.reduceLT,Nat.reduceLeDiff,Nat.reduceBNe,Int.reduceBEq,Int.reduceBNe,Int.reduceLT,Int.reduceLE,Par.a,nul,h1,h2,e'] | refine z01 (n1) ?_ | refine z00 (n1) ?_ | refine z01 (n2) ?_ | refine z00 (n2) ?_ | refine And.intro (by omega) ?_ | refine And.intro (fun d hd=>by (repeat (rcases hd with rfl | hd; · exact ⟨rfl,rfl⟩)); cases hd) ?_))
  | false =>
   rw [h2] at e
   have e':(a.toList == b.toList) = true:=e.symm
   (repeat (first | simp (maxSteps:=9^7) only [go_sem,↓reduceIte,reduceCtorEq,Nat.reduceEqDiff,Nat.reduceBEq,Nat.reduceAdd,Nat.reduceSub,Nat.reduceMul,Nat.reduceLT,Nat.reduceLeDiff,Nat.reduceBNe,Int.reduceBEq,Int.reduceBNe,Int.reduceLT,Int.reduceLE,Par.a,nul,h1,h2,e'] | refine z01 (n1) ?_ | refine z00 (n1) ?_ | refine z01 (n2) ?_ | refine z00 (n2) ?_ | refine And.intro (by omega) ?_ | refine And.intro (fun d hd=>by (repeat (rcases hd with rfl | hd; · exact ⟨rfl,rfl⟩)); cases hd) ?_))
theorem kCmp_ok (a b:ByteArray):AFn Try.prog 77 [.str a,.str b] (.int .i64 (cmpS a b)):=by
 refine fn_kCmp rfl ?_
 have c:=cCS_ok a b
 (repeat (first | simp (maxSteps:=9^7) only [go_sem,↓reduceIte,reduceCtorEq,Nat.reduceEqDiff,Nat.reduceBEq,Nat.reduceAdd,Nat.reduceSub,Nat.reduceMul,Nat.reduceLT,Nat.reduceLeDiff,Nat.reduceBNe,Int.reduceBEq,Int.reduceBNe,Int.reduceLT,Int.reduceLE,Par.a,nul] | refine z01 (c) ?_ | refine z00 (c) ?_ | refine And.intro (by omega) ?_ | refine And.intro (fun d hd=>by (repeat (rcases hd with rfl | hd; · exact ⟨rfl,rfl⟩)); cases hd) ?_))
theorem fnd1_ok (x:Par) (k:ByteArray):AFn Try.prog 76 [x.a,.str k] (.int .i64 (cmpS x.key k)):=by
 refine fn_fnd1 rfl ?_
 have c:=kCmp_ok x.key k
 (repeat (first | simp (maxSteps:=9^7) only [go_sem,↓reduceIte,reduceCtorEq,Nat.reduceEqDiff,Nat.reduceBEq,Nat.reduceAdd,Nat.reduceSub,Nat.reduceMul,Nat.reduceLT,Nat.reduceLeDiff,Nat.reduceBNe,Int.reduceBEq,Int.reduceBNe,Int.reduceLT,Int.reduceLE,Par.a,nul] | refine z01 (c) ?_ | refine z00 (c) ?_ | refine And.intro (by omega) ?_ | refine And.intro (fun d hd=>by (repeat (rcases hd with rfl | hd; · exact ⟨rfl,rfl⟩)); cases hd) ?_))
def bsI (l:List Par) (k:ByteArray) (m:Nat) (σ:St):Prop :=
 ∃ i j:Nat,i≤lowN l k∧lowN l k≤j∧j≤l.length∧m = j - i∧σ.T 0 = .sl (l.map Par.a)∧σ.T 1 = .str k∧σ.T 2 = .clo 76 [] []∧σ.T 8 = .int .i64 l.length∧σ.T 9 = .int .i64 i∧σ.T 10 = .int .i64 j
set_option maxHeartbeats 4000000 in
theorem bsF_ok (l:List Par) (k:ByteArray) (ho:KOrd l) (hl:l.length≤1000000):AFn Try.prog 75 [.sl (l.map Par.a),.str k,.clo 76 [] []] (.tup [.int .i64 (lowN l k:Nat),.bool (hasK l k)]):=by
 refine fn_bsF rfl ?_
 simp (maxSteps:=9^7) only [go_sem,↓reduceIte,reduceCtorEq,Nat.reduceEqDiff,Nat.reduceBEq,Nat.reduceAdd,Nat.reduceSub,Nat.reduceMul,Nat.reduceLT,Nat.reduceLeDiff,Nat.reduceBNe,Int.reduceBEq,Int.reduceBNe,Int.reduceLT,Int.reduceLE,Par.a,nul,List.length_map]
 refine z0f (bsI l k) (k:=l.length) ⟨0,l.length,Nat.zero_le _,lowN_le l k,Nat.le_refl _,rfl,?_,?_,?_,?_,?_,?_⟩ ?_
 iterate 6 focus ((simp (maxSteps:=9^7) only [go_sem,↓reduceIte,reduceCtorEq,Nat.reduceEqDiff,Nat.reduceBEq,Nat.reduceAdd,Nat.reduceSub,Nat.reduceMul,Nat.reduceLT,Nat.reduceLeDiff,Nat.reduceBNe,Int.reduceBEq,Int.reduceBNe,Int.reduceLT,Int.reduceLE,Par.a,nul,List.length_map]) <;> rfl)
 rintro m σ ⟨i,j,hi,hj,hjl,rfl,t0,t1,t2,t8,t9,t10⟩
 simp only [zwr]
 by_cases hlt:i < j
 case neg =>
  have hlt':¬ (i:Int) < (j:Int):=by omega
  obtain rfl:i = lowN l k:=by omega
  unfold hasK
  by_cases hn:lowN l k < l.length
  ·obtain ⟨x,hx⟩:=z1w hn
   rw [hx]
   generalize lowN l k = L at *
   have hn':(L:Int) < (l.length:Int):=by omega
   have hge:=z1b (f:=Par.a) hx
   have c:=fnd1_ok x k
   simp only [Par.a] at hge c
   have z:=zmb x.key k
   generalize cmpS x.key k = C at *
   (repeat (first | simp (maxSteps:=9^7) only [go_sem,↓reduceIte,reduceCtorEq,Nat.reduceEqDiff,Nat.reduceBEq,Nat.reduceAdd,Nat.reduceSub,Nat.reduceMul,Nat.reduceLT,Nat.reduceLeDiff,Nat.reduceBNe,Int.reduceBEq,Int.reduceBNe,Int.reduceLT,Int.reduceLE,Par.a,nul,t0,t1,t2,t8,t9,t10,hlt',hn,hn',hge,z,List.length_map,Int.toNat_natCast] | refine z01 (c) ?_ | refine z00 (c) ?_ | refine And.intro (by omega) ?_ | refine And.intro (fun d hd=>by (repeat (rcases hd with rfl | hd; · exact ⟨rfl,rfl⟩)); cases hd) ?_))
  ·have hn':¬ (lowN l k:Int) < (l.length:Int):=by omega
   rw [List.getElem?_eq_none (by omega)]
   generalize lowN l k = L at *
   simp (maxSteps:=9^7) only [go_sem,↓reduceIte,reduceCtorEq,Nat.reduceEqDiff,Nat.reduceBEq,Nat.reduceAdd,Nat.reduceSub,Nat.reduceMul,Nat.reduceLT,Nat.reduceLeDiff,Nat.reduceBNe,Int.reduceBEq,Int.reduceBNe,Int.reduceLT,Int.reduceLE,Par.a,nul,t0,t1,t2,t8,t9,t10,hlt',hn',List.length_map,Int.toNat_natCast]
 have hlt':(i:Int) < (j:Int):=by omega
 have w1:IntKind.i64.wrap ((i:Int) + (j:Int)) = (i:Int) + (j:Int):=IntWalk.i64_in _ (by omega)
 have w2:IntKind.u64.wrap ((i:Int) + (j:Int)) = (i:Int) + (j:Int):=wrapU (by omega)
 have fh:=halfI i j
 obtain ⟨h,hh⟩:∃ h,(i + j) / 2 = h:=⟨_,rfl⟩
 rw [hh] at fh
 have h1:i≤h:=by omega
 have h2:h < j:=by omega
 have h3:h < l.length:=by omega
 have h3':(h:Int) < (l.length:Int):=by omega
 have wh:IntKind.i64.wrap (h:Int) = (h:Int):=IntWalk.i64_in _ (by omega)
 have wi:=z5s (j:=h) (by omega)
 obtain ⟨x,hx⟩:=z1w h3
 have hge:=z1b (f:=Par.a) hx
 have c:=fnd1_ok x k
 simp only [Par.a] at hge c
 have z:=cmpS_neg x.key k
 have lo:=zhm (k:=k) ho hx
 have z0:(0:Int)≤(h:Int):=Int.natCast_nonneg h
 generalize cmpS x.key k = C at *
 by_cases hC:C < 0
 ·have:=lo.1 (z.1 hC)
  (repeat (first | simp (maxSteps:=9^7) only [go_sem,↓reduceIte,reduceCtorEq,Nat.reduceEqDiff,Nat.reduceBEq,Nat.reduceAdd,Nat.reduceSub,Nat.reduceMul,Nat.reduceLT,Nat.reduceLeDiff,Nat.reduceBNe,Int.reduceBEq,Int.reduceBNe,Int.reduceLT,Int.reduceLE,Par.a,nul,t0,t1,t2,t8,t9,t10,hlt',w1,w2,fh,wh,wi,h3,h3',hge,z0,hC,List.length_map,Int.toNat_natCast] | refine z01 (c) ?_ | refine z00 (c) ?_ | refine And.intro (by omega) ?_ | refine And.intro (fun d hd=>by (repeat (rcases hd with rfl | hd; · exact ⟨rfl,rfl⟩)); cases hd) ?_))
  refine ⟨j - (h + 1),by omega,h + 1,j,by omega,by omega,by omega,rfl,?_,?_,?_,?_,?_,?_⟩
  iterate 6 focus ((simp (maxSteps:=9^7) only [go_sem,↓reduceIte,reduceCtorEq,Nat.reduceEqDiff,Nat.reduceBEq,Nat.reduceAdd,Nat.reduceSub,Nat.reduceMul,Nat.reduceLT,Nat.reduceLeDiff,Nat.reduceBNe,Int.reduceBEq,Int.reduceBNe,Int.reduceLT,Int.reduceLE,Par.a,nul,t0,t1,t2,t8,wi,t10]) <;> rfl)
 ·have:¬ h < lowN l k:=fun q=>hC (z.2 (lo.2 q))
  (repeat (first | simp (maxSteps:=9^7) only [go_sem,↓reduceIte,reduceCtorEq,Nat.reduceEqDiff,Nat.reduceBEq,Nat.reduceAdd,Nat.reduceSub,Nat.reduceMul,Nat.reduceLT,Nat.reduceLeDiff,Nat.reduceBNe,Int.reduceBEq,Int.reduceBNe,Int.reduceLT,Int.reduceLE,Par.a,nul,t0,t1,t2,t8,t9,t10,hlt',w1,w2,fh,wh,wi,h3,h3',hge,z0,hC,List.length_map,Int.toNat_natCast] | refine z01 (c) ?_ | refine z00 (c) ?_ | refine And.intro (by omega) ?_ | refine And.intro (fun d hd=>by (repeat (rcases hd with rfl | hd; · exact ⟨rfl,rfl⟩)); cases hd) ?_))
  refine ⟨h - i,by omega,i,h,by omega,by omega,by omega,rfl,?_,?_,?_,?_,?_,?_⟩
  iterate 6 focus ((simp (maxSteps:=9^7) only [go_sem,↓reduceIte,reduceCtorEq,Nat.reduceEqDiff,Nat.reduceBEq,Nat.reduceAdd,Nat.reduceSub,Nat.reduceMul,Nat.reduceLT,Nat.reduceLeDiff,Nat.reduceBNe,Int.reduceBEq,Int.reduceBNe,Int.reduceLT,Int.reduceLE,Par.a,nul,t0,t1,t2,t8,t9]) <;> rfl)
theorem mFnd_ok (l:List Par) (k:ByteArray) (ho:KOrd l) (hl:l.length≤1000000):AFn Try.prog 65 [.sl (l.map Par.a),.str k] (.tup [.int .i64 (lowN l k:Nat),.bool (hasK l k)]):=by
 refine fn_mFnd rfl ?_
 have c:=bsF_ok l k ho hl
 (repeat (first | simp (maxSteps:=9^7) only [go_sem,↓reduceIte,reduceCtorEq,Nat.reduceEqDiff,Nat.reduceBEq,Nat.reduceAdd,Nat.reduceSub,Nat.reduceMul,Nat.reduceLT,Nat.reduceLeDiff,Nat.reduceBNe,Int.reduceBEq,Int.reduceBNe,Int.reduceLT,Int.reduceLE,Par.a,nul] | refine z01 (c) ?_ | refine z00 (c) ?_ | refine And.intro (by omega) ?_ | refine And.intro (fun d hd=>by (repeat (rcases hd with rfl | hd; · exact ⟨rfl,rfl⟩)); cases hd) ?_))
def valK (l:List Par) (k:ByteArray):ByteArray:=if hasK l k then (match l[lowN l k]? with | some x=>x.val | none=>nul) else nul
theorem mGet_ok (l:List Par) (k:ByteArray) (ho:KOrd l) (hl:l.length≤1000000):AFn Try.prog 47 [.sl (l.map Par.a),.str k] (.tup [.str (valK l k),.bool (hasK l k)]):=by
 refine fn_mGet rfl ?_
 have c:=mFnd_ok l k ho hl
 unfold valK
 cases hh:hasK l k with
 | false =>
  rw [hh] at c
  (repeat (first | simp (maxSteps:=9^7) only [go_sem,↓reduceIte,reduceCtorEq,Nat.reduceEqDiff,Nat.reduceBEq,Nat.reduceAdd,Nat.reduceSub,Nat.reduceMul,Nat.reduceLT,Nat.reduceLeDiff,Nat.reduceBNe,Int.reduceBEq,Int.reduceBNe,Int.reduceLT,Int.reduceLE,Par.a,nul] | refine z01 (c) ?_ | refine z00 (c) ?_ | refine And.intro (by omega) ?_ | refine And.intro (fun d hd=>by (repeat (rcases hd with rfl | hd; · exact ⟨rfl,rfl⟩)); cases hd) ?_))
 | true =>
  rw [hh] at c
  have hh':=hh
  unfold hasK at hh'
  cases hx:l[lowN l k]? with
  | none=>rw [hx] at hh'; cases hh'
  | some x =>
   have hge:=z1b (f:=Par.a) hx
   simp only [Par.a] at hge
   have hlt:=(List.getElem?_eq_some_iff.1 hx).1
   generalize lowN l k = L at *
   have hlt':(L:Int) < (l.length:Int):=by omega
   have z0:(0:Int)≤(L:Int):=Int.natCast_nonneg L
   (repeat (first | simp (maxSteps:=9^7) only [go_sem,↓reduceIte,reduceCtorEq,Nat.reduceEqDiff,Nat.reduceBEq,Nat.reduceAdd,Nat.reduceSub,Nat.reduceMul,Nat.reduceLT,Nat.reduceLeDiff,Nat.reduceBNe,Int.reduceBEq,Int.reduceBNe,Int.reduceLT,Int.reduceLE,Par.a,nul,hge,hlt,hlt',z0,List.length_map,Int.toNat_natCast] | refine z01 (c) ?_ | refine z00 (c) ?_ | refine And.intro (by omega) ?_ | refine And.intro (fun d hd=>by (repeat (rcases hd with rfl | hd; · exact ⟨rfl,rfl⟩)); cases hd) ?_))
end
section
/-
 Layer 7 on the plain machine: whether an operation may be.
-/
open Go.RowKit
attribute [local go_sem ↓] z0s z0g
/-! ### percolate/op.Right -/
def zep:Reg:=⟨[],[⟨.box 6 26 (.t 0),some 1,none,[],[]⟩,⟨.mv (.c (.int .i64 0)),some 2,none,[],[]⟩],[1],[],false⟩
def z8l:List ROp:=[⟨.faddr 0 (.t 1),some 4,none,[15,20,25],[]⟩,⟨.load 1 false (.t 4),some 5,none,[15,20,25],[]⟩,⟨.bin .geq (.t 5) (.c (.int .i64 1)),some 6,none,[15,20,25],[]⟩,⟨.mv (.t 6),some 7,none,[15,20,25],[]⟩,⟨.faddr 0 (.t 1),some 8,(some (7,true)),[15,20,25],[]⟩,⟨.load 1 false (.t 8),some 9,(some (7,true)),[15,20,25],[]⟩,⟨.bin .leq (.t 9) (.c (.int .i64 6)),some 10,(some (7,true)),[15,20,25],[]⟩,⟨.pick (.t 7) (.t 10) (.c (.bool false)),some 11,none,[15,20,25],[]⟩,⟨.mv (.t 11),some 12,none,[15,20,25],[]⟩,⟨.faddr 1 (.t 1),some 13,(some (12,true)),[15,20,25],[]⟩,⟨.load 1 false (.t 13),some 14,(some (12,true)),[15,20,25],[]⟩,⟨.callv (.c (.clo 60 [] [])) [(.t 14)],some 15,(some (12,true)),[20,25],[]⟩,⟨.pick (.t 12) (.t 15) (.c (.bool false)),some 16,none,[20,25],[]⟩,⟨.mv (.t 16),some 17,none,[20,25],[]⟩,⟨.faddr 2 (.t 1),some 18,(some (17,true)),[20,25],[]⟩,⟨.load 1 false (.t 18),some 19,(some (17,true)),[20,25],[]⟩,⟨.callv (.c (.clo 60 [] [])) [(.t 19)],some 20,(some (17,true)),[25],[]⟩,⟨.pick (.t 17) (.t 20) (.c (.bool false)),some 21,none,[25],[]⟩,⟨.mv (.t 21),some 22,none,[25],[]⟩,⟨.faddr 4 (.t 1),some 23,(some (22,true)),[25],[]⟩,⟨.load 1 false (.t 23),some 24,(some (22,true)),[25],[]⟩,⟨.callv (.c (.clo 61 [] [])) [(.t 24)],some 25,(some (22,true)),[],[]⟩,⟨.pick (.t 22) (.t 25) (.c (.bool false)),some 26,none,[],[]⟩,⟨.mv (.t 26),some 3,none,[],[]⟩]
def zeo:Reg:=⟨[],z8l,[15,20,25],[],false⟩
def z8k:List ROp:=[⟨.mv (.t 3),some 27,none,[30],[]⟩,⟨.mv (.t 27),some 28,none,[30],[]⟩,⟨.load 6 true (.t 1),some 29,(some (28,true)),[30],[]⟩,⟨.callv (.c (.clo 62 [] [])) [(.t 29)],some 30,(some (28,true)),[],[]⟩,⟨.mv (.t 30),some 31,(some (28,true)),[],[]⟩,⟨.faddr 4 (.t 1),some 32,(some (31,false)),[],[]⟩,⟨.load 1 false (.t 32),some 33,(some (31,false)),[],[]⟩,⟨.bin .eql (.t 33) (.c (.str ⟨#[]⟩)),some 34,(some (31,false)),[],[]⟩,⟨.pick (.t 31) (.c (.bool true)) (.t 34),some 35,(some (28,true)),[],[]⟩,⟨.pick (.t 28) (.t 35) (.c (.bool false)),some 36,none,[],[]⟩,⟨.mv (.t 36),some 37,none,[],[]⟩,⟨.faddr 3 (.t 1),some 38,(some (37,true)),[],[]⟩,⟨.load 1 false (.t 38),some 39,(some (37,true)),[],[]⟩,⟨.un .not (.t 39),some 40,(some (37,true)),[],[]⟩,⟨.mv (.t 40),some 41,(some (37,true)),[],[]⟩,⟨.faddr 2 (.t 1),some 42,(some (41,false)),[],[]⟩,⟨.load 1 false (.t 42),some 43,(some (41,false)),[],[]⟩,⟨.bin .eql (.t 43) (.c (.str ⟨#[]⟩)),some 44,(some (41,false)),[],[]⟩,⟨.pick (.t 41) (.c (.bool true)) (.t 44),some 45,(some (37,true)),[],[]⟩,⟨.pick (.t 37) (.t 45) (.c (.bool false)),some 46,none,[],[]⟩,⟨.mv (.t 46),some 3,none,[],[]⟩]
def zen:Reg:=⟨[],z8k,[30],[],false⟩
def z8j:List ROp:=[⟨.load 6 true (.t 1),some 47,none,[48],[]⟩,⟨.callv (.c (.clo 63 [] [])) [(.t 47)],some 48,none,[],[]⟩]
def zem:Reg:=⟨[],z8j,[48],[],false⟩
def z8i:List ROp:=[⟨.mv (.t 3),some 49,none,[52,53],[]⟩,⟨.mv (.t 49),some 50,none,[52,53],[]⟩,⟨.load 6 true (.t 1),some 51,(some (50,true)),[52,53],[]⟩,⟨.callv (.c (.clo 49 [] [])) [(.t 51)],some 52,(some (50,true)),[53],[]⟩,⟨.callv (.c (.clo 64 [] [])) [(.t 52)],some 53,(some (50,true)),[],[]⟩,⟨.un .not (.t 53),some 54,(some (50,true)),[],[]⟩,⟨.pick (.t 50) (.t 54) (.c (.bool false)),some 55,none,[],[]⟩,⟨.mv (.t 55),some 3,none,[],[]⟩]
def zel:Reg:=⟨[],z8i,[52,53],[],false⟩
def z8h:List ROp:=[⟨.mv (.t 3),some 56,none,[],[]⟩,⟨.mv (.t 56),some 57,none,[],[]⟩,⟨.faddr 2 (.t 1),some 58,(some (57,true)),[],[]⟩,⟨.load 1 false (.t 58),some 59,(some (57,true)),[],[]⟩,⟨.bin .eql (.t 59) (.c (.str ⟨#[]⟩)),some 60,(some (57,true)),[],[]⟩,⟨.pick (.t 57) (.t 60) (.c (.bool false)),some 61,none,[],[]⟩,⟨.mv (.t 61),some 62,none,[],[]⟩,⟨.faddr 3 (.t 1),some 63,(some (62,true)),[],[]⟩,⟨.load 1 false (.t 63),some 64,(some (62,true)),[],[]⟩,⟨.un .not (.t 64),some 65,(some (62,true)),[],[]⟩,⟨.pick (.t 62) (.t 65) (.c (.bool false)),some 66,none,[],[]⟩,⟨.mv (.t 66),some 3,none,[],[]⟩]
def zek:Reg:=⟨[],z8h,[],[],false⟩
def z8g:List ROp:=[⟨.faddr 0 (.t 1),some 67,none,[],[]⟩,⟨.load 1 false (.t 67),some 68,none,[],[]⟩,⟨.bin .eql (.t 68) (.c (.int .i64 6)),some 69,none,[],[]⟩]
def zej:Reg:=⟨[],z8g,[],[],false⟩
def z8f:List ROp:=[⟨.mv (.t 3),some 70,none,[],[]⟩,⟨.mv (.t 70),some 71,none,[],[]⟩,⟨.faddr 5 (.t 1),some 72,(some (71,true)),[],[]⟩,⟨.load 1 false (.t 72),some 73,(some (71,true)),[],[]⟩,⟨.bin .geq (.t 73) (.c (.int .i64 1)),some 74,(some (71,true)),[],[]⟩,⟨.pick (.t 71) (.t 74) (.c (.bool false)),some 75,none,[],[]⟩,⟨.mv (.t 75),some 76,none,[],[]⟩,⟨.faddr 5 (.t 1),some 77,(some (76,true)),[],[]⟩,⟨.load 1 false (.t 77),some 78,(some (76,true)),[],[]⟩,⟨.bin .leq (.t 78) (.c (.int .i64 64)),some 79,(some (76,true)),[],[]⟩,⟨.pick (.t 76) (.t 79) (.c (.bool false)),some 80,none,[],[]⟩,⟨.mv (.t 80),some 3,none,[],[]⟩]
def zei:Reg:=⟨[],z8f,[],[],false⟩
def z8e:List ROp:=[⟨.mv (.t 3),some 81,none,[],[]⟩,⟨.mv (.t 81),some 82,none,[],[]⟩,⟨.faddr 5 (.t 1),some 83,(some (82,true)),[],[]⟩,⟨.load 1 false (.t 83),some 84,(some (82,true)),[],[]⟩,⟨.bin .eql (.t 84) (.c (.int .i64 0)),some 85,(some (82,true)),[],[]⟩,⟨.pick (.t 82) (.t 85) (.c (.bool false)),some 86,none,[],[]⟩,⟨.mv (.t 86),some 3,none,[],[]⟩]
def zeh:Reg:=⟨[],z8e,[],[],false⟩
def zeg:Reg:=⟨[],[⟨.mv (.t 3),some 87,none,[],[]⟩,⟨.un .not (.t 87),some 88,none,[],[]⟩],[],[],false⟩
def zbv:Reg:=⟨[],[⟨.mv (.c (.int .i64 3)),some 2,none,[],[]⟩],[],[],false⟩
def zbu:Reg:=⟨[],[⟨.mv (.c (.int .i64 0)),some 2,none,[],[]⟩],[],[],false⟩
def zcm:IR:=(.seq (.reg zep)
 (.seq (.reg zeo)
 (.seq (.reg zen)
 (.seq (.seq (.reg zem)
 (.cond (.t 48) (.reg zel)
 (.reg zek)))
 (.seq (.seq (.reg zej)
 (.cond (.t 69) (.reg zei)
 (.reg zeh)))
 (.seq (.seq (.reg zeg)
 (.cond (.t 88) (.seq (.reg zbv)
 .ret)
 .skip))
 (.seq (.reg zbu)
 .ret)))))))
def z8r:List RDesc:=[(.tmp 2)]
theorem e_oRight_0:EqR zep [⟨.box 6 26 (.t 0),some 1,none,[],[]⟩,⟨.mv (.c (.int .i64 0)),some 2,none,[],[]⟩] [1]:=fun _ _ _=>rfl
theorem e_oRight_1:EqR zeo z8l [15,20,25]:=fun _ _ _=>rfl
theorem e_oRight_2:EqR zen z8k [30]:=fun _ _ _=>rfl
theorem e_oRight_3:EqR zem z8j [48]:=fun _ _ _=>rfl
theorem e_oRight_4:EqR zel z8i [52,53]:=fun _ _ _=>rfl
theorem e_oRight_5:EqR zek z8h []:=fun _ _ _=>rfl
theorem e_oRight_6:EqR zej z8g []:=fun _ _ _=>rfl
theorem e_oRight_7:EqR zei z8f []:=fun _ _ _=>rfl
theorem e_oRight_8:EqR zeh z8e []:=fun _ _ _=>rfl
theorem e_oRight_9:EqR zeg [⟨.mv (.t 3),some 87,none,[],[]⟩,⟨.un .not (.t 87),some 88,none,[],[]⟩] []:=fun _ _ _=>rfl
theorem zr9:EqR zbv [⟨.mv (.c (.int .i64 3)),some 2,none,[],[]⟩] []:=fun _ _ _=>rfl
theorem zr8:EqR zbu [⟨.mv (.c (.int .i64 0)),some 2,none,[],[]⟩] []:=fun _ _ _=>rfl
theorem fn_oRight {args:List AV} {r:AV} (ha:args.length.ble Try.f46.ntmps = true) (h:run (AFn Try.prog) zcm (endQ z8r r) (z0b args)):AFn Try.prog 46 args r :=
 AFn.of_code (pv:=false) (hint:=fun _=>[]) (c:=Try.f46.body.getD .skip) (by kernel_rfl) (by kernel_rfl) Try.func46 (by kernel_rfl) (by kernel_rfl) (by kernel_rfl) (of_decide_eq_true (by kernel_rfl)) (Nat.le_of_ble_eq_true ha) (Nat.le_of_ble_eq_true (by kernel_rfl)) (z09 h)
attribute [local go_sem ↓] zcm
attribute [local go_sem] z8r e_oRight_0 e_oRight_1 z8l e_oRight_2 z8k e_oRight_3 z8j e_oRight_4 z8i e_oRight_5 z8h e_oRight_6 z8g e_oRight_7 z8f e_oRight_8 z8e e_oRight_9 zr9 zr8
set_option maxHeartbeats 4000000 in
/-- the tests one behind the other -/
theorem zlk (o:Opr) (h:o.key.size≤9000000000):AFn Try.prog 46 [o.a] (.int .i64 (if o.right then 0 else 3)):=by
 refine fn_oRight rfl ?_
 obtain ⟨kind,key,hi,op,val,lim⟩:=o
 have hsp:∀ k,k = 4∨k = 6->Opr.span ⟨k,key,hi,op,val,lim⟩ = ⟨key,hi,op⟩:=by
  rintro k (rfl | rfl) <;> rfl
 have sE:∀ k,k = 4∨k = 6->AFn Try.prog 49 [.agg [.int .i64 k,.str key,.str hi,.bool op,.str val,.int .i64 lim]] (.agg [.str key,.str hi,.bool op]):=fun k hk=>by
  have:=zx3 ⟨k,key,hi,op,val,lim⟩ h
  rw [hsp k hk] at this
  exact this
 have eE:AFn Try.prog 64 [.agg [.str key,.str hi,.bool op]] (.bool (!op && !leB key hi)):=sEmpty_ok ⟨key,hi,op⟩
 have out:(kind < 1∨6 < kind)->run (AFn Try.prog) zcm (endQ z8r (.int .i64 (if (Opr.right ⟨kind,key,hi,op,val,lim⟩) then 0 else 3))) (z0b [Opr.a ⟨kind,key,hi,op,val,lim⟩]):=by
  intro hk
  have h4:(kind == 4) = false:=by rw [beq_eq_false_iff_ne]; omega
  have h6:(kind == 6) = false:=by rw [beq_eq_false_iff_ne]; omega
  have hr:=z29 ⟨kind,key,hi,op,val,lim⟩
  simp only [Opr.a,Opr.ranged,h4,h6,Bool.or_self] at hr
  rcases hk with hk | hk
  ·have k1:¬ 1≤kind:=by omega
   have ans:Opr.right ⟨kind,key,hi,op,val,lim⟩ = false:=by unfold Opr.right; simp [k1]
   rw [ans]
   (repeat (first | simp (maxSteps:=9^7) only [go_sem,↓reduceIte,reduceCtorEq,Nat.reduceEqDiff,Nat.reduceBEq,Nat.reduceAdd,Nat.reduceSub,Nat.reduceMul,Nat.reduceLT,Nat.reduceLeDiff,Nat.reduceBNe,Int.reduceBEq,Int.reduceBNe,Int.reduceLT,Int.reduceLE,Opr.a,OSpn.a,nul,k1,h4,h6] | refine z01 (hr) ?_ | refine z00 (hr) ?_ | refine And.intro (by omega) ?_ | refine And.intro (fun d hd=>by (repeat (rcases hd with rfl | hd; · exact ⟨rfl,rfl⟩)); cases hd) ?_))
  ·have k1:1≤kind:=by omega
   have k2:¬ kind≤6:=by omega
   have ans:Opr.right ⟨kind,key,hi,op,val,lim⟩ = false:=by unfold Opr.right; simp [k1,k2]
   rw [ans]
   (repeat (first | simp (maxSteps:=9^7) only [go_sem,↓reduceIte,reduceCtorEq,Nat.reduceEqDiff,Nat.reduceBEq,Nat.reduceAdd,Nat.reduceSub,Nat.reduceMul,Nat.reduceLT,Nat.reduceLeDiff,Nat.reduceBNe,Int.reduceBEq,Int.reduceBNe,Int.reduceLT,Int.reduceLE,Opr.a,OSpn.a,nul,k1,k2,h4,h6] | refine z01 (hr) ?_ | refine z00 (hr) ?_ | refine And.intro (by omega) ?_ | refine And.intro (fun d hd=>by (repeat (rcases hd with rfl | hd; · exact ⟨rfl,rfl⟩)); cases hd) ?_))
 have sE0:=sE
 clear sE
 have hk:(kind < 1∨6 < kind)∨kind = 1∨kind = 2∨kind = 3∨kind = 4∨kind = 5∨kind = 6:=by omega
 rcases hk with hk | rfl | rfl | rfl | rfl | rfl | rfl
 ·exact out hk
 ·-- kind 1
  have hv:AFn Try.prog 62 [.agg [.int .i64 1,.str key,.str hi,.bool op,.str val,.int .i64 lim]] (.bool true):=z4s ⟨1,key,hi,op,val,lim⟩
  have hr:AFn Try.prog 63 [.agg [.int .i64 1,.str key,.str hi,.bool op,.str val,.int .i64 lim]] (.bool false):=z29 ⟨1,key,hi,op,val,lim⟩
  by_cases ha:(key.size:Int)≤16
  case neg =>
   (repeat (first | simp (maxSteps:=9^7) only [go_sem,↓reduceIte,reduceCtorEq,Nat.reduceEqDiff,Nat.reduceBEq,Nat.reduceAdd,Nat.reduceSub,Nat.reduceMul,Nat.reduceLT,Nat.reduceLeDiff,Nat.reduceBNe,Int.reduceBEq,Int.reduceBNe,Int.reduceLT,Int.reduceLE,Opr.a,OSpn.a,nul,Opr.right,Opr.valued,Opr.ranged,OSpn.empty,nilB,Int.reduceBEq,Bool.or_self,ha] | refine z01 (hv) ?_ | refine z00 (hv) ?_ | refine z01 (hr) ?_ | refine z00 (hr) ?_ | refine z01 (z02 key) ?_ | refine z00 (z02 key) ?_ | refine z01 (z02 hi) ?_ | refine z00 (z02 hi) ?_ | refine z01 (z06 val) ?_ | refine z00 (z06 val) ?_ | refine And.intro (by omega) ?_ | refine And.intro (fun d hd=>by (repeat (rcases hd with rfl | hd; · exact ⟨rfl,rfl⟩)); cases hd) ?_))
  by_cases hb:(hi.size:Int)≤16
  case neg =>
   (repeat (first | simp (maxSteps:=9^7) only [go_sem,↓reduceIte,reduceCtorEq,Nat.reduceEqDiff,Nat.reduceBEq,Nat.reduceAdd,Nat.reduceSub,Nat.reduceMul,Nat.reduceLT,Nat.reduceLeDiff,Nat.reduceBNe,Int.reduceBEq,Int.reduceBNe,Int.reduceLT,Int.reduceLE,Opr.a,OSpn.a,nul,Opr.right,Opr.valued,Opr.ranged,OSpn.empty,nilB,Int.reduceBEq,Bool.or_self,ha,hb] | refine z01 (hv) ?_ | refine z00 (hv) ?_ | refine z01 (hr) ?_ | refine z00 (hr) ?_ | refine z01 (z02 key) ?_ | refine z00 (z02 key) ?_ | refine z01 (z02 hi) ?_ | refine z00 (z02 hi) ?_ | refine z01 (z06 val) ?_ | refine z00 (z06 val) ?_ | refine And.intro (by omega) ?_ | refine And.intro (fun d hd=>by (repeat (rcases hd with rfl | hd; · exact ⟨rfl,rfl⟩)); cases hd) ?_))
  by_cases hc:(val.size:Int)≤16
  case neg =>
   (repeat (first | simp (maxSteps:=9^7) only [go_sem,↓reduceIte,reduceCtorEq,Nat.reduceEqDiff,Nat.reduceBEq,Nat.reduceAdd,Nat.reduceSub,Nat.reduceMul,Nat.reduceLT,Nat.reduceLeDiff,Nat.reduceBNe,Int.reduceBEq,Int.reduceBNe,Int.reduceLT,Int.reduceLE,Opr.a,OSpn.a,nul,Opr.right,Opr.valued,Opr.ranged,OSpn.empty,nilB,Int.reduceBEq,Bool.or_self,ha,hb,hc] | refine z01 (hv) ?_ | refine z00 (hv) ?_ | refine z01 (hr) ?_ | refine z00 (hr) ?_ | refine z01 (z02 key) ?_ | refine z00 (z02 key) ?_ | refine z01 (z02 hi) ?_ | refine z00 (z02 hi) ?_ | refine z01 (z06 val) ?_ | refine z00 (z06 val) ?_ | refine And.intro (by omega) ?_ | refine And.intro (fun d hd=>by (repeat (rcases hd with rfl | hd; · exact ⟨rfl,rfl⟩)); cases hd) ?_))
  cases hh:(hi.toList == (ByteArray.mk #[]).toList)
  case false =>
   cases op <;> (repeat (first | simp (maxSteps:=9^7) only [go_sem,↓reduceIte,reduceCtorEq,Nat.reduceEqDiff,Nat.reduceBEq,Nat.reduceAdd,Nat.reduceSub,Nat.reduceMul,Nat.reduceLT,Nat.reduceLeDiff,Nat.reduceBNe,Int.reduceBEq,Int.reduceBNe,Int.reduceLT,Int.reduceLE,Opr.a,OSpn.a,nul,Opr.right,Opr.valued,Opr.ranged,OSpn.empty,nilB,Int.reduceBEq,Bool.or_self,ha,hb,hc,hh] | refine z01 (hv) ?_ | refine z00 (hv) ?_ | refine z01 (hr) ?_ | refine z00 (hr) ?_ | refine z01 (z02 key) ?_ | refine z00 (z02 key) ?_ | refine z01 (z02 hi) ?_ | refine z00 (z02 hi) ?_ | refine z01 (z06 val) ?_ | refine z00 (z06 val) ?_ | refine And.intro (by omega) ?_ | refine And.intro (fun d hd=>by (repeat (rcases hd with rfl | hd; · exact ⟨rfl,rfl⟩)); cases hd) ?_))
  cases op <;> cases hz:(lim == 0) <;> (repeat (first | simp (maxSteps:=9^7) only [go_sem,↓reduceIte,reduceCtorEq,Nat.reduceEqDiff,Nat.reduceBEq,Nat.reduceAdd,Nat.reduceSub,Nat.reduceMul,Nat.reduceLT,Nat.reduceLeDiff,Nat.reduceBNe,Int.reduceBEq,Int.reduceBNe,Int.reduceLT,Int.reduceLE,Opr.a,OSpn.a,nul,Opr.right,Opr.valued,Opr.ranged,OSpn.empty,nilB,Int.reduceBEq,Bool.or_self,ha,hb,hc,hh,hz] | refine z01 (hv) ?_ | refine z00 (hv) ?_ | refine z01 (hr) ?_ | refine z00 (hr) ?_ | refine z01 (z02 key) ?_ | refine z00 (z02 key) ?_ | refine z01 (z02 hi) ?_ | refine z00 (z02 hi) ?_ | refine z01 (z06 val) ?_ | refine z00 (z06 val) ?_ | refine And.intro (by omega) ?_ | refine And.intro (fun d hd=>by (repeat (rcases hd with rfl | hd; · exact ⟨rfl,rfl⟩)); cases hd) ?_))
 ·-- kind 2
  have hv:AFn Try.prog 62 [.agg [.int .i64 2,.str key,.str hi,.bool op,.str val,.int .i64 lim]] (.bool true):=z4s ⟨2,key,hi,op,val,lim⟩
  have hr:AFn Try.prog 63 [.agg [.int .i64 2,.str key,.str hi,.bool op,.str val,.int .i64 lim]] (.bool false):=z29 ⟨2,key,hi,op,val,lim⟩
  by_cases ha:(key.size:Int)≤16
  case neg =>
   (repeat (first | simp (maxSteps:=9^7) only [go_sem,↓reduceIte,reduceCtorEq,Nat.reduceEqDiff,Nat.reduceBEq,Nat.reduceAdd,Nat.reduceSub,Nat.reduceMul,Nat.reduceLT,Nat.reduceLeDiff,Nat.reduceBNe,Int.reduceBEq,Int.reduceBNe,Int.reduceLT,Int.reduceLE,Opr.a,OSpn.a,nul,Opr.right,Opr.valued,Opr.ranged,OSpn.empty,nilB,Int.reduceBEq,Bool.or_self,ha] | refine z01 (hv) ?_ | refine z00 (hv) ?_ | refine z01 (hr) ?_ | refine z00 (hr) ?_ | refine z01 (z02 key) ?_ | refine z00 (z02 key) ?_ | refine z01 (z02 hi) ?_ | refine z00 (z02 hi) ?_ | refine z01 (z06 val) ?_ | refine z00 (z06 val) ?_ | refine And.intro (by omega) ?_ | refine And.intro (fun d hd=>by (repeat (rcases hd with rfl | hd; · exact ⟨rfl,rfl⟩)); cases hd) ?_))
  by_cases hb:(hi.size:Int)≤16
  case neg =>
   (repeat (first | simp (maxSteps:=9^7) only [go_sem,↓reduceIte,reduceCtorEq,Nat.reduceEqDiff,Nat.reduceBEq,Nat.reduceAdd,Nat.reduceSub,Nat.reduceMul,Nat.reduceLT,Nat.reduceLeDiff,Nat.reduceBNe,Int.reduceBEq,Int.reduceBNe,Int.reduceLT,Int.reduceLE,Opr.a,OSpn.a,nul,Opr.right,Opr.valued,Opr.ranged,OSpn.empty,nilB,Int.reduceBEq,Bool.or_self,ha,hb] | refine z01 (hv) ?_ | refine z00 (hv) ?_ | refine z01 (hr) ?_ | refine z00 (hr) ?_ | refine z01 (z02 key) ?_ | refine z00 (z02 key) ?_ | refine z01 (z02 hi) ?_ | refine z00 (z02 hi) ?_ | refine z01 (z06 val) ?_ | refine z00 (z06 val) ?_ | refine And.intro (by omega) ?_ | refine And.intro (fun d hd=>by (repeat (rcases hd with rfl | hd; · exact ⟨rfl,rfl⟩)); cases hd) ?_))
  by_cases hc:(val.size:Int)≤16
  case neg =>
   (repeat (first | simp (maxSteps:=9^7) only [go_sem,↓reduceIte,reduceCtorEq,Nat.reduceEqDiff,Nat.reduceBEq,Nat.reduceAdd,Nat.reduceSub,Nat.reduceMul,Nat.reduceLT,Nat.reduceLeDiff,Nat.reduceBNe,Int.reduceBEq,Int.reduceBNe,Int.reduceLT,Int.reduceLE,Opr.a,OSpn.a,nul,Opr.right,Opr.valued,Opr.ranged,OSpn.empty,nilB,Int.reduceBEq,Bool.or_self,ha,hb,hc] | refine z01 (hv) ?_ | refine z00 (hv) ?_ | refine z01 (hr) ?_ | refine z00 (hr) ?_ | refine z01 (z02 key) ?_ | refine z00 (z02 key) ?_ | refine z01 (z02 hi) ?_ | refine z00 (z02 hi) ?_ | refine z01 (z06 val) ?_ | refine z00 (z06 val) ?_ | refine And.intro (by omega) ?_ | refine And.intro (fun d hd=>by (repeat (rcases hd with rfl | hd; · exact ⟨rfl,rfl⟩)); cases hd) ?_))
  cases hh:(hi.toList == (ByteArray.mk #[]).toList)
  case false =>
   cases op <;> (repeat (first | simp (maxSteps:=9^7) only [go_sem,↓reduceIte,reduceCtorEq,Nat.reduceEqDiff,Nat.reduceBEq,Nat.reduceAdd,Nat.reduceSub,Nat.reduceMul,Nat.reduceLT,Nat.reduceLeDiff,Nat.reduceBNe,Int.reduceBEq,Int.reduceBNe,Int.reduceLT,Int.reduceLE,Opr.a,OSpn.a,nul,Opr.right,Opr.valued,Opr.ranged,OSpn.empty,nilB,Int.reduceBEq,Bool.or_self,ha,hb,hc,hh] | refine z01 (hv) ?_ | refine z00 (hv) ?_ | refine z01 (hr) ?_ | refine z00 (hr) ?_ | refine z01 (z02 key) ?_ | refine z00 (z02 key) ?_ | refine z01 (z02 hi) ?_ | refine z00 (z02 hi) ?_ | refine z01 (z06 val) ?_ | refine z00 (z06 val) ?_ | refine And.intro (by omega) ?_ | refine And.intro (fun d hd=>by (repeat (rcases hd with rfl | hd; · exact ⟨rfl,rfl⟩)); cases hd) ?_))
  cases op <;> cases hz:(lim == 0) <;> (repeat (first | simp (maxSteps:=9^7) only [go_sem,↓reduceIte,reduceCtorEq,Nat.reduceEqDiff,Nat.reduceBEq,Nat.reduceAdd,Nat.reduceSub,Nat.reduceMul,Nat.reduceLT,Nat.reduceLeDiff,Nat.reduceBNe,Int.reduceBEq,Int.reduceBNe,Int.reduceLT,Int.reduceLE,Opr.a,OSpn.a,nul,Opr.right,Opr.valued,Opr.ranged,OSpn.empty,nilB,Int.reduceBEq,Bool.or_self,ha,hb,hc,hh,hz] | refine z01 (hv) ?_ | refine z00 (hv) ?_ | refine z01 (hr) ?_ | refine z00 (hr) ?_ | refine z01 (z02 key) ?_ | refine z00 (z02 key) ?_ | refine z01 (z02 hi) ?_ | refine z00 (z02 hi) ?_ | refine z01 (z06 val) ?_ | refine z00 (z06 val) ?_ | refine And.intro (by omega) ?_ | refine And.intro (fun d hd=>by (repeat (rcases hd with rfl | hd; · exact ⟨rfl,rfl⟩)); cases hd) ?_))
 ·-- kind 3
  have hv:AFn Try.prog 62 [.agg [.int .i64 3,.str key,.str hi,.bool op,.str val,.int .i64 lim]] (.bool false):=z4s ⟨3,key,hi,op,val,lim⟩
  have hr:AFn Try.prog 63 [.agg [.int .i64 3,.str key,.str hi,.bool op,.str val,.int .i64 lim]] (.bool false):=z29 ⟨3,key,hi,op,val,lim⟩
  by_cases ha:(key.size:Int)≤16
  case neg =>
   (repeat (first | simp (maxSteps:=9^7) only [go_sem,↓reduceIte,reduceCtorEq,Nat.reduceEqDiff,Nat.reduceBEq,Nat.reduceAdd,Nat.reduceSub,Nat.reduceMul,Nat.reduceLT,Nat.reduceLeDiff,Nat.reduceBNe,Int.reduceBEq,Int.reduceBNe,Int.reduceLT,Int.reduceLE,Opr.a,OSpn.a,nul,Opr.right,Opr.valued,Opr.ranged,OSpn.empty,nilB,Int.reduceBEq,Bool.or_self,ha] | refine z01 (hv) ?_ | refine z00 (hv) ?_ | refine z01 (hr) ?_ | refine z00 (hr) ?_ | refine z01 (z02 key) ?_ | refine z00 (z02 key) ?_ | refine z01 (z02 hi) ?_ | refine z00 (z02 hi) ?_ | refine z01 (z06 val) ?_ | refine z00 (z06 val) ?_ | refine And.intro (by omega) ?_ | refine And.intro (fun d hd=>by (repeat (rcases hd with rfl | hd; · exact ⟨rfl,rfl⟩)); cases hd) ?_))
  by_cases hb:(hi.size:Int)≤16
  case neg =>
   (repeat (first | simp (maxSteps:=9^7) only [go_sem,↓reduceIte,reduceCtorEq,Nat.reduceEqDiff,Nat.reduceBEq,Nat.reduceAdd,Nat.reduceSub,Nat.reduceMul,Nat.reduceLT,Nat.reduceLeDiff,Nat.reduceBNe,Int.reduceBEq,Int.reduceBNe,Int.reduceLT,Int.reduceLE,Opr.a,OSpn.a,nul,Opr.right,Opr.valued,Opr.ranged,OSpn.empty,nilB,Int.reduceBEq,Bool.or_self,ha,hb] | refine z01 (hv) ?_ | refine z00 (hv) ?_ | refine z01 (hr) ?_ | refine z00 (hr) ?_ | refine z01 (z02 key) ?_ | refine z00 (z02 key) ?_ | refine z01 (z02 hi) ?_ | refine z00 (z02 hi) ?_ | refine z01 (z06 val) ?_ | refine z00 (z06 val) ?_ | refine And.intro (by omega) ?_ | refine And.intro (fun d hd=>by (repeat (rcases hd with rfl | hd; · exact ⟨rfl,rfl⟩)); cases hd) ?_))
  by_cases hc:(val.size:Int)≤16
  case neg =>
   (repeat (first | simp (maxSteps:=9^7) only [go_sem,↓reduceIte,reduceCtorEq,Nat.reduceEqDiff,Nat.reduceBEq,Nat.reduceAdd,Nat.reduceSub,Nat.reduceMul,Nat.reduceLT,Nat.reduceLeDiff,Nat.reduceBNe,Int.reduceBEq,Int.reduceBNe,Int.reduceLT,Int.reduceLE,Opr.a,OSpn.a,nul,Opr.right,Opr.valued,Opr.ranged,OSpn.empty,nilB,Int.reduceBEq,Bool.or_self,ha,hb,hc] | refine z01 (hv) ?_ | refine z00 (hv) ?_ | refine z01 (hr) ?_ | refine z00 (hr) ?_ | refine z01 (z02 key) ?_ | refine z00 (z02 key) ?_ | refine z01 (z02 hi) ?_ | refine z00 (z02 hi) ?_ | refine z01 (z06 val) ?_ | refine z00 (z06 val) ?_ | refine And.intro (by omega) ?_ | refine And.intro (fun d hd=>by (repeat (rcases hd with rfl | hd; · exact ⟨rfl,rfl⟩)); cases hd) ?_))
  cases hn:(val.toList == (ByteArray.mk #[]).toList)
  case false =>
   (repeat (first | simp (maxSteps:=9^7) only [go_sem,↓reduceIte,reduceCtorEq,Nat.reduceEqDiff,Nat.reduceBEq,Nat.reduceAdd,Nat.reduceSub,Nat.reduceMul,Nat.reduceLT,Nat.reduceLeDiff,Nat.reduceBNe,Int.reduceBEq,Int.reduceBNe,Int.reduceLT,Int.reduceLE,Opr.a,OSpn.a,nul,Opr.right,Opr.valued,Opr.ranged,OSpn.empty,nilB,Int.reduceBEq,Bool.or_self,ha,hb,hc,hn] | refine z01 (hv) ?_ | refine z00 (hv) ?_ | refine z01 (hr) ?_ | refine z00 (hr) ?_ | refine z01 (z02 key) ?_ | refine z00 (z02 key) ?_ | refine z01 (z02 hi) ?_ | refine z00 (z02 hi) ?_ | refine z01 (z06 val) ?_ | refine z00 (z06 val) ?_ | refine And.intro (by omega) ?_ | refine And.intro (fun d hd=>by (repeat (rcases hd with rfl | hd; · exact ⟨rfl,rfl⟩)); cases hd) ?_))
  cases hh:(hi.toList == (ByteArray.mk #[]).toList)
  case false =>
   cases op <;> (repeat (first | simp (maxSteps:=9^7) only [go_sem,↓reduceIte,reduceCtorEq,Nat.reduceEqDiff,Nat.reduceBEq,Nat.reduceAdd,Nat.reduceSub,Nat.reduceMul,Nat.reduceLT,Nat.reduceLeDiff,Nat.reduceBNe,Int.reduceBEq,Int.reduceBNe,Int.reduceLT,Int.reduceLE,Opr.a,OSpn.a,nul,Opr.right,Opr.valued,Opr.ranged,OSpn.empty,nilB,Int.reduceBEq,Bool.or_self,ha,hb,hc,hn,hh] | refine z01 (hv) ?_ | refine z00 (hv) ?_ | refine z01 (hr) ?_ | refine z00 (hr) ?_ | refine z01 (z02 key) ?_ | refine z00 (z02 key) ?_ | refine z01 (z02 hi) ?_ | refine z00 (z02 hi) ?_ | refine z01 (z06 val) ?_ | refine z00 (z06 val) ?_ | refine And.intro (by omega) ?_ | refine And.intro (fun d hd=>by (repeat (rcases hd with rfl | hd; · exact ⟨rfl,rfl⟩)); cases hd) ?_))
  cases op <;> cases hz:(lim == 0) <;> (repeat (first | simp (maxSteps:=9^7) only [go_sem,↓reduceIte,reduceCtorEq,Nat.reduceEqDiff,Nat.reduceBEq,Nat.reduceAdd,Nat.reduceSub,Nat.reduceMul,Nat.reduceLT,Nat.reduceLeDiff,Nat.reduceBNe,Int.reduceBEq,Int.reduceBNe,Int.reduceLT,Int.reduceLE,Opr.a,OSpn.a,nul,Opr.right,Opr.valued,Opr.ranged,OSpn.empty,nilB,Int.reduceBEq,Bool.or_self,ha,hb,hc,hn,hh,hz] | refine z01 (hv) ?_ | refine z00 (hv) ?_ | refine z01 (hr) ?_ | refine z00 (hr) ?_ | refine z01 (z02 key) ?_ | refine z00 (z02 key) ?_ | refine z01 (z02 hi) ?_ | refine z00 (z02 hi) ?_ | refine z01 (z06 val) ?_ | refine z00 (z06 val) ?_ | refine And.intro (by omega) ?_ | refine And.intro (fun d hd=>by (repeat (rcases hd with rfl | hd; · exact ⟨rfl,rfl⟩)); cases hd) ?_))
 ·-- kind 4
  have hv:AFn Try.prog 62 [.agg [.int .i64 4,.str key,.str hi,.bool op,.str val,.int .i64 lim]] (.bool false):=z4s ⟨4,key,hi,op,val,lim⟩
  have hr:AFn Try.prog 63 [.agg [.int .i64 4,.str key,.str hi,.bool op,.str val,.int .i64 lim]] (.bool true):=z29 ⟨4,key,hi,op,val,lim⟩
  have sE:=sE0 4 (by omega)
  by_cases ha:(key.size:Int)≤16
  case neg =>
   (repeat (first | simp (maxSteps:=9^7) only [go_sem,↓reduceIte,reduceCtorEq,Nat.reduceEqDiff,Nat.reduceBEq,Nat.reduceAdd,Nat.reduceSub,Nat.reduceMul,Nat.reduceLT,Nat.reduceLeDiff,Nat.reduceBNe,Int.reduceBEq,Int.reduceBNe,Int.reduceLT,Int.reduceLE,Opr.a,OSpn.a,nul,Opr.right,Opr.valued,Opr.ranged,OSpn.empty,nilB,Int.reduceBEq,Bool.or_self,ha] | refine z01 (hv) ?_ | refine z00 (hv) ?_ | refine z01 (hr) ?_ | refine z00 (hr) ?_ | refine z01 (z02 key) ?_ | refine z00 (z02 key) ?_ | refine z01 (z02 hi) ?_ | refine z00 (z02 hi) ?_ | refine z01 (z06 val) ?_ | refine z00 (z06 val) ?_ | refine z01 (sE) ?_ | refine z00 (sE) ?_ | refine z01 (eE) ?_ | refine z00 (eE) ?_ | refine And.intro (by omega) ?_ | refine And.intro (fun d hd=>by (repeat (rcases hd with rfl | hd; · exact ⟨rfl,rfl⟩)); cases hd) ?_))
  by_cases hb:(hi.size:Int)≤16
  case neg =>
   (repeat (first | simp (maxSteps:=9^7) only [go_sem,↓reduceIte,reduceCtorEq,Nat.reduceEqDiff,Nat.reduceBEq,Nat.reduceAdd,Nat.reduceSub,Nat.reduceMul,Nat.reduceLT,Nat.reduceLeDiff,Nat.reduceBNe,Int.reduceBEq,Int.reduceBNe,Int.reduceLT,Int.reduceLE,Opr.a,OSpn.a,nul,Opr.right,Opr.valued,Opr.ranged,OSpn.empty,nilB,Int.reduceBEq,Bool.or_self,ha,hb] | refine z01 (hv) ?_ | refine z00 (hv) ?_ | refine z01 (hr) ?_ | refine z00 (hr) ?_ | refine z01 (z02 key) ?_ | refine z00 (z02 key) ?_ | refine z01 (z02 hi) ?_ | refine z00 (z02 hi) ?_ | refine z01 (z06 val) ?_ | refine z00 (z06 val) ?_ | refine z01 (sE) ?_ | refine z00 (sE) ?_ | refine z01 (eE) ?_ | refine z00 (eE) ?_ | refine And.intro (by omega) ?_ | refine And.intro (fun d hd=>by (repeat (rcases hd with rfl | hd; · exact ⟨rfl,rfl⟩)); cases hd) ?_))
  by_cases hc:(val.size:Int)≤16
  case neg =>
   (repeat (first | simp (maxSteps:=9^7) only [go_sem,↓reduceIte,reduceCtorEq,Nat.reduceEqDiff,Nat.reduceBEq,Nat.reduceAdd,Nat.reduceSub,Nat.reduceMul,Nat.reduceLT,Nat.reduceLeDiff,Nat.reduceBNe,Int.reduceBEq,Int.reduceBNe,Int.reduceLT,Int.reduceLE,Opr.a,OSpn.a,nul,Opr.right,Opr.valued,Opr.ranged,OSpn.empty,nilB,Int.reduceBEq,Bool.or_self,ha,hb,hc] | refine z01 (hv) ?_ | refine z00 (hv) ?_ | refine z01 (hr) ?_ | refine z00 (hr) ?_ | refine z01 (z02 key) ?_ | refine z00 (z02 key) ?_ | refine z01 (z02 hi) ?_ | refine z00 (z02 hi) ?_ | refine z01 (z06 val) ?_ | refine z00 (z06 val) ?_ | refine z01 (sE) ?_ | refine z00 (sE) ?_ | refine z01 (eE) ?_ | refine z00 (eE) ?_ | refine And.intro (by omega) ?_ | refine And.intro (fun d hd=>by (repeat (rcases hd with rfl | hd; · exact ⟨rfl,rfl⟩)); cases hd) ?_))
  cases hn:(val.toList == (ByteArray.mk #[]).toList)
  case false =>
   (repeat (first | simp (maxSteps:=9^7) only [go_sem,↓reduceIte,reduceCtorEq,Nat.reduceEqDiff,Nat.reduceBEq,Nat.reduceAdd,Nat.reduceSub,Nat.reduceMul,Nat.reduceLT,Nat.reduceLeDiff,Nat.reduceBNe,Int.reduceBEq,Int.reduceBNe,Int.reduceLT,Int.reduceLE,Opr.a,OSpn.a,nul,Opr.right,Opr.valued,Opr.ranged,OSpn.empty,nilB,Int.reduceBEq,Bool.or_self,ha,hb,hc,hn] | refine z01 (hv) ?_ | refine z00 (hv) ?_ | refine z01 (hr) ?_ | refine z00 (hr) ?_ | refine z01 (z02 key) ?_ | refine z00 (z02 key) ?_ | refine z01 (z02 hi) ?_ | refine z00 (z02 hi) ?_ | refine z01 (z06 val) ?_ | refine z00 (z06 val) ?_ | refine z01 (sE) ?_ | refine z00 (sE) ?_ | refine z01 (eE) ?_ | refine z00 (eE) ?_ | refine And.intro (by omega) ?_ | refine And.intro (fun d hd=>by (repeat (rcases hd with rfl | hd; · exact ⟨rfl,rfl⟩)); cases hd) ?_))
  cases op
  case false =>
   cases hl:leB key hi <;> cases hz:(lim == 0) <;> (repeat (first | simp (maxSteps:=9^7) only [go_sem,↓reduceIte,reduceCtorEq,Nat.reduceEqDiff,Nat.reduceBEq,Nat.reduceAdd,Nat.reduceSub,Nat.reduceMul,Nat.reduceLT,Nat.reduceLeDiff,Nat.reduceBNe,Int.reduceBEq,Int.reduceBNe,Int.reduceLT,Int.reduceLE,Opr.a,OSpn.a,nul,Opr.right,Opr.valued,Opr.ranged,OSpn.empty,nilB,Int.reduceBEq,Bool.or_self,ha,hb,hc,hn,hl,hz] | refine z01 (hv) ?_ | refine z00 (hv) ?_ | refine z01 (hr) ?_ | refine z00 (hr) ?_ | refine z01 (z02 key) ?_ | refine z00 (z02 key) ?_ | refine z01 (z02 hi) ?_ | refine z00 (z02 hi) ?_ | refine z01 (z06 val) ?_ | refine z00 (z06 val) ?_ | refine z01 (sE) ?_ | refine z00 (sE) ?_ | refine z01 (eE) ?_ | refine z00 (eE) ?_ | refine And.intro (by omega) ?_ | refine And.intro (fun d hd=>by (repeat (rcases hd with rfl | hd; · exact ⟨rfl,rfl⟩)); cases hd) ?_))
  cases hh:(hi.toList == (ByteArray.mk #[]).toList)
  case false =>
   (repeat (first | simp (maxSteps:=9^7) only [go_sem,↓reduceIte,reduceCtorEq,Nat.reduceEqDiff,Nat.reduceBEq,Nat.reduceAdd,Nat.reduceSub,Nat.reduceMul,Nat.reduceLT,Nat.reduceLeDiff,Nat.reduceBNe,Int.reduceBEq,Int.reduceBNe,Int.reduceLT,Int.reduceLE,Opr.a,OSpn.a,nul,Opr.right,Opr.valued,Opr.ranged,OSpn.empty,nilB,Int.reduceBEq,Bool.or_self,ha,hb,hc,hn,hh] | refine z01 (hv) ?_ | refine z00 (hv) ?_ | refine z01 (hr) ?_ | refine z00 (hr) ?_ | refine z01 (z02 key) ?_ | refine z00 (z02 key) ?_ | refine z01 (z02 hi) ?_ | refine z00 (z02 hi) ?_ | refine z01 (z06 val) ?_ | refine z00 (z06 val) ?_ | refine z01 (sE) ?_ | refine z00 (sE) ?_ | refine z01 (eE) ?_ | refine z00 (eE) ?_ | refine And.intro (by omega) ?_ | refine And.intro (fun d hd=>by (repeat (rcases hd with rfl | hd; · exact ⟨rfl,rfl⟩)); cases hd) ?_))
  cases hz:(lim == 0) <;> (repeat (first | simp (maxSteps:=9^7) only [go_sem,↓reduceIte,reduceCtorEq,Nat.reduceEqDiff,Nat.reduceBEq,Nat.reduceAdd,Nat.reduceSub,Nat.reduceMul,Nat.reduceLT,Nat.reduceLeDiff,Nat.reduceBNe,Int.reduceBEq,Int.reduceBNe,Int.reduceLT,Int.reduceLE,Opr.a,OSpn.a,nul,Opr.right,Opr.valued,Opr.ranged,OSpn.empty,nilB,Int.reduceBEq,Bool.or_self,ha,hb,hc,hn,hh,hz] | refine z01 (hv) ?_ | refine z00 (hv) ?_ | refine z01 (hr) ?_ | refine z00 (hr) ?_ | refine z01 (z02 key) ?_ | refine z00 (z02 key) ?_ | refine z01 (z02 hi) ?_ | refine z00 (z02 hi) ?_ | refine z01 (z06 val) ?_ | refine z00 (z06 val) ?_ | refine z01 (sE) ?_ | refine z00 (sE) ?_ | refine z01 (eE) ?_ | refine z00 (eE) ?_ | refine And.intro (by omega) ?_ | refine And.intro (fun d hd=>by (repeat (rcases hd with rfl | hd; · exact ⟨rfl,rfl⟩)); cases hd) ?_))
 ·-- kind 5
  have hv:AFn Try.prog 62 [.agg [.int .i64 5,.str key,.str hi,.bool op,.str val,.int .i64 lim]] (.bool false):=z4s ⟨5,key,hi,op,val,lim⟩
  have hr:AFn Try.prog 63 [.agg [.int .i64 5,.str key,.str hi,.bool op,.str val,.int .i64 lim]] (.bool false):=z29 ⟨5,key,hi,op,val,lim⟩
  by_cases ha:(key.size:Int)≤16
  case neg =>
   (repeat (first | simp (maxSteps:=9^7) only [go_sem,↓reduceIte,reduceCtorEq,Nat.reduceEqDiff,Nat.reduceBEq,Nat.reduceAdd,Nat.reduceSub,Nat.reduceMul,Nat.reduceLT,Nat.reduceLeDiff,Nat.reduceBNe,Int.reduceBEq,Int.reduceBNe,Int.reduceLT,Int.reduceLE,Opr.a,OSpn.a,nul,Opr.right,Opr.valued,Opr.ranged,OSpn.empty,nilB,Int.reduceBEq,Bool.or_self,ha] | refine z01 (hv) ?_ | refine z00 (hv) ?_ | refine z01 (hr) ?_ | refine z00 (hr) ?_ | refine z01 (z02 key) ?_ | refine z00 (z02 key) ?_ | refine z01 (z02 hi) ?_ | refine z00 (z02 hi) ?_ | refine z01 (z06 val) ?_ | refine z00 (z06 val) ?_ | refine And.intro (by omega) ?_ | refine And.intro (fun d hd=>by (repeat (rcases hd with rfl | hd; · exact ⟨rfl,rfl⟩)); cases hd) ?_))
  by_cases hb:(hi.size:Int)≤16
  case neg =>
   (repeat (first | simp (maxSteps:=9^7) only [go_sem,↓reduceIte,reduceCtorEq,Nat.reduceEqDiff,Nat.reduceBEq,Nat.reduceAdd,Nat.reduceSub,Nat.reduceMul,Nat.reduceLT,Nat.reduceLeDiff,Nat.reduceBNe,Int.reduceBEq,Int.reduceBNe,Int.reduceLT,Int.reduceLE,Opr.a,OSpn.a,nul,Opr.right,Opr.valued,Opr.ranged,OSpn.empty,nilB,Int.reduceBEq,Bool.or_self,ha,hb] | refine z01 (hv) ?_ | refine z00 (hv) ?_ | refine z01 (hr) ?_ | refine z00 (hr) ?_ | refine z01 (z02 key) ?_ | refine z00 (z02 key) ?_ | refine z01 (z02 hi) ?_ | refine z00 (z02 hi) ?_ | refine z01 (z06 val) ?_ | refine z00 (z06 val) ?_ | refine And.intro (by omega) ?_ | refine And.intro (fun d hd=>by (repeat (rcases hd with rfl | hd; · exact ⟨rfl,rfl⟩)); cases hd) ?_))
  by_cases hc:(val.size:Int)≤16
  case neg =>
   (repeat (first | simp (maxSteps:=9^7) only [go_sem,↓reduceIte,reduceCtorEq,Nat.reduceEqDiff,Nat.reduceBEq,Nat.reduceAdd,Nat.reduceSub,Nat.reduceMul,Nat.reduceLT,Nat.reduceLeDiff,Nat.reduceBNe,Int.reduceBEq,Int.reduceBNe,Int.reduceLT,Int.reduceLE,Opr.a,OSpn.a,nul,Opr.right,Opr.valued,Opr.ranged,OSpn.empty,nilB,Int.reduceBEq,Bool.or_self,ha,hb,hc] | refine z01 (hv) ?_ | refine z00 (hv) ?_ | refine z01 (hr) ?_ | refine z00 (hr) ?_ | refine z01 (z02 key) ?_ | refine z00 (z02 key) ?_ | refine z01 (z02 hi) ?_ | refine z00 (z02 hi) ?_ | refine z01 (z06 val) ?_ | refine z00 (z06 val) ?_ | refine And.intro (by omega) ?_ | refine And.intro (fun d hd=>by (repeat (rcases hd with rfl | hd; · exact ⟨rfl,rfl⟩)); cases hd) ?_))
  cases hn:(val.toList == (ByteArray.mk #[]).toList)
  case false =>
   (repeat (first | simp (maxSteps:=9^7) only [go_sem,↓reduceIte,reduceCtorEq,Nat.reduceEqDiff,Nat.reduceBEq,Nat.reduceAdd,Nat.reduceSub,Nat.reduceMul,Nat.reduceLT,Nat.reduceLeDiff,Nat.reduceBNe,Int.reduceBEq,Int.reduceBNe,Int.reduceLT,Int.reduceLE,Opr.a,OSpn.a,nul,Opr.right,Opr.valued,Opr.ranged,OSpn.empty,nilB,Int.reduceBEq,Bool.or_self,ha,hb,hc,hn] | refine z01 (hv) ?_ | refine z00 (hv) ?_ | refine z01 (hr) ?_ | refine z00 (hr) ?_ | refine z01 (z02 key) ?_ | refine z00 (z02 key) ?_ | refine z01 (z02 hi) ?_ | refine z00 (z02 hi) ?_ | refine z01 (z06 val) ?_ | refine z00 (z06 val) ?_ | refine And.intro (by omega) ?_ | refine And.intro (fun d hd=>by (repeat (rcases hd with rfl | hd; · exact ⟨rfl,rfl⟩)); cases hd) ?_))
  cases hh:(hi.toList == (ByteArray.mk #[]).toList)
  case false =>
   cases op <;> (repeat (first | simp (maxSteps:=9^7) only [go_sem,↓reduceIte,reduceCtorEq,Nat.reduceEqDiff,Nat.reduceBEq,Nat.reduceAdd,Nat.reduceSub,Nat.reduceMul,Nat.reduceLT,Nat.reduceLeDiff,Nat.reduceBNe,Int.reduceBEq,Int.reduceBNe,Int.reduceLT,Int.reduceLE,Opr.a,OSpn.a,nul,Opr.right,Opr.valued,Opr.ranged,OSpn.empty,nilB,Int.reduceBEq,Bool.or_self,ha,hb,hc,hn,hh] | refine z01 (hv) ?_ | refine z00 (hv) ?_ | refine z01 (hr) ?_ | refine z00 (hr) ?_ | refine z01 (z02 key) ?_ | refine z00 (z02 key) ?_ | refine z01 (z02 hi) ?_ | refine z00 (z02 hi) ?_ | refine z01 (z06 val) ?_ | refine z00 (z06 val) ?_ | refine And.intro (by omega) ?_ | refine And.intro (fun d hd=>by (repeat (rcases hd with rfl | hd; · exact ⟨rfl,rfl⟩)); cases hd) ?_))
  cases op <;> cases hz:(lim == 0) <;> (repeat (first | simp (maxSteps:=9^7) only [go_sem,↓reduceIte,reduceCtorEq,Nat.reduceEqDiff,Nat.reduceBEq,Nat.reduceAdd,Nat.reduceSub,Nat.reduceMul,Nat.reduceLT,Nat.reduceLeDiff,Nat.reduceBNe,Int.reduceBEq,Int.reduceBNe,Int.reduceLT,Int.reduceLE,Opr.a,OSpn.a,nul,Opr.right,Opr.valued,Opr.ranged,OSpn.empty,nilB,Int.reduceBEq,Bool.or_self,ha,hb,hc,hn,hh,hz] | refine z01 (hv) ?_ | refine z00 (hv) ?_ | refine z01 (hr) ?_ | refine z00 (hr) ?_ | refine z01 (z02 key) ?_ | refine z00 (z02 key) ?_ | refine z01 (z02 hi) ?_ | refine z00 (z02 hi) ?_ | refine z01 (z06 val) ?_ | refine z00 (z06 val) ?_ | refine And.intro (by omega) ?_ | refine And.intro (fun d hd=>by (repeat (rcases hd with rfl | hd; · exact ⟨rfl,rfl⟩)); cases hd) ?_))
 ·-- kind 6
  have hv:AFn Try.prog 62 [.agg [.int .i64 6,.str key,.str hi,.bool op,.str val,.int .i64 lim]] (.bool false):=z4s ⟨6,key,hi,op,val,lim⟩
  have hr:AFn Try.prog 63 [.agg [.int .i64 6,.str key,.str hi,.bool op,.str val,.int .i64 lim]] (.bool true):=z29 ⟨6,key,hi,op,val,lim⟩
  have sE:=sE0 6 (by omega)
  by_cases ha:(key.size:Int)≤16
  case neg =>
   (repeat (first | simp (maxSteps:=9^7) only [go_sem,↓reduceIte,reduceCtorEq,Nat.reduceEqDiff,Nat.reduceBEq,Nat.reduceAdd,Nat.reduceSub,Nat.reduceMul,Nat.reduceLT,Nat.reduceLeDiff,Nat.reduceBNe,Int.reduceBEq,Int.reduceBNe,Int.reduceLT,Int.reduceLE,Opr.a,OSpn.a,nul,Opr.right,Opr.valued,Opr.ranged,OSpn.empty,nilB,Int.reduceBEq,Bool.or_self,ha] | refine z01 (hv) ?_ | refine z00 (hv) ?_ | refine z01 (hr) ?_ | refine z00 (hr) ?_ | refine z01 (z02 key) ?_ | refine z00 (z02 key) ?_ | refine z01 (z02 hi) ?_ | refine z00 (z02 hi) ?_ | refine z01 (z06 val) ?_ | refine z00 (z06 val) ?_ | refine z01 (sE) ?_ | refine z00 (sE) ?_ | refine z01 (eE) ?_ | refine z00 (eE) ?_ | refine And.intro (by omega) ?_ | refine And.intro (fun d hd=>by (repeat (rcases hd with rfl | hd; · exact ⟨rfl,rfl⟩)); cases hd) ?_))
  by_cases hb:(hi.size:Int)≤16
  case neg =>
   (repeat (first | simp (maxSteps:=9^7) only [go_sem,↓reduceIte,reduceCtorEq,Nat.reduceEqDiff,Nat.reduceBEq,Nat.reduceAdd,Nat.reduceSub,Nat.reduceMul,Nat.reduceLT,Nat.reduceLeDiff,Nat.reduceBNe,Int.reduceBEq,Int.reduceBNe,Int.reduceLT,Int.reduceLE,Opr.a,OSpn.a,nul,Opr.right,Opr.valued,Opr.ranged,OSpn.empty,nilB,Int.reduceBEq,Bool.or_self,ha,hb] | refine z01 (hv) ?_ | refine z00 (hv) ?_ | refine z01 (hr) ?_ | refine z00 (hr) ?_ | refine z01 (z02 key) ?_ | refine z00 (z02 key) ?_ | refine z01 (z02 hi) ?_ | refine z00 (z02 hi) ?_ | refine z01 (z06 val) ?_ | refine z00 (z06 val) ?_ | refine z01 (sE) ?_ | refine z00 (sE) ?_ | refine z01 (eE) ?_ | refine z00 (eE) ?_ | refine And.intro (by omega) ?_ | refine And.intro (fun d hd=>by (repeat (rcases hd with rfl | hd; · exact ⟨rfl,rfl⟩)); cases hd) ?_))
  by_cases hc:(val.size:Int)≤16
  case neg =>
   (repeat (first | simp (maxSteps:=9^7) only [go_sem,↓reduceIte,reduceCtorEq,Nat.reduceEqDiff,Nat.reduceBEq,Nat.reduceAdd,Nat.reduceSub,Nat.reduceMul,Nat.reduceLT,Nat.reduceLeDiff,Nat.reduceBNe,Int.reduceBEq,Int.reduceBNe,Int.reduceLT,Int.reduceLE,Opr.a,OSpn.a,nul,Opr.right,Opr.valued,Opr.ranged,OSpn.empty,nilB,Int.reduceBEq,Bool.or_self,ha,hb,hc] | refine z01 (hv) ?_ | refine z00 (hv) ?_ | refine z01 (hr) ?_ | refine z00 (hr) ?_ | refine z01 (z02 key) ?_ | refine z00 (z02 key) ?_ | refine z01 (z02 hi) ?_ | refine z00 (z02 hi) ?_ | refine z01 (z06 val) ?_ | refine z00 (z06 val) ?_ | refine z01 (sE) ?_ | refine z00 (sE) ?_ | refine z01 (eE) ?_ | refine z00 (eE) ?_ | refine And.intro (by omega) ?_ | refine And.intro (fun d hd=>by (repeat (rcases hd with rfl | hd; · exact ⟨rfl,rfl⟩)); cases hd) ?_))
  cases hn:(val.toList == (ByteArray.mk #[]).toList)
  case false =>
   (repeat (first | simp (maxSteps:=9^7) only [go_sem,↓reduceIte,reduceCtorEq,Nat.reduceEqDiff,Nat.reduceBEq,Nat.reduceAdd,Nat.reduceSub,Nat.reduceMul,Nat.reduceLT,Nat.reduceLeDiff,Nat.reduceBNe,Int.reduceBEq,Int.reduceBNe,Int.reduceLT,Int.reduceLE,Opr.a,OSpn.a,nul,Opr.right,Opr.valued,Opr.ranged,OSpn.empty,nilB,Int.reduceBEq,Bool.or_self,ha,hb,hc,hn] | refine z01 (hv) ?_ | refine z00 (hv) ?_ | refine z01 (hr) ?_ | refine z00 (hr) ?_ | refine z01 (z02 key) ?_ | refine z00 (z02 key) ?_ | refine z01 (z02 hi) ?_ | refine z00 (z02 hi) ?_ | refine z01 (z06 val) ?_ | refine z00 (z06 val) ?_ | refine z01 (sE) ?_ | refine z00 (sE) ?_ | refine z01 (eE) ?_ | refine z00 (eE) ?_ | refine And.intro (by omega) ?_ | refine And.intro (fun d hd=>by (repeat (rcases hd with rfl | hd; · exact ⟨rfl,rfl⟩)); cases hd) ?_))
  cases op
  case false =>
   cases hl:leB key hi <;> by_cases l1:1≤lim <;> by_cases l2:lim≤64 <;> (repeat (first | simp (maxSteps:=9^7) only [go_sem,↓reduceIte,reduceCtorEq,Nat.reduceEqDiff,Nat.reduceBEq,Nat.reduceAdd,Nat.reduceSub,Nat.reduceMul,Nat.reduceLT,Nat.reduceLeDiff,Nat.reduceBNe,Int.reduceBEq,Int.reduceBNe,Int.reduceLT,Int.reduceLE,Opr.a,OSpn.a,nul,Opr.right,Opr.valued,Opr.ranged,OSpn.empty,nilB,Int.reduceBEq,Bool.or_self,ha,hb,hc,hn,hl ,l1,l2] | refine z01 (hv) ?_ | refine z00 (hv) ?_ | refine z01 (hr) ?_ | refine z00 (hr) ?_ | refine z01 (z02 key) ?_ | refine z00 (z02 key) ?_ | refine z01 (z02 hi) ?_ | refine z00 (z02 hi) ?_ | refine z01 (z06 val) ?_ | refine z00 (z06 val) ?_ | refine z01 (sE) ?_ | refine z00 (sE) ?_ | refine z01 (eE) ?_ | refine z00 (eE) ?_ | refine And.intro (by omega) ?_ | refine And.intro (fun d hd=>by (repeat (rcases hd with rfl | hd; · exact ⟨rfl,rfl⟩)); cases hd) ?_))
  cases hh:(hi.toList == (ByteArray.mk #[]).toList)
  case false =>
   (repeat (first | simp (maxSteps:=9^7) only [go_sem,↓reduceIte,reduceCtorEq,Nat.reduceEqDiff,Nat.reduceBEq,Nat.reduceAdd,Nat.reduceSub,Nat.reduceMul,Nat.reduceLT,Nat.reduceLeDiff,Nat.reduceBNe,Int.reduceBEq,Int.reduceBNe,Int.reduceLT,Int.reduceLE,Opr.a,OSpn.a,nul,Opr.right,Opr.valued,Opr.ranged,OSpn.empty,nilB,Int.reduceBEq,Bool.or_self,ha,hb,hc,hn,hh] | refine z01 (hv) ?_ | refine z00 (hv) ?_ | refine z01 (hr) ?_ | refine z00 (hr) ?_ | refine z01 (z02 key) ?_ | refine z00 (z02 key) ?_ | refine z01 (z02 hi) ?_ | refine z00 (z02 hi) ?_ | refine z01 (z06 val) ?_ | refine z00 (z06 val) ?_ | refine z01 (sE) ?_ | refine z00 (sE) ?_ | refine z01 (eE) ?_ | refine z00 (eE) ?_ | refine And.intro (by omega) ?_ | refine And.intro (fun d hd=>by (repeat (rcases hd with rfl | hd; · exact ⟨rfl,rfl⟩)); cases hd) ?_))
  by_cases l1:1≤lim <;> by_cases l2:lim≤64 <;> (repeat (first | simp (maxSteps:=9^7) only [go_sem,↓reduceIte,reduceCtorEq,Nat.reduceEqDiff,Nat.reduceBEq,Nat.reduceAdd,Nat.reduceSub,Nat.reduceMul,Nat.reduceLT,Nat.reduceLeDiff,Nat.reduceBNe,Int.reduceBEq,Int.reduceBNe,Int.reduceLT,Int.reduceLE,Opr.a,OSpn.a,nul,Opr.right,Opr.valued,Opr.ranged,OSpn.empty,nilB,Int.reduceBEq,Bool.or_self,ha,hb,hc,hn,hh ,l1,l2] | refine z01 (hv) ?_ | refine z00 (hv) ?_ | refine z01 (hr) ?_ | refine z00 (hr) ?_ | refine z01 (z02 key) ?_ | refine z00 (z02 key) ?_ | refine z01 (z02 hi) ?_ | refine z00 (z02 hi) ?_ | refine z01 (z06 val) ?_ | refine z00 (z06 val) ?_ | refine z01 (sE) ?_ | refine z00 (sE) ?_ | refine z01 (eE) ?_ | refine z00 (eE) ?_ | refine And.intro (by omega) ?_ | refine And.intro (fun d hd=>by (repeat (rcases hd with rfl | hd; · exact ⟨rfl,rfl⟩)); cases hd) ?_))
end
end Go.Proofs.Ytolocaankfcjiaa
