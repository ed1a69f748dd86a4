/-
  Part 16 of a proof: TeG, LoB, ShK, ShO, ShP, ShS, ShH.
-/
import Derived.RangeFuncNested
import Derived.RangeFuncBound
import Derived.RangeFuncCalls
import Derived.RangeFuncLeaves
import Derived.Shelf.Abstract
import Derived.Shelf.RegionOpen
import Derived.WalkKit
import Derived.OwnWalkIn
import Derived.TacticsInMore
import Derived.LoopNIn
import Derived.LoopIn
import Derived.Test.YtkfciapeikkmfaaDoorST15
set_option linter.unusedVariables false
set_option linter.unusedSimpArgs false
set_option maxRecDepth 100000
namespace Go.Proofs.YtkfciapeikkmfaaDoor
section
open Go.RowKit
attribute [local go_sem ↓] z1m z0h
def zx7:Reg:=⟨[],[⟨.box 5 37 (.t 0),some 2,none,[],[]⟩,⟨.mv (.c (.bool false)),some 4,none,[],[]⟩],[2],[],false⟩
def zg0:List ROp:=[⟨.mv (.t 1),some 11,none,[12],[]⟩,⟨.callv (.c (.clo 11 [] [])) [(.t 11),(.c (.int .i64 0))],some 12,none,[],[]⟩,⟨.mv (.t 12),some 10,none,[],[]⟩,⟨.ext 0 (.t 10),some 13,none,[],[]⟩,⟨.ext 1 (.t 10),some 14,none,[],[]⟩,⟨.mv (.t 13),some 5,none,[],[]⟩,⟨.mv (.t 14),some 6,none,[],[]⟩]
def zx6:Reg:=⟨[],zg0,[12],[],false⟩
def zfz:List ROp:=[⟨.mv (.t 6),some 15,none,[20,25],[]⟩,⟨.un .not (.t 15),some 16,none,[20,25],[]⟩,⟨.mv (.t 16),some 17,none,[20,25],[]⟩,⟨.mv (.t 1),some 18,(some (17,false)),[20,25],[]⟩,⟨.mv (.t 5),some 19,(some (17,false)),[20,25],[]⟩,⟨.callv (.c (.clo 48 [] [])) [(.t 18),(.t 19)],some 20,(some (17,false)),[25],[]⟩,⟨.un .not (.t 20),some 21,(some (17,false)),[25],[]⟩,⟨.pick (.t 17) (.c (.bool true)) (.t 21),some 22,none,[25],[]⟩,⟨.mv (.t 22),some 23,none,[25],[]⟩,⟨.mv (.t 5),some 24,(some (23,false)),[25],[]⟩,⟨.callv (.c (.clo 49 [] [])) [(.t 24)],some 25,(some (23,false)),[],[]⟩,⟨.un .not (.t 25),some 26,(some (23,false)),[],[]⟩,⟨.pick (.t 23) (.c (.bool true)) (.t 26),some 27,none,[],[]⟩,⟨.mv (.t 27),some 28,none,[],[]⟩,⟨.mv (.t 1),some 29,(some (28,false)),[],[]⟩,⟨.len false (.t 29),some 30,(some (28,false)),[],[]⟩,⟨.faddr 3 (.t 2),some 31,(some (28,false)),[],[]⟩,⟨.load 1 false (.t 31),some 32,(some (28,false)),[],[]⟩,⟨.bin .gtr (.t 30) (.t 32),some 33,(some (28,false)),[],[]⟩,⟨.pick (.t 28) (.c (.bool true)) (.t 33),some 34,none,[],[]⟩]
def zx5:Reg:=⟨[],zfz,[20,25],[],false⟩
def zx4:Reg:=⟨[],[⟨.mv (.c (.bool false)),some 4,none,[],[]⟩],[],[],false⟩
def zx3:Reg:=⟨[],[⟨.mv (.c (.int .i64 0)),some 7,none,[],[]⟩],[],[],false⟩
def zfy:List ROp:=[⟨.mv (.t 7),some 35,none,[],[]⟩,⟨.mv (.t 5),some 36,none,[],[]⟩,⟨.len false (.t 36),some 37,none,[],[]⟩,⟨.bin .lss (.t 35) (.t 37),some 38,none,[],[]⟩]
def zx2:Reg:=⟨[],zfy,[],[],false⟩
def zfx:List ROp:=[⟨.mv (.t 5),some 41,none,[8],[]⟩,⟨.mv (.t 7),some 42,none,[8],[]⟩,⟨.iaddr 14 (.t 41) (.t 42),some 43,none,[8],[]⟩,⟨.load 14 true (.t 43),some 44,none,[8],[]⟩,⟨.alloc 14 43 (.agg [(.int .i64 0),(.int .i64 0),(.sl []),(.sl []),(.str ⟨#[]⟩),(.bool false),(.int .i64 0),(.int .i64 0),(.sl []),(.sl []),(.str ⟨#[]⟩),(.str ⟨#[]⟩),(.bool false),(.sl [])]),some 8,none,[],[]⟩,⟨.store 14 (.t 8) (.t 44),none,none,[],[]⟩]
def zx1:Reg:=⟨[],zfx,[8],[],false⟩
def zfw:List ROp:=[⟨.load 5 true (.t 2),some 45,none,[48,52],[]⟩,⟨.faddr 0 (.t 8),some 46,none,[48,52],[]⟩,⟨.load 10 true (.t 46),some 47,none,[48,52],[]⟩,⟨.callv (.c (.clo 50 [] [])) [(.t 45),(.t 47)],some 48,none,[52],[]⟩,⟨.un .not (.t 48),some 49,none,[52],[]⟩,⟨.mv (.t 49),some 50,none,[52],[]⟩,⟨.load 14 true (.t 8),some 51,(some (50,false)),[52],[]⟩,⟨.callv (.c (.clo 51 [] [])) [(.t 51)],some 52,(some (50,false)),[],[]⟩,⟨.un .not (.t 52),some 53,(some (50,false)),[],[]⟩,⟨.pick (.t 50) (.c (.bool true)) (.t 53),some 54,none,[],[]⟩,⟨.mv (.t 54),some 55,none,[],[]⟩,⟨.faddr 0 (.t 8),some 56,(some (55,false)),[],[]⟩,⟨.faddr 0 (.t 56),some 57,(some (55,false)),[],[]⟩,⟨.load 1 false (.t 57),some 58,(some (55,false)),[],[]⟩,⟨.faddr 3 (.t 2),some 59,(some (55,false)),[],[]⟩,⟨.load 1 false (.t 59),some 60,(some (55,false)),[],[]⟩,⟨.bin .geq (.t 58) (.t 60),some 61,(some (55,false)),[],[]⟩,⟨.pick (.t 55) (.c (.bool true)) (.t 61),some 62,none,[],[]⟩]
def zx0:Reg:=⟨[],zfw,[48,52],[],false⟩
def zwz:Reg:=⟨[],[⟨.mv (.c (.bool false)),some 4,none,[],[]⟩],[],[],false⟩
def zwy:Reg:=⟨[],[⟨.mv (.c (.int .i64 0)),some 9,none,[],[]⟩],[],[],false⟩
def zas:List ROp:=[⟨.mv (.t 9),some 63,none,[],[]⟩,⟨.faddr 13 (.t 8),some 64,none,[],[]⟩,⟨.load 1 false (.t 64),some 65,none,[],[]⟩,⟨.len false (.t 65),some 66,none,[],[]⟩,⟨.bin .lss (.t 63) (.t 66),some 67,none,[],[]⟩]
def zp8:Reg:=⟨[],zas,[],[],false⟩
def zde:List ROp:=[⟨.faddr 13 (.t 8),some 70,none,[],[]⟩,⟨.load 1 false (.t 70),some 71,none,[],[]⟩,⟨.mv (.t 9),some 72,none,[],[]⟩,⟨.iaddr 6 (.t 71) (.t 72),some 73,none,[],[]⟩,⟨.faddr 0 (.t 73),some 74,none,[],[]⟩,⟨.load 1 false (.t 74),some 75,none,[],[]⟩,⟨.faddr 0 (.t 8),some 76,none,[],[]⟩,⟨.faddr 7 (.t 76),some 77,none,[],[]⟩,⟨.load 1 false (.t 77),some 78,none,[],[]⟩]
def zp7:Reg:=⟨zde,[⟨.bin .leq (.t 75) (.t 78),some 79,none,[],[]⟩],[],[],true⟩
def zp6:Reg:=⟨[],[⟨.mv (.c (.bool false)),some 4,none,[],[]⟩],[],[],false⟩
def zar:List ROp:=[⟨.mv (.t 9),some 68,none,[],[]⟩,⟨.bin .add (.t 68) (.c (.int .i64 1)),some 69,none,[],[]⟩,⟨.mv (.t 69),some 9,none,[],[]⟩]
def zp5:Reg:=⟨[],zar,[],[],false⟩
def z8j:IR:=(.seq (.seq (.reg zp8)
 (.cond (.t 67) .skip
 (.exit 2)))
 (.seq (.block 3 (.seq (.reg zp7)
 (.cond (.t 79) (.seq (.reg zp6)
 .ret)
 .skip)))
 (.reg zp5)))
def zaq:List ROp:=[⟨.mv (.t 7),some 39,none,[],[]⟩,⟨.bin .add (.t 39) (.c (.int .i64 1)),some 40,none,[],[]⟩,⟨.mv (.t 40),some 7,none,[],[]⟩]
def zp4:Reg:=⟨[],zaq,[],[],false⟩
def zis:IR:=(.seq (.seq (.reg zx2)
 (.cond (.t 38) .skip
 (.exit 0)))
 (.seq (.block 1 (.seq (.reg zx1)
 (.seq (.seq (.reg zx0)
 (.cond (.t 62) (.seq (.reg zwz)
 .ret)
 .skip))
 (.seq (.reg zwy)
 (.block 2 (.loop z8j))))))
 (.reg zp4)))
def zp3:Reg:=⟨[],[⟨.mv (.c (.bool true)),some 4,none,[],[]⟩],[],[],false⟩
def y8g:IR:=(.seq (.reg zx7)
 (.seq (.reg zx6)
 (.seq (.seq (.reg zx5)
 (.cond (.t 34) (.seq (.reg zx4)
 .ret)
 .skip))
 (.seq (.seq (.reg zx3)
 (.block 0 (.loop zis)))
 (.seq (.reg zp3)
 .ret)))))
def zwb:List RDesc:=[(.tmp 4)]
theorem e_sound_0:EqR zx7 [⟨.box 5 37 (.t 0),some 2,none,[],[]⟩,⟨.mv (.c (.bool false)),some 4,none,[],[]⟩] [2]:=fun _ _ _=>rfl
theorem e_sound_1:EqR zx6 zg0 [12]:=fun _ _ _=>rfl
theorem e_sound_2:EqR zx5 zfz [20,25]:=fun _ _ _=>rfl
theorem e_sound_3:EqR zx4 [⟨.mv (.c (.bool false)),some 4,none,[],[]⟩] []:=fun _ _ _=>rfl
theorem e_sound_4:EqR zx3 [⟨.mv (.c (.int .i64 0)),some 7,none,[],[]⟩] []:=fun _ _ _=>rfl
theorem e_sound_5:EqR zx2 zfy []:=fun _ _ _=>rfl
theorem e_sound_6:EqR zx1 zfx [8]:=fun _ _ _=>rfl
theorem e_sound_7:EqR zx0 zfw [48,52]:=fun _ _ _=>rfl
theorem e_sound_8:EqR zwz [⟨.mv (.c (.bool false)),some 4,none,[],[]⟩] []:=fun _ _ _=>rfl
theorem e_sound_9:EqR zwy [⟨.mv (.c (.int .i64 0)),some 9,none,[],[]⟩] []:=fun _ _ _=>rfl
theorem e_sound_10:EqR zp8 zas []:=fun _ _ _=>rfl
theorem e_sound_11 (C:FuncId->List AV->AV->Prop) (σ:St) (K:St->Prop):z0m C zp7 σ K = z07 C [] [⟨.bin .leq (.t 75) (.t 78),some 79,none,[],[]⟩] zde (σ.kills []) K:=rfl
theorem e_sound_12:EqR zp6 [⟨.mv (.c (.bool false)),some 4,none,[],[]⟩] []:=fun _ _ _=>rfl
theorem e_sound_13:EqR zp5 zar []:=fun _ _ _=>rfl
theorem e_sound_15:EqR zp4 zaq []:=fun _ _ _=>rfl
theorem e_sound_17:EqR zp3 [⟨.mv (.c (.bool true)),some 4,none,[],[]⟩] []:=fun _ _ _=>rfl
theorem fn_sound {args:List AV} {r:AV} (ha:args.length.ble Tryd.f27.ntmps = true) (h:run (AFn Tryd.prog) y8g (endQ zwb r) (z0a args)):AFn Tryd.prog 27 args r :=
 AFn.of_code (pv:=false) (hint:=fun _=>[]) (c:=Tryd.f27.body.getD .skip) (by kernel_rfl) (by kernel_rfl) Tryd.func27 (by kernel_rfl) (by kernel_rfl) (by kernel_rfl) (of_decide_eq_true (by kernel_rfl)) (Nat.le_of_ble_eq_true ha) (Nat.le_of_ble_eq_true (by kernel_rfl)) (z0b h)
def zoo:Reg:=⟨[],[⟨.box 5 37 (.t 0),some 3,none,[],[]⟩,⟨.mv (.c (.bool false)),some 6,none,[],[]⟩],[3],[],false⟩
def zad:List ROp:=[⟨.load 5 true (.t 3),some 8,none,[9,19],[]⟩,⟨.callv (.c (.clo 26 [] [])) [(.t 8)],some 9,none,[19],[]⟩,⟨.un .not (.t 9),some 10,none,[19],[]⟩,⟨.mv (.t 10),some 11,none,[19],[]⟩,⟨.mv (.t 1),some 12,(some (11,false)),[19],[]⟩,⟨.len false (.t 12),some 13,(some (11,false)),[19],[]⟩,⟨.bin .eql (.t 13) (.c (.int .i64 0)),some 14,(some (11,false)),[19],[]⟩,⟨.pick (.t 11) (.c (.bool true)) (.t 14),some 15,none,[19],[]⟩,⟨.mv (.t 15),some 16,none,[19],[]⟩,⟨.mv (.t 1),some 17,(some (16,false)),[19],[]⟩,⟨.mv (.t 2),some 18,(some (16,false)),[19],[]⟩,⟨.callv (.c (.clo 5 [] [])) [(.t 17),(.t 18),(.c (.int .i64 2000))],some 19,(some (16,false)),[],[]⟩,⟨.un .not (.t 19),some 20,(some (16,false)),[],[]⟩,⟨.pick (.t 16) (.c (.bool true)) (.t 20),some 21,none,[],[]⟩]
def zon:Reg:=⟨[],zad,[9,19],[],false⟩
def zom:Reg:=⟨[],[⟨.mv (.c (.bool false)),some 6,none,[],[]⟩],[],[],false⟩
def zol:Reg:=⟨[],[⟨.mv (.c (.int .i64 0)),some 7,none,[],[]⟩],[],[],false⟩
def zac:List ROp:=[⟨.mv (.t 7),some 22,none,[],[]⟩,⟨.mv (.t 1),some 23,none,[],[]⟩,⟨.len false (.t 23),some 24,none,[],[]⟩,⟨.bin .lss (.t 22) (.t 24),some 25,none,[],[]⟩]
def zok:Reg:=⟨[],zac,[],[],false⟩
def zab:List ROp:=[⟨.mv (.t 1),some 28,none,[],[]⟩,⟨.mv (.t 7),some 29,none,[],[]⟩,⟨.iaddr 10 (.t 28) (.t 29),some 30,none,[],[]⟩,⟨.faddr 0 (.t 30),some 31,none,[],[]⟩,⟨.load 1 false (.t 31),some 32,none,[],[]⟩,⟨.mv (.t 7),some 33,none,[],[]⟩,⟨.bin .neq (.t 32) (.t 33),some 34,none,[],[]⟩,⟨.mv (.t 34),some 35,none,[],[]⟩,⟨.mv (.t 1),some 36,(some (35,false)),[],[]⟩,⟨.mv (.t 7),some 37,(some (35,false)),[],[]⟩,⟨.iaddr 10 (.t 36) (.t 37),some 38,(some (35,false)),[],[]⟩,⟨.faddr 7 (.t 38),some 39,(some (35,false)),[],[]⟩,⟨.load 1 false (.t 39),some 40,(some (35,false)),[],[]⟩,⟨.bin .gtr (.t 40) (.c (.int .i64 1099511627776)),some 41,(some (35,false)),[],[]⟩,⟨.pick (.t 35) (.c (.bool true)) (.t 41),some 42,none,[],[]⟩]
def zoj:Reg:=⟨[],zab,[],[],false⟩
def zoi:Reg:=⟨[],[⟨.mv (.c (.bool false)),some 6,none,[],[]⟩],[],[],false⟩
def zaa:List ROp:=[⟨.mv (.t 7),some 26,none,[],[]⟩,⟨.bin .add (.t 26) (.c (.int .i64 1)),some 27,none,[],[]⟩,⟨.mv (.t 27),some 7,none,[],[]⟩]
def zoh:Reg:=⟨[],zaa,[],[],false⟩
def zio:IR:=(.seq (.seq (.reg zok)
 (.cond (.t 25) .skip
 (.exit 0)))
 (.seq (.block 1 (.seq (.reg zoj)
 (.cond (.t 42) (.seq (.reg zoi)
 .ret)
 .skip)))
 (.reg zoh)))
def za9:List ROp:=[⟨.load 5 true (.t 3),some 43,none,[45],[]⟩,⟨.mv (.t 1),some 44,none,[45],[]⟩,⟨.callv (.c (.clo 27 [] [])) [(.t 43),(.t 44)],some 45,none,[],[]⟩,⟨.mv (.t 45),some 6,none,[],[]⟩]
def zog:Reg:=⟨[],za9,[45],[],false⟩
def y13:IR:=(.seq (.reg zoo)
 (.seq (.seq (.reg zon)
 (.cond (.t 21) (.seq (.reg zom)
 .ret)
 .skip))
 (.seq (.seq (.reg zol)
 (.block 0 (.loop zio)))
 (.seq (.reg zog)
 .ret))))
def zno:List RDesc:=[(.tmp 6)]
theorem e_tree28_0:EqR zoo [⟨.box 5 37 (.t 0),some 3,none,[],[]⟩,⟨.mv (.c (.bool false)),some 6,none,[],[]⟩] [3]:=fun _ _ _=>rfl
theorem e_tree28_1:EqR zon zad [9,19]:=fun _ _ _=>rfl
theorem e_tree28_2:EqR zom [⟨.mv (.c (.bool false)),some 6,none,[],[]⟩] []:=fun _ _ _=>rfl
theorem e_tree28_3:EqR zol [⟨.mv (.c (.int .i64 0)),some 7,none,[],[]⟩] []:=fun _ _ _=>rfl
theorem e_tree28_4:EqR zok zac []:=fun _ _ _=>rfl
theorem e_tree28_5:EqR zoj zab []:=fun _ _ _=>rfl
theorem e_tree28_6:EqR zoi [⟨.mv (.c (.bool false)),some 6,none,[],[]⟩] []:=fun _ _ _=>rfl
theorem e_tree28_7:EqR zoh zaa []:=fun _ _ _=>rfl
theorem e_tree28_9:EqR zog za9 [45]:=fun _ _ _=>rfl
theorem fn_tree28 {args:List AV} {r:AV} (ha:args.length.ble Tryd.f10.ntmps = true) (h:run (AFn Tryd.prog) y13 (endQ zno r) (z0a args)):AFn Tryd.prog 10 args r :=
 AFn.of_code (pv:=false) (hint:=fun _=>[]) (c:=Tryd.f10.body.getD .skip) (by kernel_rfl) (by kernel_rfl) Tryd.func10 (by kernel_rfl) (by kernel_rfl) (by kernel_rfl) (of_decide_eq_true (by kernel_rfl)) (Nat.le_of_ble_eq_true ha) (Nat.le_of_ble_eq_true (by kernel_rfl)) (z0b h)
attribute [local go_sem ↓] y8g
attribute [local go_sem] zwb e_sound_0 e_sound_1 zg0 e_sound_2 zfz e_sound_3 e_sound_4 e_sound_5 zfy e_sound_6 zfx e_sound_7 zfw e_sound_8 e_sound_9 e_sound_10 zas e_sound_11 zde e_sound_12 e_sound_13 zar e_sound_15 zaq e_sound_17
attribute [local go_sem ↓] y13
attribute [local go_sem] zno e_tree28_0 e_tree28_1 zad e_tree28_2 e_tree28_3 e_tree28_4 zac e_tree28_5 zab e_tree28_6 e_tree28_7 zaa e_tree28_9 za9
theorem zcu {l:List Nd} (hl:l.length≤200) (hn:∀ n,n ∈ l->n.Lt):∀ (f:Nat) (out:List Seat) (i:Nat),z94 out->out.length≤10000->z94 (z1a l f out i).1∧(z1a l f out i).1.length≤10000
 | 0,out,i,h,hlen=>⟨h,hlen⟩
 | f + 1,out,i,h,hlen=>by
  rw [z1a]
  split
  ·exact ⟨h,hlen⟩
  ·rename_i x hx
   have hk:=z9p hn (h i x hx) x.n.kids 0
   have hap:=zi2 hn h hx x.n.kids
   have hnk:=(h i x hx).lt.nkid
   split
   ·exact ⟨h,hlen⟩
   ·have hle:(out ++ (z0p l x 0 x.n.kids).1).length≤10000:=by rw [List.length_append]; omega
    split
    ·exact zcu hl hn f out (i + 1) h hlen
    ·split
     ·exact ⟨h,hlen⟩
     ·split
      ·exact zcu hl hn f _ (i + 1) hap hle
      ·exact ⟨hap,hle⟩
theorem zi3 {l:List Nd} (hl:l.length≤200) (hn:∀ n,n ∈ l->n.Lt) (root:Int):z94 (z1l l root).1∧(z1l l root).1.length≤10000:=by
 unfold z1l
 split
 ·refine zcu hl hn _ _ _ ?_ (by simp)
  intro i x hx
  cases i with
  | zero=>cases hx; exact ⟨zfj hn root,⟨Nat.zero_le _,Nat.zero_le _⟩,fun m hm=>(by cases hm),Nat.zero_le _⟩
  | succ i=>simp at hx
 ·exact ⟨fun i x hx=>by simp at hx,Nat.zero_le _⟩
def lateB (x:Seat) (m:Msg):Bool:=decide (x.n.seen < m.stamp)
def stB (c:Cfg) (x:Seat):Bool:=ndB c x.n && zl9 x && decide (x.n.slot < c.slots) && x.ms.all (lateB x)
def ze3 (c:Cfg) (l:List Nd):Bool:=(z1l l 0).2 && y3e l (z1l l 0).1 && z21 (z1l l 0).1 && decide ((l.length:Int)≤c.slots) && (z1l l 0).1.all (stB c)
def sdInv (c:Cfg) (s:List Seat) (R:Bool) (k:Nat) (σ:St):Prop :=
 ∃ i:Nat,i≤s.length∧k = s.length - i∧σ.T 2 = .ptr 2 0 0∧σ.H 2 = some ⟨5,37,[c.a],0⟩∧σ.T 5 = .sl (s.map Seat.a)∧σ.T 7 = .int .i64 i∧(s.drop i).all (stB c) = R
def sd2Inv (c:Cfg) (s:List Seat) (i:Nat) (x:Seat) (R:Bool) (k:Nat) (σ:St):Prop :=
 ∃ j:Nat,j≤x.ms.length∧k = x.ms.length - j∧σ.T 2 = .ptr 2 0 0∧σ.H 2 = some ⟨5,37,[c.a],0⟩∧σ.T 5 = .sl (s.map Seat.a)∧σ.T 7 = .int .i64 i ∧
  σ.T 8 = .ptr 8 0 0∧σ.H 8 = some ⟨14,43,[x.a],0⟩∧σ.T 9 = .int .i64 j∧(x.ms.drop j).all (lateB x) = R
set_option maxHeartbeats 2000000 in
theorem late_loop (c:Cfg) (s:List Seat) (i:Nat) (x:Seat) (b:Nat) (hb:b≤100000000) (hx0:SeatOk x b) (R:Bool) (Q:XK->St->Prop)
  (hEnd:∀ σ,R = true->σ.T 2 = .ptr 2 0 0->σ.H 2 = some ⟨5,37,[c.a],0⟩->σ.T 5 = .sl (s.map Seat.a)->σ.T 7 = .int .i64 i->Q (.exit 2) σ)
  (hRet:∀ σ,R = false->σ.T 4 = .bool false->Q .ret σ) (k:Nat) (σ:St) (hI:sd2Inv c s i x R k σ) :
  run (AFn Tryd.prog) z8j (z30 (fun σ'=>∃ m,m < k∧sd2Inv c s i x R m σ') Q) σ:=by
 obtain ⟨j,hj,rfl,t2,h2,t5,t7,t8,h8,t9,hr⟩:=hI
 simp only [z8j]
 have h8':=h8
 simp only [Seat.a] at h8'
 have hnm:=hx0.nms
 by_cases hlt:j < x.ms.length
 case neg =>
  have hlt':¬ (j:Int) < (x.ms.length:Int):=by omega
  rw [List.drop_eq_nil_of_le (by omega),List.all_nil] at hr
  subst hr
  simp (maxSteps:=9^7) only [go_sem,↓reduceIte,reduceCtorEq,Nat.reduceEqDiff,Nat.reduceBEq,Nat.reduceAdd,Nat.reduceSub,Nat.reduceMul,Nat.reduceLT,Nat.reduceLeDiff,Nat.reduceBNe,Int.reduceBEq,Int.reduceBNe,Int.reduceLT,Int.reduceLE,Spn.a,Msg.a,Par.a,Nd.a,Seat.a,Cfg.a,t2,h2,t5,t7,t8,h8',t9,hlt',List.length_map]
  refine hEnd _ rfl ?_ ?_ ?_ ?_
  iterate 4 focus ((simp (maxSteps:=9^7) only [go_sem,↓reduceIte,reduceCtorEq,Nat.reduceEqDiff,Nat.reduceBEq,Nat.reduceAdd,Nat.reduceSub,Nat.reduceMul,Nat.reduceLT,Nat.reduceLeDiff,Nat.reduceBNe,Int.reduceBEq,Int.reduceBNe,Int.reduceLT,Int.reduceLE,Spn.a,Msg.a,Par.a,Nd.a,Seat.a,Cfg.a,t2,h2,t5,t7]) <;> rfl)
 have hlt':(j:Int) < (x.ms.length:Int):=by omega
 obtain ⟨y,hy⟩:=z0f hlt
 have hgy:=z0j (f:=Msg.a) hy
 simp only [Msg.a] at hgy
 have hw:=z1j (j:=j) (by omega)
 rw [z0c hy,List.all_cons] at hr
 have hbb:lateB x y = decide (x.n.seen < y.stamp):=rfl
 rw [hbb] at hr
 by_cases hs:y.stamp≤x.n.seen
 ·rw [decide_eq_false (by omega),Bool.false_and] at hr
  subst hr
  simp (maxSteps:=9^7) only [go_sem,↓reduceIte,reduceCtorEq,Nat.reduceEqDiff,Nat.reduceBEq,Nat.reduceAdd,Nat.reduceSub,Nat.reduceMul,Nat.reduceLT,Nat.reduceLeDiff,Nat.reduceBNe,Int.reduceBEq,Int.reduceBNe,Int.reduceLT,Int.reduceLE,Spn.a,Msg.a,Par.a,Nd.a,Seat.a,Cfg.a,t2,h2,t5,t7,t8,h8',t9,hlt',hgy,hs,List.length_map,Int.toNat_natCast]
  all_goals (repeat refine And.intro (by omega) ?_)
  refine hRet _ rfl ?_
  simp (maxSteps:=9^7) only [go_sem,↓reduceIte,reduceCtorEq,Nat.reduceEqDiff,Nat.reduceBEq,Nat.reduceAdd,Nat.reduceSub,Nat.reduceMul,Nat.reduceLT,Nat.reduceLeDiff,Nat.reduceBNe,Int.reduceBEq,Int.reduceBNe,Int.reduceLT,Int.reduceLE,Spn.a,Msg.a,Par.a,Nd.a,Seat.a,Cfg.a]
 ·rw [decide_eq_true (by omega),Bool.true_and] at hr
  simp (maxSteps:=9^7) only [go_sem,↓reduceIte,reduceCtorEq,Nat.reduceEqDiff,Nat.reduceBEq,Nat.reduceAdd,Nat.reduceSub,Nat.reduceMul,Nat.reduceLT,Nat.reduceLeDiff,Nat.reduceBNe,Int.reduceBEq,Int.reduceBNe,Int.reduceLT,Int.reduceLE,Spn.a,Msg.a,Par.a,Nd.a,Seat.a,Cfg.a,t2,h2,t5,t7,t8,h8',t9,hlt',hgy,hs,hw,List.length_map,Int.toNat_natCast]
  (repeat refine And.intro (by omega) ?_)
  refine ⟨x.ms.length - (j + 1),by omega,j + 1,by omega,rfl,?_,?_,?_,?_,?_,?_,?_,hr⟩
  iterate 7 focus ((simp (maxSteps:=9^7) only [go_sem,↓reduceIte,reduceCtorEq,Nat.reduceEqDiff,Nat.reduceBEq,Nat.reduceAdd,Nat.reduceSub,Nat.reduceMul,Nat.reduceLT,Nat.reduceLeDiff,Nat.reduceBNe,Int.reduceBEq,Int.reduceBNe,Int.reduceLT,Int.reduceLE,Spn.a,Msg.a,Par.a,Nd.a,Seat.a,Cfg.a,t2,h2,t5,t7,t8,h8,hw]) <;> rfl)
set_option maxHeartbeats 4000000 in
theorem sound_ok (c:Cfg) (l:List Nd) (hl:l.length≤200) (hn:∀ n,n ∈ l->n.Lt):AFn Tryd.prog 27 [c.a,.sl (l.map Nd.a)] (.bool (ze3 c l)):=by
 refine fn_sound rfl ?_
 have cS:=y6k l 0 hl hn
 obtain ⟨hok,hlen⟩:=zi3 hl hn 0
 unfold ze3
 generalize (z1l l 0).1 = s at *
 generalize (z1l l 0).2 = b1 at *
 have cO:=onceT_ok l s (by omega) (by omega)
 have cL:=linked_ok s (by omega)
 generalize y3e l s = b2 at *
 generalize z21 s = b3 at *
 obtain ⟨R,hR⟩:∃ R,s.all (stB c) = R:=⟨_,rfl⟩
 rw [hR]
 cases b1
 ·(repeat (first | simp (maxSteps:=9^7) only [go_sem,↓reduceIte,reduceCtorEq,Nat.reduceEqDiff,Nat.reduceBEq,Nat.reduceAdd,Nat.reduceSub,Nat.reduceMul,Nat.reduceLT,Nat.reduceLeDiff,Nat.reduceBNe,Int.reduceBEq,Int.reduceBNe,Int.reduceLT,Int.reduceLE,Spn.a,Msg.a,Par.a,Nd.a,Seat.a,Cfg.a] | refine z01 (cS) ?_ | refine z00 (cS) ?_ | refine z01 (cO) ?_ | refine z00 (cO) ?_ | refine z01 (cL) ?_ | refine z00 (cL) ?_ | refine And.intro (by omega) ?_ | refine And.intro (fun d hd=>by (repeat (rcases hd with rfl | hd; · exact ⟨rfl,rfl⟩)); cases hd) ?_))
 cases b2
 ·(repeat (first | simp (maxSteps:=9^7) only [go_sem,↓reduceIte,reduceCtorEq,Nat.reduceEqDiff,Nat.reduceBEq,Nat.reduceAdd,Nat.reduceSub,Nat.reduceMul,Nat.reduceLT,Nat.reduceLeDiff,Nat.reduceBNe,Int.reduceBEq,Int.reduceBNe,Int.reduceLT,Int.reduceLE,Spn.a,Msg.a,Par.a,Nd.a,Seat.a,Cfg.a] | refine z01 (cS) ?_ | refine z00 (cS) ?_ | refine z01 (cO) ?_ | refine z00 (cO) ?_ | refine z01 (cL) ?_ | refine z00 (cL) ?_ | refine And.intro (by omega) ?_ | refine And.intro (fun d hd=>by (repeat (rcases hd with rfl | hd; · exact ⟨rfl,rfl⟩)); cases hd) ?_))
 cases b3
 ·(repeat (first | simp (maxSteps:=9^7) only [go_sem,↓reduceIte,reduceCtorEq,Nat.reduceEqDiff,Nat.reduceBEq,Nat.reduceAdd,Nat.reduceSub,Nat.reduceMul,Nat.reduceLT,Nat.reduceLeDiff,Nat.reduceBNe,Int.reduceBEq,Int.reduceBNe,Int.reduceLT,Int.reduceLE,Spn.a,Msg.a,Par.a,Nd.a,Seat.a,Cfg.a] | refine z01 (cS) ?_ | refine z00 (cS) ?_ | refine z01 (cO) ?_ | refine z00 (cO) ?_ | refine z01 (cL) ?_ | refine z00 (cL) ?_ | refine And.intro (by omega) ?_ | refine And.intro (fun d hd=>by (repeat (rcases hd with rfl | hd; · exact ⟨rfl,rfl⟩)); cases hd) ?_))
 by_cases q4:(l.length:Int)≤c.slots
 case neg =>
  have q4':c.slots < (l.length:Int):=by omega
  rw [decide_eq_false q4]
  (repeat (first | simp (maxSteps:=9^7) only [go_sem,↓reduceIte,reduceCtorEq,Nat.reduceEqDiff,Nat.reduceBEq,Nat.reduceAdd,Nat.reduceSub,Nat.reduceMul,Nat.reduceLT,Nat.reduceLeDiff,Nat.reduceBNe,Int.reduceBEq,Int.reduceBNe,Int.reduceLT,Int.reduceLE,Spn.a,Msg.a,Par.a,Nd.a,Seat.a,Cfg.a,List.length_map,q4'] | refine z01 (cS) ?_ | refine z00 (cS) ?_ | refine z01 (cO) ?_ | refine z00 (cO) ?_ | refine z01 (cL) ?_ | refine z00 (cL) ?_ | refine And.intro (by omega) ?_ | refine And.intro (fun d hd=>by (repeat (rcases hd with rfl | hd; · exact ⟨rfl,rfl⟩)); cases hd) ?_))
 have q4':¬ c.slots < (l.length:Int):=by omega
 rw [decide_eq_true q4]
 (repeat (first | simp (maxSteps:=9^7) only [go_sem,↓reduceIte,reduceCtorEq,Nat.reduceEqDiff,Nat.reduceBEq,Nat.reduceAdd,Nat.reduceSub,Nat.reduceMul,Nat.reduceLT,Nat.reduceLeDiff,Nat.reduceBNe,Int.reduceBEq,Int.reduceBNe,Int.reduceLT,Int.reduceLE,Spn.a,Msg.a,Par.a,Nd.a,Seat.a,Cfg.a,List.length_map,q4'] | refine z01 (cS) ?_ | refine z00 (cS) ?_ | refine z01 (cO) ?_ | refine z00 (cO) ?_ | refine z01 (cL) ?_ | refine z00 (cL) ?_ | refine And.intro (by omega) ?_ | refine And.intro (fun d hd=>by (repeat (rcases hd with rfl | hd; · exact ⟨rfl,rfl⟩)); cases hd) ?_))
 clear cS cO cL q4 q4'
 refine z08 (sdInv c s R) (k:=s.length) ⟨0,by omega,rfl,?_,?_,?_,?_,hR⟩ ?_
 iterate 4 focus ((simp (maxSteps:=9^7) only [go_sem,↓reduceIte,reduceCtorEq,Nat.reduceEqDiff,Nat.reduceBEq,Nat.reduceAdd,Nat.reduceSub,Nat.reduceMul,Nat.reduceLT,Nat.reduceLeDiff,Nat.reduceBNe,Int.reduceBEq,Int.reduceBNe,Int.reduceLT,Int.reduceLE,Spn.a,Msg.a,Par.a,Nd.a,Seat.a,Cfg.a]) <;> rfl)
 clear hR
 rintro k σ ⟨i,hi,rfl,t2,h2,t5,t7,hr⟩
 simp only [zis]
 by_cases hlt:i < s.length
 case neg =>
  have hlt':¬ (i:Int) < (s.length:Int):=by omega
  rw [List.drop_eq_nil_of_le (by omega),List.all_nil] at hr
  subst hr
  simp (maxSteps:=9^7) only [go_sem,↓reduceIte,reduceCtorEq,Nat.reduceEqDiff,Nat.reduceBEq,Nat.reduceAdd,Nat.reduceSub,Nat.reduceMul,Nat.reduceLT,Nat.reduceLeDiff,Nat.reduceBNe,Int.reduceBEq,Int.reduceBNe,Int.reduceLT,Int.reduceLE,Spn.a,Msg.a,Par.a,Nd.a,Seat.a,Cfg.a,t2,h2,t5,t7,hlt',List.length_map]
 have hlt':(i:Int) < (s.length:Int):=by omega
 obtain ⟨x,hx⟩:=z0f hlt
 have hgx:=z0j (f:=Seat.a) hx
 simp only [Seat.a] at hgx
 have h2':=h2
 simp only [Cfg.a] at h2'
 have hw:=z1j (j:=i) (by omega)
 have hx0:=hok i x hx
 have cN:=right21_ok c x.n hx0.lt
 have cP:=placed_ok x _ hx0
 rw [z0c hx,List.all_cons] at hr
 have hb:stB c x = (ndB c x.n && zl9 x && decide (x.n.slot < c.slots) && x.ms.all (lateB x)):=rfl
 rw [hb] at hr
 clear hb
 generalize ndB c x.n = e1 at *
 generalize zl9 x = e2 at *
 cases e1
 ·simp only [Bool.false_and] at hr
  subst hr
  (repeat (first | simp (maxSteps:=9^7) only [go_sem,↓reduceIte,reduceCtorEq,Nat.reduceEqDiff,Nat.reduceBEq,Nat.reduceAdd,Nat.reduceSub,Nat.reduceMul,Nat.reduceLT,Nat.reduceLeDiff,Nat.reduceBNe,Int.reduceBEq,Int.reduceBNe,Int.reduceLT,Int.reduceLE,Spn.a,Msg.a,Par.a,Nd.a,Seat.a,Cfg.a,t2,h2',t5,t7,hlt',hgx,List.length_map,Int.toNat_natCast] | refine z01 (cN) ?_ | refine z00 (cN) ?_ | refine z01 (cP) ?_ | refine z00 (cP) ?_ | refine And.intro (by omega) ?_ | refine And.intro (fun d hd=>by (repeat (rcases hd with rfl | hd; · exact ⟨rfl,rfl⟩)); cases hd) ?_))
 cases e2
 ·simp only [Bool.and_false,Bool.false_and] at hr
  subst hr
  (repeat (first | simp (maxSteps:=9^7) only [go_sem,↓reduceIte,reduceCtorEq,Nat.reduceEqDiff,Nat.reduceBEq,Nat.reduceAdd,Nat.reduceSub,Nat.reduceMul,Nat.reduceLT,Nat.reduceLeDiff,Nat.reduceBNe,Int.reduceBEq,Int.reduceBNe,Int.reduceLT,Int.reduceLE,Spn.a,Msg.a,Par.a,Nd.a,Seat.a,Cfg.a,t2,h2',t5,t7,hlt',hgx,List.length_map,Int.toNat_natCast] | refine z01 (cN) ?_ | refine z00 (cN) ?_ | refine z01 (cP) ?_ | refine z00 (cP) ?_ | refine And.intro (by omega) ?_ | refine And.intro (fun d hd=>by (repeat (rcases hd with rfl | hd; · exact ⟨rfl,rfl⟩)); cases hd) ?_))
 by_cases q5:x.n.slot < c.slots
 case neg =>
  have q5':c.slots≤x.n.slot:=by omega
  rw [decide_eq_false q5] at hr
  simp only [Bool.and_false,Bool.false_and] at hr
  subst hr
  (repeat (first | simp (maxSteps:=9^7) only [go_sem,↓reduceIte,reduceCtorEq,Nat.reduceEqDiff,Nat.reduceBEq,Nat.reduceAdd,Nat.reduceSub,Nat.reduceMul,Nat.reduceLT,Nat.reduceLeDiff,Nat.reduceBNe,Int.reduceBEq,Int.reduceBNe,Int.reduceLT,Int.reduceLE,Spn.a,Msg.a,Par.a,Nd.a,Seat.a,Cfg.a,t2,h2',t5,t7,hlt',hgx,q5',List.length_map,Int.toNat_natCast] | refine z01 (cN) ?_ | refine z00 (cN) ?_ | refine z01 (cP) ?_ | refine z00 (cP) ?_ | refine And.intro (by omega) ?_ | refine And.intro (fun d hd=>by (repeat (rcases hd with rfl | hd; · exact ⟨rfl,rfl⟩)); cases hd) ?_))
 have q5':¬ c.slots≤x.n.slot:=by omega
 rw [decide_eq_true q5] at hr
 simp only [Bool.true_and] at hr
 (repeat (first | simp (maxSteps:=9^7) only [go_sem,↓reduceIte,reduceCtorEq,Nat.reduceEqDiff,Nat.reduceBEq,Nat.reduceAdd,Nat.reduceSub,Nat.reduceMul,Nat.reduceLT,Nat.reduceLeDiff,Nat.reduceBNe,Int.reduceBEq,Int.reduceBNe,Int.reduceLT,Int.reduceLE,Spn.a,Msg.a,Par.a,Nd.a,Seat.a,Cfg.a,t2,h2',t5,t7,hlt',hgx,q5',List.length_map,Int.toNat_natCast] | refine z01 (cN) ?_ | refine z00 (cN) ?_ | refine z01 (cP) ?_ | refine z00 (cP) ?_ | refine And.intro (by omega) ?_ | refine And.intro (fun d hd=>by (repeat (rcases hd with rfl | hd; · exact ⟨rfl,rfl⟩)); cases hd) ?_))
 obtain ⟨RL,hL⟩:∃ r,x.ms.all (lateB x) = r:=⟨_,rfl⟩
 rw [hL] at hr
 refine z08 (sd2Inv c s i x RL) (k:=x.ms.length) ⟨0,by omega,rfl,?_,?_,?_,?_,?_,?_,?_,hL⟩ (late_loop c s i x (2000 * i) (by omega) hx0 RL _ ?_ ?_)
 iterate 7 focus ((simp (maxSteps:=9^7) only [go_sem,↓reduceIte,reduceCtorEq,Nat.reduceEqDiff,Nat.reduceBEq,Nat.reduceAdd,Nat.reduceSub,Nat.reduceMul,Nat.reduceLT,Nat.reduceLeDiff,Nat.reduceBNe,Int.reduceBEq,Int.reduceBNe,Int.reduceLT,Int.reduceLE,Spn.a,Msg.a,Par.a,Nd.a,Seat.a,Cfg.a,t2,h2,t5,t7]) <;> rfl)
 ·intro σ hk t2 h2 t5 t7
  subst hk
  rw [Bool.true_and] at hr
  simp (maxSteps:=9^7) only [go_sem,↓reduceIte,reduceCtorEq,Nat.reduceEqDiff,Nat.reduceBEq,Nat.reduceAdd,Nat.reduceSub,Nat.reduceMul,Nat.reduceLT,Nat.reduceLeDiff,Nat.reduceBNe,Int.reduceBEq,Int.reduceBNe,Int.reduceLT,Int.reduceLE,Spn.a,Msg.a,Par.a,Nd.a,Seat.a,Cfg.a,t2,h2,t5,t7,hw]
  refine ⟨s.length - (i + 1),by omega,i + 1,by omega,rfl,?_,?_,?_,?_,hr⟩
  iterate 4 focus ((simp (maxSteps:=9^7) only [go_sem,↓reduceIte,reduceCtorEq,Nat.reduceEqDiff,Nat.reduceBEq,Nat.reduceAdd,Nat.reduceSub,Nat.reduceMul,Nat.reduceLT,Nat.reduceLeDiff,Nat.reduceBNe,Int.reduceBEq,Int.reduceBNe,Int.reduceLT,Int.reduceLE,Spn.a,Msg.a,Par.a,Nd.a,Seat.a,Cfg.a,t2,h2,t5,hw]) <;> rfl)
 ·intro σ hk t4
  subst hk
  rw [Bool.false_and] at hr
  subst hr
  simp (maxSteps:=9^7) only [go_sem,↓reduceIte,reduceCtorEq,Nat.reduceEqDiff,Nat.reduceBEq,Nat.reduceAdd,Nat.reduceSub,Nat.reduceMul,Nat.reduceLT,Nat.reduceLeDiff,Nat.reduceBNe,Int.reduceBEq,Int.reduceBNe,Int.reduceLT,Int.reduceLE,Spn.a,Msg.a,Par.a,Nd.a,Seat.a,Cfg.a,t4]
theorem lt_of {n:Nd} (ok:n.ok) (h:n.light 2000 = true):n.Lt:=by
 unfold Nd.light at h
 simp only [Bool.and_eq_true,decide_eq_true_eq] at h
 obtain ⟨⟨⟨⟨h1,h2⟩,h3⟩,h4⟩,h5⟩:=h
 have l1:=zf9 (f:=Par.bulk) (fun x=>by unfold Par.bulk; omega) n.rows
 have l2:=zf9 (f:=z2s) (fun x=>by unfold z2s; omega) n.pivots
 have l4:=zf9 (f:=Msg.bulkN) (fun x=>by unfold Msg.bulkN; omega) n.msgs
 refine ⟨ok.level,fun x hx=>?_,by omega,by omega,by omega,fun m hm=>?_,by omega,fun p hp=>?_,by omega⟩
 ·have:=zf8 (f:=z2s) hx
  have e:z2s x = x.size + 1:=rfl
  omega
 ·have:=zf8 (f:=Msg.bulkN) hm
  have e:m.bulkN = 1 + m.key.size + m.hi.size + m.val.size:=rfl
  exact ⟨by omega,by omega,by omega⟩
 ·have:=zf8 (f:=Par.bulk) hp
  have e:p.bulk = 1 + p.key.size + p.val.size:=rfl
  omega
def seqB (l:List Nd):Nat->Bool
 | i=>match l with
  | []=>true
  | n :: m=>decide (n.slot = i) && decide (n.seen≤1099511627776) && seqB m (i + 1)
def z5j (c:Cfg) (l:List Nd) (most:Int):Bool:=cfgB c && decide (l.length ≠ 0) && zlr l most 2000 && seqB l 0 && ze3 c l
def trInv (c:Cfg) (l:List Nd) (R:Bool) (k:Nat) (σ:St):Prop :=
 ∃ i:Nat,i≤l.length∧k = l.length - i∧σ.T 3 = .ptr 3 0 0∧σ.H 3 = some ⟨5,37,[c.a],0⟩∧σ.T 1 = .sl (l.map Nd.a)∧σ.T 7 = .int .i64 i∧seqB (l.drop i) i = R
set_option maxHeartbeats 4000000 in
theorem tree_ok (c:Cfg) (l:List Nd) (most:Int) (hm:most≤200) (hs:∀ x,x ∈ l->x.ok) (hl:l.length≤281474976710656):AFn Tryd.prog 10 [c.a,.sl (l.map Nd.a),.int .i64 most] (.bool (z5j c l most)):=by
 refine fn_tree28 rfl ?_
 have cC:=right25_ok c
 have cL:=light_ok l most 2000 (by omega) (by omega) hs hl
 unfold z5j
 generalize cfgB c = b1 at *
 cases b1
 ·(repeat (first | simp (maxSteps:=9^7) only [go_sem,↓reduceIte,reduceCtorEq,Nat.reduceEqDiff,Nat.reduceBEq,Nat.reduceAdd,Nat.reduceSub,Nat.reduceMul,Nat.reduceLT,Nat.reduceLeDiff,Nat.reduceBNe,Int.reduceBEq,Int.reduceBNe,Int.reduceLT,Int.reduceLE,Spn.a,Msg.a,Par.a,Nd.a,Seat.a,Cfg.a,List.length_map] | refine z01 (cC) ?_ | refine z00 (cC) ?_ | refine z01 (cL) ?_ | refine z00 (cL) ?_ | refine And.intro (by omega) ?_ | refine And.intro (fun d hd=>by (repeat (rcases hd with rfl | hd; · exact ⟨rfl,rfl⟩)); cases hd) ?_))
 by_cases q2:l.length = 0
 ·have q2':((l.length:Int) == 0) = true:=by simp [q2]
  rw [decide_eq_false (fun h=>h q2)]
  (repeat (first | simp (maxSteps:=9^7) only [go_sem,↓reduceIte,reduceCtorEq,Nat.reduceEqDiff,Nat.reduceBEq,Nat.reduceAdd,Nat.reduceSub,Nat.reduceMul,Nat.reduceLT,Nat.reduceLeDiff,Nat.reduceBNe,Int.reduceBEq,Int.reduceBNe,Int.reduceLT,Int.reduceLE,Spn.a,Msg.a,Par.a,Nd.a,Seat.a,Cfg.a,List.length_map,q2'] | refine z01 (cC) ?_ | refine z00 (cC) ?_ | refine z01 (cL) ?_ | refine z00 (cL) ?_ | refine And.intro (by omega) ?_ | refine And.intro (fun d hd=>by (repeat (rcases hd with rfl | hd; · exact ⟨rfl,rfl⟩)); cases hd) ?_))
 have q2':((l.length:Int) == 0) = false:=beq_eq_false_iff_ne.2 (by omega)
 rw [decide_eq_true q2]
 cases hL:zlr l most 2000
 ·rw [hL] at cL
  (repeat (first | simp (maxSteps:=9^7) only [go_sem,↓reduceIte,reduceCtorEq,Nat.reduceEqDiff,Nat.reduceBEq,Nat.reduceAdd,Nat.reduceSub,Nat.reduceMul,Nat.reduceLT,Nat.reduceLeDiff,Nat.reduceBNe,Int.reduceBEq,Int.reduceBNe,Int.reduceLT,Int.reduceLE,Spn.a,Msg.a,Par.a,Nd.a,Seat.a,Cfg.a,List.length_map,q2'] | refine z01 (cC) ?_ | refine z00 (cC) ?_ | refine z01 (cL) ?_ | refine z00 (cL) ?_ | refine And.intro (by omega) ?_ | refine And.intro (fun d hd=>by (repeat (rcases hd with rfl | hd; · exact ⟨rfl,rfl⟩)); cases hd) ?_))
 rw [hL] at cL
 have hL2:=hL
 unfold zlr at hL2
 rw [Bool.and_eq_true,decide_eq_true_eq,List.all_eq_true] at hL2
 have hlt:∀ n,n ∈ l->n.Lt:=fun n hn=>lt_of (hs n hn) (hL2.2 n hn)
 have cS:=sound_ok c l (by have:=hL2.1; omega) hlt
 generalize ze3 c l = bs at *
 obtain ⟨R,hR⟩:∃ R,seqB l 0 = R:=⟨_,rfl⟩
 rw [hR]
 (repeat (first | simp (maxSteps:=9^7) only [go_sem,↓reduceIte,reduceCtorEq,Nat.reduceEqDiff,Nat.reduceBEq,Nat.reduceAdd,Nat.reduceSub,Nat.reduceMul,Nat.reduceLT,Nat.reduceLeDiff,Nat.reduceBNe,Int.reduceBEq,Int.reduceBNe,Int.reduceLT,Int.reduceLE,Spn.a,Msg.a,Par.a,Nd.a,Seat.a,Cfg.a,List.length_map,q2'] | refine z01 (cC) ?_ | refine z00 (cC) ?_ | refine z01 (cL) ?_ | refine z00 (cL) ?_ | refine And.intro (by omega) ?_ | refine And.intro (fun d hd=>by (repeat (rcases hd with rfl | hd; · exact ⟨rfl,rfl⟩)); cases hd) ?_))
 refine z08 (trInv c l R) (k:=l.length) ⟨0,by omega,rfl,?_,?_,?_,?_,hR⟩ ?_
 iterate 4 focus ((simp (maxSteps:=9^7) only [go_sem,↓reduceIte,reduceCtorEq,Nat.reduceEqDiff,Nat.reduceBEq,Nat.reduceAdd,Nat.reduceSub,Nat.reduceMul,Nat.reduceLT,Nat.reduceLeDiff,Nat.reduceBNe,Int.reduceBEq,Int.reduceBNe,Int.reduceLT,Int.reduceLE,Spn.a,Msg.a,Par.a,Nd.a,Seat.a,Cfg.a]) <;> rfl)
 clear hR cC cL q2'
 rintro k σ ⟨i,hi,rfl,t3,h3,t1,t7,hr⟩
 simp only [zio]
 have h3':=h3
 simp only [Cfg.a] at h3'
 by_cases hlt2:i < l.length
 case neg =>
  have hlt':¬ (i:Int) < (l.length:Int):=by omega
  rw [List.drop_eq_nil_of_le (by omega),seqB] at hr
  subst hr
  (repeat (first | simp (maxSteps:=9^7) only [go_sem,↓reduceIte,reduceCtorEq,Nat.reduceEqDiff,Nat.reduceBEq,Nat.reduceAdd,Nat.reduceSub,Nat.reduceMul,Nat.reduceLT,Nat.reduceLeDiff,Nat.reduceBNe,Int.reduceBEq,Int.reduceBNe,Int.reduceLT,Int.reduceLE,Spn.a,Msg.a,Par.a,Nd.a,Seat.a,Cfg.a,t3,h3',t1,t7,hlt',List.length_map] | refine z01 (cS) ?_ | refine z00 (cS) ?_ | refine And.intro (by omega) ?_ | refine And.intro (fun d hd=>by (repeat (rcases hd with rfl | hd; · exact ⟨rfl,rfl⟩)); cases hd) ?_))
 have hlt':(i:Int) < (l.length:Int):=by omega
 obtain ⟨x,hx⟩:=z0f hlt2
 have hgx:=z0j (f:=Nd.a) hx
 simp only [Nd.a] at hgx
 have hw:=z1j (j:=i) (by omega)
 rw [z0c hx,seqB] at hr
 by_cases q5:x.slot = (i:Int)
 case neg =>
  have q5':(x.slot != (i:Int)) = true:=by simp [q5]
  rw [decide_eq_false q5,Bool.false_and,Bool.false_and] at hr
  subst hr
  simp (maxSteps:=9^7) only [go_sem,↓reduceIte,reduceCtorEq,Nat.reduceEqDiff,Nat.reduceBEq,Nat.reduceAdd,Nat.reduceSub,Nat.reduceMul,Nat.reduceLT,Nat.reduceLeDiff,Nat.reduceBNe,Int.reduceBEq,Int.reduceBNe,Int.reduceLT,Int.reduceLE,Spn.a,Msg.a,Par.a,Nd.a,Seat.a,Cfg.a,t3,h3',t1,t7,hlt',hgx,q5',List.length_map,Int.toNat_natCast]
  all_goals omega
 have q5':(x.slot != (i:Int)) = false:=by simp [q5]
 rw [decide_eq_true q5] at hr
 by_cases q6:x.seen≤1099511627776
 case neg =>
  have q6':1099511627776 < x.seen:=by omega
  rw [decide_eq_false q6,Bool.and_false,Bool.false_and] at hr
  subst hr
  simp (maxSteps:=9^7) only [go_sem,↓reduceIte,reduceCtorEq,Nat.reduceEqDiff,Nat.reduceBEq,Nat.reduceAdd,Nat.reduceSub,Nat.reduceMul,Nat.reduceLT,Nat.reduceLeDiff,Nat.reduceBNe,Int.reduceBEq,Int.reduceBNe,Int.reduceLT,Int.reduceLE,Spn.a,Msg.a,Par.a,Nd.a,Seat.a,Cfg.a,t3,h3',t1,t7,hlt',hgx,q5',q6',List.length_map,Int.toNat_natCast]
  all_goals omega
 have q6':¬ 1099511627776 < x.seen:=by omega
 rw [decide_eq_true q6,Bool.true_and,Bool.true_and] at hr
 simp (maxSteps:=9^7) only [go_sem,↓reduceIte,reduceCtorEq,Nat.reduceEqDiff,Nat.reduceBEq,Nat.reduceAdd,Nat.reduceSub,Nat.reduceMul,Nat.reduceLT,Nat.reduceLeDiff,Nat.reduceBNe,Int.reduceBEq,Int.reduceBNe,Int.reduceLT,Int.reduceLE,Spn.a,Msg.a,Par.a,Nd.a,Seat.a,Cfg.a,t3,h3',t1,t7,hlt',hgx,q5',q6',hw,List.length_map,Int.toNat_natCast]
 (repeat refine And.intro (by omega) ?_)
 refine ⟨l.length - (i + 1),by omega,i + 1,by omega,rfl,?_,?_,?_,?_,hr⟩
 iterate 4 focus ((simp (maxSteps:=9^7) only [go_sem,↓reduceIte,reduceCtorEq,Nat.reduceEqDiff,Nat.reduceBEq,Nat.reduceAdd,Nat.reduceSub,Nat.reduceMul,Nat.reduceLT,Nat.reduceLeDiff,Nat.reduceBNe,Int.reduceBEq,Int.reduceBNe,Int.reduceLT,Int.reduceLE,Spn.a,Msg.a,Par.a,Nd.a,Seat.a,Cfg.a,t3,h3,t1,hw]) <;> rfl)
end
section
open Go.RowKit
theorem zfa:∀ (l:List Nd) (i:Nat),seqB l i = true->∀ (j:Nat) (n:Nd),l[j]? = some n->n.slot = ((i + j:Nat):Int)
 | [],i,h,j,n,e=>by simp at e
 | x :: l,i,h,j,n,e=>by
  rw [seqB,Bool.and_eq_true,Bool.and_eq_true,decide_eq_true_eq] at h
  cases j with
  | zero=>cases e; rw [h.1.1]; rfl
  | succ j =>
   have:=zfa l (i + 1) h.2 j n (by simpa using e)
   rw [this]; omega
def Seat.sl (x:Seat):Int:=x.n.slot
def z5y (x:Seat):List Int:=if x.n.level = 0 then [] else x.n.kids
theorem zew {l:List Nd} (h:z3y l) {x:Seat}:∀ (ks:List Int) (j:Nat),(z0p l x j ks).2 = true->(z0p l x j ks).1.map Seat.sl = ks∧∀ y,y ∈ (z0p l x j ks).1->ndAt l y.n.slot = some y.n
 | [],j,_=>⟨rfl,fun y hy=>by cases hy⟩
 | k :: ks,j,hk=>by
  rw [z0p] at hk ⊢
  by_cases c:(z28 l k).2 = true∧(z28 l k).1.level = x.n.level - 1
  ·rw [if_pos c] at hk ⊢
   obtain ⟨i1,i2⟩:=zew h ks (j + 1) hk
   have e:=z6f h k
   cases en:ndAt l k with
   | none=>rw [en] at e; rw [e] at c; exact absurd c.1 (by decide)
   | some n =>
    rw [en] at e
    have e':(z28 l k).1 = n:=by rw [e]; rfl
    have hs:=(z0v h en).1
    refine ⟨?_,fun y hy=>?_⟩
    ·rw [List.map_cons,i1]
     show (z28 l k).1.slot :: ks = _
     rw [e',hs]
    ·rcases List.mem_cons.1 hy with q | q
     ·rw [q]
      show ndAt l (z28 l k).1.slot = some (z28 l k).1
      rw [e',hs]; exact en
     ·exact i2 y q
  ·rw [if_neg c] at hk; cases hk
theorem z3q {l:List Nd} (h:z3y l):∀ (f:Nat) (out:List Seat) (i:Nat),l.length + 1≤i + f->i≤out.length->out.map Seat.sl = 0 :: (out.take i).flatMap z5y->(∀ j,j < i->j < 1 + ((out.take j).flatMap z5y).length) ->
  (∀ y,y ∈ out->ndAt l y.n.slot = some y.n)->∀ S,z1a l f out i = (S,true)->S.length = l.length ->
  S.map Seat.sl = 0 :: S.flatMap z5y∧(∀ j,j < S.length->j < 1 + ((S.take j).flatMap z5y).length)∧∀ y,y ∈ S->ndAt l y.n.slot = some y.n
 | 0,out,i,hf,hi,h1,h2,h3,S,e,hl=>by
  rw [z1a] at e
  cases e
  omega
 | f + 1,out,i,hf,hi,h1,h2,h3,S,e,hl=>by
  rw [z1a] at e
  cases hx:out[i]? with
  | none =>
   rw [hx] at e
   cases e
   have:=List.getElem?_eq_none_iff.1 hx
   have e2:i = out.length:=by omega
   subst e2
   rw [List.take_length] at h1
   exact ⟨h1,h2,h3⟩
  | some x =>
   rw [hx] at e
   have hlt:=(List.getElem?_eq_some_iff.1 hx).1
   have htk:out.take (i + 1) = out.take i ++ [x]:=by rw [List.take_add_one,hx]; rfl
   have hlen:out.length = 1 + ((out.take i).flatMap z5y).length:=by
    have:=congrArg List.length h1
    rw [List.length_map,List.length_cons] at this
    omega
   have hnew:∀ j,j < i + 1->j < 1 + ((out.take j).flatMap z5y).length:=fun j hj=>by
    rcases Nat.lt_or_ge j i with q | q
    ·exact h2 j q
    ·have:j = i:=by omega
     rw [this]; omega
   dsimp only at e
   by_cases q1:l.length < out.length
   ·rw [if_pos q1] at e; cases e
   rw [if_neg q1] at e
   by_cases q2:x.n.level = 0
   ·rw [if_pos q2] at e
    refine z3q h f out (i + 1) (by omega) hlt ?_ hnew h3 S e hl
    rw [htk,List.flatMap_append,h1]
    have:([x].flatMap z5y) = []:=by simp [z5y,q2]
    rw [this,List.append_nil]
   rw [if_neg q2] at e
   by_cases q3:x.n.level < 0∨z60 x.n.pivots x.n.kids = false
   ·rw [if_pos q3] at e; cases e
   rw [if_neg q3] at e
   by_cases q4:(z0p l x 0 x.n.kids).2 = true
   case neg=>rw [if_neg q4] at e; cases e
   rw [if_pos q4] at e
   obtain ⟨k1,k2⟩:=zew h x.n.kids 0 q4
   have hap:∀ j,j≤i + 1->(out ++ (z0p l x 0 x.n.kids).1).take j = out.take j:=fun j hj=>List.take_append_of_le_length (by omega)
   refine z3q h f (out ++ (z0p l x 0 x.n.kids).1) (i + 1) (by omega) (by rw [List.length_append]; omega) ?_ (fun j hj=>?_) (fun y hy=>?_) S e hl
   ·rw [hap _ (Nat.le_refl _),htk,List.flatMap_append,List.map_append,h1,k1]
    have:([x].flatMap z5y) = x.n.kids:=by simp [z5y,q2]
    rw [this]; rfl
   ·rw [hap j (by omega)]; exact hnew j hj
   ·rcases List.mem_append.1 hy with q | q
    ·exact h3 y q
    ·exact k2 y q
structure Ords (l:List Nd) (q:List Int):Prop where
 eq:q = 0 :: q.flatMap (z45 l)
 dup:q.Nodup
 mem:∀ s,s ∈ q->0≤s∧s < l.length
 live:∀ j,j < q.length->j < 1 + ((q.take j).flatMap (z45 l)).length
theorem zlq:∀ {s:List Seat} {i:Nat} {x:Seat},z21 s = true->s[i]? = some x->x.n.right = -1∨∃ y,s[i + 1]? = some y∧x.n.right = y.n.slot
 | [],i,x,h,e=>by simp at e
 | z :: s,0,x,h,e=>by
  cases e
  rw [z21,Bool.and_eq_true,decide_eq_true_eq] at h
  rw [h.1]
  cases s with
  | nil=>exact .inl rfl
  | cons y s =>
   rw [zfp]
   split
   ·exact .inr ⟨y,rfl,rfl⟩
   ·exact .inl rfl
 | z :: s,i + 1,x,h,e=>by
  rw [z21,Bool.and_eq_true] at h
  have q:=zlq (s:=s) (i:=i) (x:=x) h.2 (by simpa using e)
  simpa using q
theorem z74:∀ {q:List Int},(∀ s,s ∈ q->q.count s = 1)->q.Nodup
 | [],_=>List.nodup_nil
 | x :: q,h=>by
  have hx:=h x (List.mem_cons_self ..)
  rw [List.count_cons_self] at hx
  have hn:x ∉ q:=fun hm=>by
   have:=List.count_pos_iff.2 hm
   omega
  refine List.nodup_cons.2 ⟨hn,z74 fun s hs=>?_⟩
  have:=h s (List.mem_cons_of_mem _ hs)
  rw [List.count_cons_of_ne (fun e=>hn (by rw [e]; exact hs))] at this
  exact this
structure TreeLaw (l:List Nd) (S:List Seat):Prop where
 lad:Lad l
 ords:Ords l (S.map Seat.sl)
 pos:∀ (i:Nat) (s x:Int),(S.map Seat.sl)[i]? = some s->x ∈ y2s l s->∃ j,i < j∧(S.map Seat.sl)[j]? = some x
 all:∀ s:Int,0≤s->s < l.length->s ∈ S.map Seat.sl
 seat:∀ x,x ∈ S->0≤x.n.slot∧x.n.slot < l.length
 len:S.length≤200
theorem y6f {c:Cfg} {l:List Nd} {most:Int} (hm:most≤200) (h:z5j c l most = true):TreeLaw l (z1l l 0).1:=by
 unfold z5j at h
 rw [Bool.and_eq_true,Bool.and_eq_true,Bool.and_eq_true,Bool.and_eq_true] at h
 obtain ⟨⟨⟨⟨_,hne⟩,hL⟩,hq⟩,hS⟩:=h
 have hord:z3y l:=fun j n e=>by have:=zfa l 0 hq j n e; rw [this]; omega
 unfold zlr at hL
 rw [Bool.and_eq_true,decide_eq_true_eq,List.all_eq_true] at hL
 obtain ⟨hlen,hlt⟩:=hL
 unfold ze3 at hS
 rw [Bool.and_eq_true,Bool.and_eq_true,Bool.and_eq_true,Bool.and_eq_true,List.all_eq_true] at hS
 obtain ⟨⟨⟨⟨hok,honce⟩,hlink⟩,_⟩,hst⟩:=hS
 unfold y3e at honce
 rw [Bool.and_eq_true,decide_eq_true_eq,List.all_eq_true] at honce
 obtain ⟨hl1,hcnt⟩:=honce
 generalize hSd:(z1l l 0).1 = S at *
 have hgo:∃ r,z28 l 0 = (r,true)∧ndAt l 0 = some r∧z1a l (l.length + 1) [⟨r,⟨nul0,nul0,true⟩,[]⟩] 0 = (S,true):=by
  unfold z1l at hok hSd
  have e:=z6f hord 0
  cases en:ndAt l 0 with
  | none =>
   rw [en] at e
   rw [e] at hok
   have hf:¬ ((Option.map (fun n:Nd=>(n,true)) none).getD (Nd.zero,false)).2 = true:=Bool.false_ne_true
   rw [if_neg hf] at hok
   cases hok
  | some r =>
   rw [en] at e
   have e':z28 l 0 = (r,true):=e
   rw [e'] at hok hSd
   rw [if_pos rfl] at hok hSd
   exact ⟨r,e',rfl,Prod.ext hSd hok⟩
 obtain ⟨r,_,er,hgo⟩:=hgo
 have hr0:=(z0v hord er).1
 obtain ⟨b1,b2,b3⟩:=z3q hord (l.length + 1) [⟨r,⟨nul0,nul0,true⟩,[]⟩] 0 (by omega) (Nat.zero_le _) (by show [r.slot] = [0]; rw [hr0]) (fun j hj=>absurd hj (by omega))
  (fun y hy=>by
   have:y = ⟨r,⟨nul0,nul0,true⟩,[]⟩:=by simpa using hy
   rw [this]
   show ndAt l r.slot = some r
   rw [hr0]; exact er) S hgo hl1.symm
 have hseat:∀ x,x ∈ S->ndB c x.n = true:=fun x hx=>by
  have:=hst x hx
  unfold stB at this
  rw [Bool.and_eq_true,Bool.and_eq_true,Bool.and_eq_true] at this
  exact this.1.1.1
 have hkk:∀ x,x ∈ S->z5y x = z45 l x.n.slot:=fun x hx=>by
  have e:=b3 x hx
  have hn:=hseat x hx
  unfold z45 z5y
  rw [e]
  show _ = x.n.kids
  by_cases h0:x.n.level = 0
  ·rw [if_pos h0]
   unfold ndB at hn
   rw [Bool.and_eq_true,if_pos h0] at hn
   have:=hn.2
   unfold y3r at this
   rw [Bool.and_eq_true,Bool.and_eq_true,Bool.and_eq_true,decide_eq_true_eq] at this
   exact (List.length_eq_zero_iff.1 (by omega)).symm
  ·rw [if_neg h0]
 have hfl:∀ T:List Seat,(∀ x,x ∈ T->x ∈ S)->T.flatMap z5y = (T.map Seat.sl).flatMap (z45 l):=by
  intro T
  induction T with
  | nil=>intro _; rfl
  | cons x T ih =>
   intro hT
   rw [List.map_cons,List.flatMap_cons,List.flatMap_cons,ih (fun y hy=>hT y (List.mem_cons_of_mem _ hy)),hkk x (hT x (List.mem_cons_self ..))]
   rfl
 have hmem:∀ s,s ∈ S.map Seat.sl->∃ x,x ∈ S∧x.n.slot = s:=fun s hs=>by
  obtain ⟨x,h1,h2⟩:=List.mem_map.1 hs
  exact ⟨x,h1,h2⟩
 have hrange:∀ x,x ∈ S->0≤x.n.slot∧x.n.slot < l.length:=fun x hx=>by
  have:=z0v hord (b3 x hx)
  exact this.2.2
 have hcount:∀ s:Int,0≤s->s < l.length->(S.map Seat.sl).count s = 1:=fun s h0 h1=>by
  obtain ⟨n,hn⟩:=ndAt_some h0 h1
  obtain ⟨e1,e2,_⟩:=z0v hord hn
  have:=hcnt n e2
  rw [beq_iff_eq,e1] at this
  rw [← this]
  unfold zf3
  rw [List.count_eq_countP,List.countP_map]
  rfl
 have hall:∀ s:Int,0≤s->s < l.length->s ∈ S.map Seat.sl:=fun s h0 h1=>List.count_pos_iff.1 (by rw [hcount s h0 h1]; decide)
 have hnode:∀ n,n ∈ l->∃ (i:Nat) (x:Seat),S[i]? = some x∧x.n = n:=fun n hn=>by
  obtain ⟨j,hj⟩:=List.mem_iff_getElem?.1 hn
  have hsl:=hord j n hj
  have hjl:=(List.getElem?_eq_some_iff.1 hj).1
  obtain ⟨x,hx1,hx2⟩:=hmem n.slot (hall n.slot (by omega) (by omega))
  obtain ⟨i,hi⟩:=List.mem_iff_getElem?.1 hx1
  refine ⟨i,x,hi,?_⟩
  have e:=b3 x hx1
  rw [hx2,hsl] at e
  unfold ndAt at e
  rw [if_pos (by omega),show ((j:Int)).toNat = j by omega,hj] at e
  cases e; rfl
 have hq0:S.map Seat.sl = 0 :: (S.map Seat.sl).flatMap (z45 l):=by rw [← hfl S (fun x hx=>hx)]; exact b1
 have hkin:∀ x,x ∈ S->∀ k,k ∈ x.n.kids->k ∈ S.map Seat.sl:=fun x hx k hk=>by
  rw [hq0]
  refine List.mem_cons_of_mem _ (List.mem_flatMap.2 ⟨x.n.slot,List.mem_map.2 ⟨x,hx,rfl⟩,?_⟩)
  unfold z45
  rw [b3 x hx]
  exact hk
 have htop:∀ n,ndB c n = true->(0≤n.right ↔ n.top = false):=fun n hn=>by
  unfold ndB at hn
  rw [Bool.and_eq_true,Bool.and_eq_true] at hn
  have:=hn.1.2
  unfold topB at this
  cases ht:n.top with
  | true =>
   rw [ht,if_pos rfl,Bool.and_eq_true,decide_eq_true_eq] at this
   rw [this.2]; simp
  | false =>
   rw [ht,if_neg (by decide),Bool.and_eq_true,decide_eq_true_eq] at this
   simp [this.2]
 have hlad:Lad l:=by
  refine ⟨hord,by omega,fun n hn=>?_,fun n hn k hk=>?_,fun n hn=>?_,fun n hn=>?_⟩
  ·have:=hlt n hn
   unfold Nd.light at this
   simp only [Bool.and_eq_true,decide_eq_true_eq] at this
   omega
  ·obtain ⟨i,x,hi,hx⟩:=hnode n hn
   have hxm:=List.mem_of_getElem? hi
   obtain ⟨y,y1,y2⟩:=hmem k (hkin x hxm k (by rw [hx]; exact hk))
   rw [← y2]; exact hrange y y1
  ·obtain ⟨i,x,hi,hx⟩:=hnode n hn
   rcases zlq hlink hi with q | ⟨y,y1,y2⟩
   ·rw [← hx,q]; omega
   ·rw [← hx,y2]; exact (hrange y (List.mem_of_getElem? y1)).2
  ·obtain ⟨i,x,hi,hx⟩:=hnode n hn
   rw [← hx]; exact htop x.n (hseat x (List.mem_of_getElem? hi))
 have hlive:∀ j,j < (S.map Seat.sl).length->j < 1 + (((S.map Seat.sl).take j).flatMap (z45 l)).length:=fun j hj=>by
  rw [List.length_map] at hj
  have:=b2 j hj
  rw [hfl (S.take j) (fun x hx=>List.mem_of_mem_take hx),List.map_take] at this
  exact this
 refine ⟨hlad,⟨hq0,?_,fun s hs=>?_,hlive⟩,fun i s x hi hx=>?_,hall,hrange,by rw [← hl1]; omega⟩
 ·refine z74 fun s hs=>?_
  obtain ⟨x,h1,h2⟩:=hmem s hs
  have:=hrange x h1
  rw [h2] at this
  exact hcount s this.1 this.2
 ·obtain ⟨x,h1,h2⟩:=hmem s hs
  rw [← h2]; exact hrange x h1
 ·have hil:=(List.getElem?_eq_some_iff.1 hi).1
  obtain ⟨y,hy,hys⟩:∃ y,S[i]? = some y∧y.n.slot = s:=by
   rw [List.getElem?_map] at hi
   cases e:S[i]? with
   | none=>rw [e] at hi; cases hi
   | some y=>rw [e] at hi; cases hi; exact ⟨y,rfl,rfl⟩
  have hym:=List.mem_of_getElem? hy
  unfold y2s at hx
  rw [← hys,b3 y hym] at hx
  rcases List.mem_append.1 (show x ∈ y.n.kids ++ _ from hx) with q | q
  ·obtain ⟨m,hml,hm⟩:=List.mem_iff_getElem.1 q
   have hq0':=hq0
   have hsp:S.map Seat.sl = (S.map Seat.sl).take i ++ s :: (S.map Seat.sl).drop (i + 1):=by
    have:(S.map Seat.sl)[i] = s:=by
     have:=List.getElem?_eq_getElem hil
     rw [hi] at this; cases this; rfl
    rw [← this,List.getElem_cons_drop,List.take_append_drop]
   have hkk2:z45 l s = y.n.kids:=by
    unfold z45
    rw [← hys,b3 y hym]; rfl
   have hfm:(S.map Seat.sl).flatMap (z45 l) = ((S.map Seat.sl).take i).flatMap (z45 l) ++ (y.n.kids ++ ((S.map Seat.sl).drop (i + 1)).flatMap (z45 l)):=by
    conv=>lhs; rw [hsp]
    rw [List.flatMap_append,List.flatMap_cons,hkk2]
   have hlv:=hlive i hil
   have hq1:=hq0.trans (congrArg (List.cons 0) hfm)
   generalize ((S.map Seat.sl).take i).flatMap (z45 l) = A at hq1 hlv
   refine ⟨1 + A.length + m,by omega,?_⟩
   rw [hq1,show 1 + A.length + m = (A.length + m) + 1 by omega,List.getElem?_cons_succ,List.getElem?_append_right (by omega),Nat.add_sub_cancel_left,List.getElem?_append_left hml,List.getElem?_eq_getElem hml,hm]
  ·cases ht:y.n.top with
   | true=>rw [ht] at q; cases q
   | false =>
    rw [ht] at q
    have hxr:x = y.n.right:=by simpa using q
    have hr:=(htop y.n (hseat y hym)).2 ht
    rcases zlq hlink hy with w | ⟨z,z1,z2⟩
    ·omega
    ·exact ⟨i + 1,by omega,by rw [List.getElem?_map,z1,hxr,z2]; rfl⟩
theorem Bel.pos {l:List Nd} {S:List Seat} (h:TreeLaw l S) {a b:Int} (hb:Bel l a b):∀ {i:Nat},(S.map Seat.sl)[i]? = some a->∃ j,i < j∧(S.map Seat.sl)[j]? = some b:=by
 induction hb with
 | one hb=>exact fun {i} hi=>h.pos i _ _ hi hb
 | more _ hb ih =>
  intro i hi
  obtain ⟨j,h1,h2⟩:=ih hi
  obtain ⟨j',h3,h4⟩:=h.pos j _ _ h2 hb
  exact ⟨j',by omega,h4⟩
theorem Bel.from {l:List Nd} {S:List Seat} (h:TreeLaw l S) {a b:Int} (hb:Bel l a b):a ∈ S.map Seat.sl:=by
 induction hb with
 | one hb =>
  unfold y2s at hb
  cases e:ndAt l a with
  | none=>rw [e] at hb; cases hb
  | some n =>
   have:=z0v h.lad.ord e
   exact h.all a this.2.2.1 this.2.2.2
 | more _ _ ih=>exact ih
end
section
open Go.RowKit
theorem y0y {l:List Nd} (h:z3y l) {x:Seat}:∀ (ks:List Int) (j:Nat),(z0p l x j ks).2 = true->∀ (i:Nat) (k:Int),ks[i]? = some k->∃ y,y ∈ (z0p l x j ks).1∧y.n.slot = k∧y.s = x.s.meet (z0y x.n.pivots (j + i))∧y.n.level = x.n.level - 1
 | [],j,_,i,k,e=>by simp at e
 | q :: ks,j,hk,i,k,e=>by
  rw [z0p] at hk ⊢
  by_cases c:(z28 l q).2 = true∧(z28 l q).1.level = x.n.level - 1
  ·rw [if_pos c] at hk ⊢
   cases i with
   | zero =>
    cases e
    refine ⟨zvd x j (z28 l q).1,List.mem_cons_self ..,?_,rfl,c.2⟩
    have e:=z6f h q
    cases en:ndAt l q with
    | none=>rw [en] at e; rw [e] at c; exact absurd c.1 (by decide)
    | some n =>
     rw [en] at e
     show (z28 l q).1.slot = q
     rw [e]
     exact (z0v h en).1
   | succ i =>
    obtain ⟨y,a,b,c1,d⟩:=y0y h ks (j + 1) hk i k (by simpa using e)
    refine ⟨y,List.mem_cons_of_mem _ a,b,?_,d⟩
    rw [c1,show j + 1 + i = j + (i + 1) by omega]
  ·rw [if_neg c] at hk; cases hk
def KidsIn (out:List Seat) (i:Nat):Prop:=∀ (m:Nat) (x:Seat),m < i->out[m]? = some x->x.n.level ≠ 0->∀ (j:Nat) (k:Int),x.n.kids[j]? = some k->∃ y,y ∈ out∧y.n.slot = k∧y.s = x.s.meet (z0y x.n.pivots j)∧y.n.level = x.n.level - 1
theorem z42 {l:List Nd} (h:z3y l):∀ (f:Nat) (out:List Seat) (i:Nat),l.length + 1≤i + f->i≤out.length->KidsIn out i->∀ S,z1a l f out i = (S,true)->S.length = l.length->KidsIn S S.length∧∀ y,y ∈ out->y ∈ S
 | 0,out,i,hf,hi,h1,S,e,hl=>by
  rw [z1a] at e
  cases e
  omega
 | f + 1,out,i,hf,hi,h1,S,e,hl=>by
  rw [z1a] at e
  cases hx:out[i]? with
  | none =>
   rw [hx] at e
   cases e
   have:=List.getElem?_eq_none_iff.1 hx
   have e2:i = out.length:=by omega
   subst e2
   exact ⟨h1,fun y hy=>hy⟩
  | some x =>
   rw [hx] at e
   have hlt:=(List.getElem?_eq_some_iff.1 hx).1
   dsimp only at e
   by_cases q1:l.length < out.length
   ·rw [if_pos q1] at e; cases e
   rw [if_neg q1] at e
   by_cases q2:x.n.level = 0
   ·rw [if_pos q2] at e
    refine z42 h f out (i + 1) (by omega) hlt (fun m z hm hz hz0=>?_) S e hl
    rcases Nat.lt_or_ge m i with q | q
    ·exact h1 m z q hz hz0
    ·have:m = i:=by omega
     subst this
     rw [hx] at hz
     cases hz
     exact absurd q2 hz0
   rw [if_neg q2] at e
   by_cases q3:x.n.level < 0∨z60 x.n.pivots x.n.kids = false
   ·rw [if_pos q3] at e; cases e
   rw [if_neg q3] at e
   by_cases q4:(z0p l x 0 x.n.kids).2 = true
   case neg=>rw [if_neg q4] at e; cases e
   rw [if_pos q4] at e
   have ha:=y0y h x.n.kids 0 q4
   obtain ⟨g1,g2⟩:=z42 h f (out ++ (z0p l x 0 x.n.kids).1) (i + 1) (by omega) (by rw [List.length_append]; omega) (fun m z hm hz hz0 j k hk=>by
    rw [List.getElem?_append_left (by omega)] at hz
    rcases Nat.lt_or_ge m i with q | q
    ·obtain ⟨y,a,b⟩:=h1 m z q hz hz0 j k hk
     exact ⟨y,List.mem_append_left _ a,b⟩
    ·have:m = i:=by omega
     subst this
     rw [hx] at hz
     cases hz
     obtain ⟨y,a,b,c,d⟩:=ha j k hk
     rw [Nat.zero_add] at c
     exact ⟨y,List.mem_append_right _ a,b,c,d⟩) S e hl
   exact ⟨g1,fun y hy=>g2 y (List.mem_append_left _ hy)⟩
theorem seats_law {c:Cfg} {l:List Nd} {most:Int} (hm:most≤200) (h:z5j c l most = true):Seats l (z1l l 0).1∧∃ x,x ∈ (z1l l 0).1∧x.n.slot = 0∧x.s = ⟨nul0,nul0,true⟩:=by
 have TL:=y6f hm h
 unfold z5j at h
 rw [Bool.and_eq_true,Bool.and_eq_true,Bool.and_eq_true,Bool.and_eq_true] at h
 obtain ⟨⟨⟨⟨_,hne⟩,hL⟩,hq⟩,hS⟩:=h
 have hord:z3y l:=fun j n e=>by have:=zfa l 0 hq j n e; rw [this]; omega
 unfold ze3 at hS
 rw [Bool.and_eq_true,Bool.and_eq_true,Bool.and_eq_true,Bool.and_eq_true,List.all_eq_true] at hS
 obtain ⟨⟨⟨⟨hok,honce⟩,hlink⟩,_⟩,hst⟩:=hS
 unfold y3e at honce
 rw [Bool.and_eq_true,decide_eq_true_eq,List.all_eq_true] at honce
 obtain ⟨hl1,hcnt⟩:=honce
 generalize hSd:(z1l l 0).1 = S at *
 have hgo:∃ r,z28 l 0 = (r,true)∧ndAt l 0 = some r∧z1a l (l.length + 1) [⟨r,⟨nul0,nul0,true⟩,[]⟩] 0 = (S,true):=by
  unfold z1l at hok hSd
  have e:=z6f hord 0
  cases en:ndAt l 0 with
  | none =>
   rw [en] at e
   rw [e] at hok
   have hf:¬ ((Option.map (fun n:Nd=>(n,true)) none).getD (Nd.zero,false)).2 = true:=Bool.false_ne_true
   rw [if_neg hf] at hok
   cases hok
  | some r =>
   rw [en] at e
   have e':z28 l 0 = (r,true):=e
   rw [e'] at hok hSd
   rw [if_pos rfl] at hok hSd
   exact ⟨r,e',rfl,Prod.ext hSd hok⟩
 obtain ⟨r,_,er,hgo⟩:=hgo
 have hr0:=(z0v hord er).1
 obtain ⟨b1,b2,b3⟩:=z3q hord (l.length + 1) [⟨r,⟨nul0,nul0,true⟩,[]⟩] 0 (by omega) (Nat.zero_le _) (by show [r.slot] = [0]; rw [hr0]) (fun j hj=>absurd hj (by omega))
  (fun y hy=>by
   have:y = ⟨r,⟨nul0,nul0,true⟩,[]⟩:=by simpa using hy
   rw [this]
   show ndAt l r.slot = some r
   rw [hr0]; exact er) S hgo hl1.symm
 obtain ⟨g1,g2⟩:=z42 hord (l.length + 1) [⟨r,⟨nul0,nul0,true⟩,[]⟩] 0 (by omega) (Nat.zero_le _) (fun m x hm=>absurd hm (by omega)) S hgo hl1.symm
 have hseat:∀ x,x ∈ S->ndB c x.n = true:=fun x hx=>by
  have:=hst x hx
  unfold stB at this
  rw [Bool.and_eq_true,Bool.and_eq_true,Bool.and_eq_true] at this
  exact this.1.1.1
 have hlev:∀ x,x ∈ S->0≤x.n.level:=fun x hx=>by
  have hn:=hseat x hx
  unfold ndB at hn
  simp only [Bool.and_eq_true,decide_eq_true_eq] at hn
  exact hn.1.1.1.2
 have hleaf:∀ x,x ∈ S->x.n.level = 0->x.n.kids = []:=fun x hx h0=>by
  have hn:=hseat x hx
  unfold ndB at hn
  rw [Bool.and_eq_true,if_pos h0] at hn
  have:=hn.2
  unfold y3r at this
  rw [Bool.and_eq_true,Bool.and_eq_true,Bool.and_eq_true,decide_eq_true_eq] at this
  exact List.length_eq_zero_iff.1 (by omega)
 have hk:∀ T:List Seat,(∀ x,x ∈ T->x ∈ S)->T.flatMap (fun x=>x.n.kids) = T.flatMap z5y:=by
  intro T
  induction T with
  | nil=>intro _; rfl
  | cons x T ih =>
   intro hT
   rw [List.flatMap_cons,List.flatMap_cons,ih fun y hy=>hT y (List.mem_cons_of_mem _ hy)]
   congr 1
   unfold z5y
   by_cases h0:x.n.level = 0
   ·rw [if_pos h0]; exact hleaf x (hT x (List.mem_cons_self ..)) h0
   ·rw [if_neg h0]
 have hdup:(S.map fun x=>x.n.slot).Nodup:=TL.ords.dup
 refine ⟨⟨hdup,b3,fun x hx j k e=>?_,hlev,?_⟩,⟨r,⟨nul0,nul0,true⟩,[]⟩,g2 _ (List.mem_singleton.2 rfl),hr0,rfl⟩
 ·have h0:x.n.level ≠ 0:=fun q=>by rw [hleaf x hx q] at e; simp at e
  obtain ⟨m,hm⟩:=List.mem_iff_getElem?.1 hx
  have:=hlev x hx
  exact ⟨by omega,g1 m x (List.getElem?_eq_some_iff.1 hm).1 hm h0 j k e⟩
 ·rw [hk S fun x hx=>hx]
  have e:(S.map Seat.sl).Nodup:=hdup
  rw [b1] at e
  exact (List.nodup_cons.1 e).2
end
section
open Go.RowKit
theorem zfi {l:List Nd} {S R:List Seat} {r:Seat} (h:Seats l S) (hS:S = r :: R) (hb:S.map Seat.sl = 0 :: S.flatMap fun x=>x.n.kids) (hF:y69 S) (hk:∀ x,x ∈ S->0 < x.n.level->x.n.kids ≠ []) :
  ∀ m:Nat,(m:Int)≤r.n.level->∃ A x B,S = A ++ x :: B∧(∀ a,a ∈ A->r.n.level - m < a.n.level)∧x.n.level = r.n.level - m∧x.n = z4e l m r.n
 | 0,_=>⟨[],r,R,hS,fun a ha=>(by cases ha),by omega,rfl⟩
 | m + 1,hm=>by
  obtain ⟨A,x,B,e,hA,hx,hxn⟩:=zfi h hS hb hF hk m (by omega)
  have hxm:x ∈ S:=by rw [e]; simp
  have hx0:0 < x.n.level:=by omega
  cases hks:x.n.kids with
  | nil=>exact absurd hks (hk x hxm hx0)
  | cons k rest =>
   have hb':=hb
   rw [hS,List.map_cons,← hS] at hb'
   have hb2:=(List.cons.inj hb').2
   have hfm:(S.flatMap fun x=>x.n.kids) = A.flatMap (fun x=>x.n.kids) ++ (k :: (rest ++ B.flatMap fun x=>x.n.kids)):=by
    rw [e,List.flatMap_append,List.flatMap_cons,hks]; rfl
   rw [hfm] at hb2
   obtain ⟨A2,T2,eR,eA,eT⟩:=List.map_eq_append_iff.1 hb2
   obtain ⟨y,B2,eT2,ey,_⟩:=List.map_eq_cons_iff.1 eT
   have hlow:∀ a,a ∈ A2->r.n.level - (m + 1:Nat) < a.n.level:=fun a ha=>by
    have hs:Seat.sl a ∈ A.flatMap (fun x=>x.n.kids):=by rw [← eA]; exact List.mem_map.2 ⟨a,ha,rfl⟩
    obtain ⟨b,hb1,hb3⟩:=List.mem_flatMap.1 hs
    obtain ⟨_,z,hz,z1,z2⟩:=h.kidm (x:=b) (by rw [e]; exact List.mem_append_left _ hb1) hb3
    have haS:a ∈ S:=by rw [hS,eR]; exact List.mem_cons_of_mem _ (List.mem_append_left _ ha)
    have e1:=z1o h.nd haS
    have e2:=z1o h.nd hz
    have e3:z.n.slot = a.n.slot:=z1
    rw [e3,e1] at e2
    have e4:=Option.some.inj e2
    have:=hA b hb1
    rw [e4]; omega
   have hyS:y ∈ S:=by rw [hS,eR,eT2]; simp
   obtain ⟨_,z,hz,z1,z2⟩:=h.kidm hxm (k:=k) (by rw [hks]; exact List.mem_cons_self ..)
   have e4:y = z:=by
    have e1:=z1o h.nd hyS
    have e2:=z1o h.nd hz
    have e3:z.n.slot = y.n.slot:=by rw [z1]; exact ey.symm
    rw [e3,e1] at e2
    exact Option.some.inj e2
   refine ⟨r :: A2,y,B2,by rw [hS,eR,eT2]; rfl,fun a ha=>?_,by rw [e4]; omega,?_⟩
   ·rcases List.mem_cons.1 ha with rfl | ha
    ·omega
    ·exact hlow a ha
   ·rw [zte,← hxn]
    unfold stepL
    rw [hks]
    simp only
    have hy:=h.node y hyS
    have e3:y.n.slot = k:=ey
    rw [e3] at hy
    rw [hy]; rfl
end
section
open Go.RowKit
structure Whole (l:List Nd) (S:List Seat):Prop where
 seats:Seats l S
 root:∃ r R,S = r :: R∧r.n.slot = 0∧r.s = ⟨nul0,nul0,true⟩∧ndAt l 0 = some r.n
 linked:z21 S = true
 falls:y69 S
 bfs:S.map Seat.sl = 0 :: S.flatMap fun x=>x.n.kids
 kids:∀ x,x ∈ S->0 < x.n.level->x.n.kids ≠ []
 len:S.length = l.length
 ord:z3y l
 few:l.length≤200
 piv:∀ x,x ∈ S->0 < x.n.level->x.n.kids.length = x.n.pivots.length + 1
theorem zvr {c:Cfg} {l:List Nd} {most:Int} (hm:most≤200) (h:z5j c l most = true):Whole l (z1l l 0).1:=by
 obtain ⟨hse,x0,hx0,hx1,hx2⟩:=seats_law hm h
 have TL:=y6f hm h
 unfold z5j at h
 rw [Bool.and_eq_true,Bool.and_eq_true,Bool.and_eq_true,Bool.and_eq_true] at h
 obtain ⟨⟨⟨⟨_,hne⟩,hL⟩,hq⟩,hS⟩:=h
 have hord:z3y l:=fun j n e=>by have:=zfa l 0 hq j n e; rw [this]; omega
 unfold ze3 at hS
 rw [Bool.and_eq_true,Bool.and_eq_true,Bool.and_eq_true,Bool.and_eq_true,List.all_eq_true] at hS
 obtain ⟨⟨⟨⟨hok,honce⟩,hlink⟩,_⟩,hst⟩:=hS
 unfold y3e at honce
 rw [Bool.and_eq_true,decide_eq_true_eq,List.all_eq_true] at honce
 obtain ⟨hl1,hcnt⟩:=honce
 generalize hSd:(z1l l 0).1 = S at *
 have hgo:∃ r,z28 l 0 = (r,true)∧ndAt l 0 = some r∧z1a l (l.length + 1) [⟨r,⟨nul0,nul0,true⟩,[]⟩] 0 = (S,true):=by
  unfold z1l at hok hSd
  have e:=z6f hord 0
  cases en:ndAt l 0 with
  | none =>
   rw [en] at e
   rw [e] at hok
   have hf:¬ ((Option.map (fun n:Nd=>(n,true)) none).getD (Nd.zero,false)).2 = true:=Bool.false_ne_true
   rw [if_neg hf] at hok
   cases hok
  | some r =>
   rw [en] at e
   have e':z28 l 0 = (r,true):=e
   rw [e'] at hok hSd
   rw [if_pos rfl] at hok hSd
   exact ⟨r,e',rfl,Prod.ext hSd hok⟩
 obtain ⟨r,_,er,hgo⟩:=hgo
 have hr0:=(z0v hord er).1
 obtain ⟨b1,b2,b3⟩:=z3q hord (l.length + 1) [⟨r,⟨nul0,nul0,true⟩,[]⟩] 0 (by omega) (Nat.zero_le _) (by show [r.slot] = [0]; rw [hr0]) (fun j hj=>absurd hj (by omega))
  (fun y hy=>by
   have:y = ⟨r,⟨nul0,nul0,true⟩,[]⟩:=by simpa using hy
   rw [this]
   show ndAt l r.slot = some r
   rw [hr0]; exact er) S hgo hl1.symm
 obtain ⟨g1,g2⟩:=z42 hord (l.length + 1) [⟨r,⟨nul0,nul0,true⟩,[]⟩] 0 (by omega) (Nat.zero_le _) (fun m x hm=>absurd hm (by omega)) S hgo hl1.symm
 have hroot:∃ z R,S = z :: R∧z.n.slot = 0:=by
  cases S with
  | nil=>simp at b1
  | cons z R =>
   rw [List.map_cons] at b1
   exact ⟨z,R,rfl,(List.cons.inj b1).1⟩
 obtain ⟨z,R,hSz,hz⟩:=hroot
 have hzS:z ∈ S:=by rw [hSz]; exact List.mem_cons_self ..
 have ezx:z = x0:=by
  have e1:=z1o hse.nd hzS
  have e2:=z1o hse.nd hx0
  rw [hx1] at e2
  rw [hz,e2] at e1
  exact (Option.some.inj e1).symm
 have hseat:∀ x,x ∈ S->ndB c x.n = true:=fun x hx=>by
  have:=hst x hx
  unfold stB at this
  rw [Bool.and_eq_true,Bool.and_eq_true,Bool.and_eq_true] at this
  exact this.1.1.1
 have hkids:∀ x,x ∈ S->0 < x.n.level->x.n.kids ≠ []:=fun x hx h0 e=>by
  have hn:=hseat x hx
  unfold ndB at hn
  rw [Bool.and_eq_true,if_neg (by omega)] at hn
  have:=hn.2
  unfold ztp at this
  simp only [Bool.and_eq_true,decide_eq_true_eq] at this
  rw [e] at this
  simp at this
 have hpiv:∀ x,x ∈ S->0 < x.n.level->x.n.kids.length = x.n.pivots.length + 1:=fun x hx h0=>by
  have hn:=hseat x hx
  unfold ndB at hn
  rw [Bool.and_eq_true,if_neg (by omega)] at hn
  have:=hn.2
  unfold ztp z60 at this
  simp only [Bool.and_eq_true,decide_eq_true_eq] at this
  exact this.1.1.1.2.2
 have hleaf:∀ x,x ∈ S->x.n.level = 0->x.n.kids = []:=fun x hx h0=>by
  have hn:=hseat x hx
  unfold ndB at hn
  rw [Bool.and_eq_true,if_pos h0] at hn
  have:=hn.2
  unfold y3r at this
  rw [Bool.and_eq_true,Bool.and_eq_true,Bool.and_eq_true,decide_eq_true_eq] at this
  exact List.length_eq_zero_iff.1 (by omega)
 have hk:∀ T:List Seat,(∀ x,x ∈ T->x ∈ S)->T.flatMap (fun x=>x.n.kids) = T.flatMap z5y:=by
  intro T
  induction T with
  | nil=>intro _; rfl
  | cons x T ih =>
   intro hT
   rw [List.flatMap_cons,List.flatMap_cons,ih fun y hy=>hT y (List.mem_cons_of_mem _ hy)]
   congr 1
   unfold z5y
   by_cases h0:x.n.level = 0
   ·rw [if_pos h0]; exact hleaf x (hT x (List.mem_cons_self ..)) h0
   ·rw [if_neg h0]
 have hfall:y69 S:=z4x (l.length + 1) [⟨r,⟨nul0,nul0,true⟩,[]⟩] 0 (List.pairwise_singleton _ _) (fun x y hx hy=>by
  rw [List.mem_singleton.1 hy]
  cases hx
  show r.level - 1≤r.level
  omega) S hgo
 refine ⟨hse,⟨z,R,hSz,hz,by rw [ezx]; exact hx2,?_⟩,hlink,hfall,by rw [hk S fun x hx=>hx]; exact b1,hkids,hl1.symm,hord,TL.lad.len,hpiv⟩
 have:=hse.node z hzS
 rw [hz] at this
 exact this
def z2n (l:List Nd) (r:Nd) (level:Int):List Nd :=
 if (z4e l (r.level - lowL level).toNat r).level = level then z6j l level l.length (z4e l (r.level - lowL level).toNat r) else []
theorem chain_law {l:List Nd} {S:List Seat} (W:Whole l S) (level:Int) {r:Nd} (hr:ndAt l 0 = some r):z2n l r level = (S.filter fun y=>decide (y.n.level = level)).map fun y=>y.n:=by
 obtain ⟨z,R,hS,hz,_,hz2⟩:=W.root
 have ezr:z.n = r:=by rw [hr] at hz2; exact (Option.some.inj hz2).symm
 have hzS:z ∈ S:=by rw [hS]; exact List.mem_cons_self ..
 have hz0:=W.seats.lev z hzS
 have hall:∀ x,x ∈ S->0≤x.n.level∧x.n.level≤r.level:=fun x hx=>by
  refine ⟨W.seats.lev x hx,?_⟩
  have hF:=W.falls
  rw [hS] at hF hx
  rcases List.mem_cons.1 hx with rfl | hx
  ·rw [ezr]; exact Int.le_refl _
  ·rw [← ezr]; exact (List.pairwise_cons.1 hF).1 x hx
 rw [ezr] at hz0
 unfold z2n
 by_cases hin:0≤level∧level≤r.level
 ·have hlow:lowL level = level:=by unfold lowL; rw [if_neg (by omega)]
  rw [hlow]
  obtain ⟨A,x,B,e,hA,hx,hxn⟩:=zfi W.seats hS W.bfs W.falls W.kids (r.level - level).toNat (by rw [ezr]; omega)
  rw [ezr] at hA hx hxn
  have hxl:x.n.level = level:=by omega
  rw [← hxn,if_pos hxl]
  have hB:z21 (x :: B) = true:=by
   have hl:=W.linked
   rw [e] at hl
   clear e hA
   induction A with
   | nil=>exact hl
   | cons a A ih =>
    rw [List.cons_append,z21,Bool.and_eq_true] at hl
    exact ih hl.2
  have hFB:y69 (x :: B):=by
   have hF:=W.falls
   rw [e] at hF
   exact (List.pairwise_append.1 hF).2.1
  have hlen:B.length + 1≤l.length:=by
   have:=W.len
   rw [e,List.length_append,List.length_cons] at this
   omega
  rw [y9f B l.length x hlen hB hFB (fun y hy=>W.seats.node y (by rw [e]; exact List.mem_append_right _ hy)) hxl,e,List.filter_append,List.map_append]
  have:A.filter (fun y=>decide (y.n.level = level)) = []:=List.filter_eq_nil_iff.2 fun a ha=>by
   have:=hA a ha
   simp only [decide_eq_true_eq]; omega
  rw [this]; rfl
 ·have hf:S.filter (fun y=>decide (y.n.level = level)) = []:=List.filter_eq_nil_iff.2 fun a ha=>by
   have:=hall a ha
   simp only [decide_eq_true_eq]; omega
  rw [hf,List.map_nil]
  refine if_neg fun q=>hin ?_
  obtain ⟨A,x,B,e,hA,hx,hxn⟩:=zfi W.seats hS W.bfs W.falls W.kids (r.level - lowL level).toNat (by rw [ezr]; unfold lowL; split <;> omega)
  rw [ezr] at hxn
  have:=hall x (by rw [e]; simp)
  rw [hxn,q] at this
  exact this
end
section
open Go.RowKit Go.Shelf
attribute [local go_sem] Oper.semAt_some
theorem nodes_in (F:Fence) (n:Nat) (h5:F.fn 58) (hro:F.round = none) (A:Option Addr) (len cap:Nat) (level:Int) (w:World) :
  CallsIn F n Tryd.prog 58 #[.slice A len cap,.int .i64 level] w fun e w'=>e = .returned (.func (.func 71) #[] #[.pointer (some ⟨w.heap.size,0,none⟩),.pointer (some ⟨w.heap.size + 1,0,none⟩)])∧w' = (w.alloc (.cells #[.slice A len cap] 31)).alloc (.cells #[.int .i64 level] 3):=by
 refine callsIn_of_wp Tryd.func58 rfl h5 ?_ hro
 simp only [Tryd.ntmps58,List.size_toArray,List.length_cons,List.length_nil,Nat.reduceAdd,Nat.reduceSub,Array.replicate_succ,Array.replicate_zero,List.push_toArray,List.append_toArray,List.nil_append,List.cons_append]
 gi_wp2
 go_ret
 exact ⟨rfl,rfl⟩
end
section
open Go.RowKit
attribute [local go_sem ↓] z1m z0h
def zj4:Reg:=⟨[],[⟨.mv (.c (.str ⟨#[]⟩)),some 4,none,[],[]⟩],[],[],false⟩
def zj3:List XOp:=[(.mkmap 13 71),(.op [] ⟨.mv (.t 13),some 5,none,[],[]⟩)]
def z7m:List ROp:=[⟨.mv (.t 0),some 14,none,[],[]⟩,⟨.len false (.t 14),some 15,none,[],[]⟩,⟨.mv (.c (.int .i64 0)),some 16,none,[],[]⟩]
def zj2:Reg:=⟨[],z7m,[],[],false⟩
def zj1:Reg:=⟨[],[⟨.bin .lss (.t 16) (.t 15),some 17,none,[],[]⟩],[],[],false⟩
def z7l:List ROp:=[⟨.iaddr 10 (.t 14) (.t 16),some 18,none,[7],[]⟩,⟨.load 10 true (.t 18),some 19,none,[7],[]⟩,⟨.alloc 10 27 (.agg [(.int .i64 0),(.int .i64 0),(.sl []),(.sl []),(.str ⟨#[]⟩),(.bool false),(.int .i64 0),(.int .i64 0),(.sl []),(.sl [])]),some 7,none,[],[]⟩,⟨.store 10 (.t 7) (.t 19),none,none,[],[]⟩]
def zj0:Reg:=⟨[],z7l,[7],[],false⟩
def ziz:List XOp:=[(.op [] ⟨.mv (.t 5),some 20,none,[],[]⟩),(.op [] ⟨.faddr 0 (.t 7),some 21,none,[],[]⟩),(.op [] ⟨.load 1 false (.t 21),some 22,none,[],[]⟩),(.op [] ⟨.load 10 true (.t 7),some 23,none,[],[]⟩),(.mupd (.t 20) (.t 22) (.t 23))]
def ziy:Reg:=⟨[],[⟨.bin .add (.t 16) (.c (.int .i64 1)),some 24,none,[],[]⟩,⟨.mv (.t 24),some 16,none,[],[]⟩],[],[],false⟩
def ze6 (P:Program):IR:=(.seq (.reg zj1)
 (.seq (.cond (.t 17) .skip
 (.exit 0))
 (.seq (.block 1 (.seq (.reg zj0)
 (.regx P ziz)))
 (.reg ziy))))
def zix:Reg:=⟨[],[⟨.mknil 1 9,some 8,none,[],[]⟩],[8],[],false⟩
def z7k:List ROp:=[⟨.mv (.t 0),some 25,none,[27],[]⟩,⟨.mv (.t 1),some 26,none,[27],[]⟩,⟨.callv (.c (.clo 37 [] [])) [(.t 25),(.t 26)],some 27,none,[],[]⟩,⟨.len false (.t 27),some 28,none,[],[]⟩,⟨.mv (.c (.int .i64 0)),some 29,none,[],[]⟩]
def ziw:Reg:=⟨[],z7k,[27],[],false⟩
def zef:Reg:=⟨[],[⟨.bin .lss (.t 29) (.t 28),some 30,none,[],[]⟩],[],[],false⟩
def z5p:List ROp:=[⟨.iaddr 1 (.t 27) (.t 29),some 31,none,[],[]⟩,⟨.load 1 false (.t 31),some 32,none,[],[]⟩,⟨.mv (.t 32),some 10,none,[],[]⟩]
def zee:Reg:=⟨[],z5p,[],[],false⟩
def zed:List XOp:=[(.op [] ⟨.mv (.t 5),some 33,none,[],[]⟩),(.op [] ⟨.mv (.t 10),some 34,none,[],[]⟩),(.mlook 35 false (.t 33) (.t 34) (.agg [(.int .i64 0),(.int .i64 0),(.sl []),(.sl []),(.str ⟨#[]⟩),(.bool false),(.int .i64 0),(.int .i64 0),(.sl []),(.sl [])]) none),(.op [11] ⟨.alloc 10 27 (.agg [(.int .i64 0),(.int .i64 0),(.sl []),(.sl []),(.str ⟨#[]⟩),(.bool false),(.int .i64 0),(.int .i64 0),(.sl []),(.sl [])]),some 11,none,[],[]⟩),(.op [] ⟨.store 10 (.t 11) (.t 35),none,none,[],[]⟩)]
def zec:Reg:=⟨[],[⟨.mv (.c (.str ⟨#[42]⟩)),some 12,none,[],[]⟩],[],[],false⟩
def z5o:List ROp:=[⟨.faddr 5 (.t 11),some 36,none,[],[]⟩,⟨.load 1 false (.t 36),some 37,none,[],[]⟩,⟨.un .not (.t 37),some 38,none,[],[]⟩]
def zeb:Reg:=⟨[],z5o,[],[],false⟩
def z5n:List ROp:=[⟨.faddr 4 (.t 11),some 39,none,[41],[]⟩,⟨.load 1 false (.t 39),some 40,none,[41],[]⟩,⟨.callv (.c (.clo 24 [] [])) [(.t 40)],some 41,none,[],[]⟩,⟨.mv (.t 41),some 12,none,[],[]⟩]
def zea:Reg:=⟨[],z5n,[41],[],false⟩
def z5m:List ROp:=[⟨.mv (.t 8),some 42,none,[44,48],[]⟩,⟨.mv (.t 10),some 43,none,[44,48],[]⟩,⟨.callv (.c (.clo 22 [] [])) [(.t 43)],some 44,none,[48],[]⟩,⟨.bin .add (.t 44) (.c (.str ⟨#[58]⟩)),some 45,none,[48],[]⟩,⟨.mv (.t 12),some 46,none,[48],[]⟩,⟨.bin .add (.t 45) (.t 46),some 47,none,[48],[]⟩,⟨.bsl 1 9 [(.t 47)],some 48,none,[],[]⟩,⟨.append 1 9 16 (.t 42) (.t 48),some 49,none,[],[]⟩,⟨.mv (.t 49),some 8,none,[],[]⟩]
def ze9:Reg:=⟨[],z5m,[44,48],[],false⟩
def ze8:Reg:=⟨[],[⟨.bin .add (.t 29) (.c (.int .i64 1)),some 50,none,[],[]⟩,⟨.mv (.t 50),some 29,none,[],[]⟩],[],[],false⟩
def z9i (P:Program):IR:=(.seq (.reg zef)
 (.seq (.cond (.t 30) .skip
 (.exit 2))
 (.seq (.block 3 (.seq (.reg zee)
 (.seq (.regx P zed)
 (.seq (.reg zec)
 (.seq (.seq (.reg zeb)
 (.cond (.t 38) (.reg zea)
 .skip))
 (.reg ze9))))))
 (.reg ze8))))
def z5l:List ROp:=[⟨.mv (.t 8),some 51,none,[52],[]⟩,⟨.callv (.c (.clo 25 [] [])) [(.t 51),(.c (.str ⟨#[32]⟩))],some 52,none,[],[]⟩,⟨.mv (.t 52),some 4,none,[],[]⟩]
def ze7:Reg:=⟨[],z5l,[52],[],false⟩
def zti (P:Program):IR:=(.seq (.reg zj4)
 (.seq (.regx P zj3)
 (.seq (.seq (.reg zj2)
 (.block 0 (.loop (ze6 P))))
 (.seq (.reg zix)
 (.seq (.seq (.reg ziw)
 (.block 2 (.loop (z9i P))))
 (.seq (.reg ze7)
 .ret))))))
def zi7:List RDesc:=[(.tmp 4)]
theorem y4i:EqR zj4 [⟨.mv (.c (.str ⟨#[]⟩)),some 4,none,[],[]⟩] []:=fun _ _ _=>rfl
theorem y4h:EqR zj2 z7m []:=fun _ _ _=>rfl
theorem y4g:EqR zj1 [⟨.bin .lss (.t 16) (.t 15),some 17,none,[],[]⟩] []:=fun _ _ _=>rfl
theorem y4f:EqR zj0 z7l [7]:=fun _ _ _=>rfl
theorem y4e:EqR ziy [⟨.bin .add (.t 16) (.c (.int .i64 1)),some 24,none,[],[]⟩,⟨.mv (.t 24),some 16,none,[],[]⟩] []:=fun _ _ _=>rfl
theorem y4d:EqR zix [⟨.mknil 1 9,some 8,none,[],[]⟩] [8]:=fun _ _ _=>rfl
theorem y4c:EqR ziw z7k [27]:=fun _ _ _=>rfl
theorem y1y:EqR zef [⟨.bin .lss (.t 29) (.t 28),some 30,none,[],[]⟩] []:=fun _ _ _=>rfl
theorem y1x:EqR zee z5p []:=fun _ _ _=>rfl
theorem y1w:EqR zec [⟨.mv (.c (.str ⟨#[42]⟩)),some 12,none,[],[]⟩] []:=fun _ _ _=>rfl
theorem y1v:EqR zeb z5o []:=fun _ _ _=>rfl
theorem y1u:EqR zea z5n [41]:=fun _ _ _=>rfl
theorem y1t:EqR ze9 z5m [44,48]:=fun _ _ _=>rfl
theorem y1s:EqR ze8 [⟨.bin .add (.t 29) (.c (.int .i64 1)),some 50,none,[],[]⟩,⟨.mv (.t 50),some 29,none,[],[]⟩] []:=fun _ _ _=>rfl
theorem y1r:EqR ze7 z5l [52]:=fun _ _ _=>rfl
theorem fn_shLevel {args:List AV} {r:AV} (ha:args.length.ble Tryd.f17.ntmps = true) (h:run (AFn Tryd.prog) (zti Tryd.prog) (endQ zi7 r) (z0a args)):AFn Tryd.prog 17 args r :=
 AFn.of_code (pv:=false) (hint:=fun _=>[]) (c:=Tryd.f17.body.getD .skip) (by kernel_rfl) (by kernel_rfl) Tryd.func17 (by kernel_rfl) (by kernel_rfl) (by kernel_rfl) (of_decide_eq_true (by kernel_rfl)) (Nat.le_of_ble_eq_true ha) (Nat.le_of_ble_eq_true (by kernel_rfl)) (z0b h)
attribute [local go_sem ↓] zti
attribute [local go_sem] zi7 y4i y4h z7m y4g y4f z7l y4e y4d y4c z7k y1y y1x z5p y1w y1v z5o y1u z5n y1t z5m y1s y1r z5l zj3 ziz zed
def endW (n:Nd):ByteArray:=if n.top then (⟨#[42]⟩:ByteArray) else z1e n.high
def levW (n:Nd):ByteArray:=decS n.slot ++ (⟨#[58]⟩:ByteArray) ++ endW n
theorem y0v (n:Nd) (h0:-9223372036854775808≤n.slot∧n.slot≤9223372036854775807) (h:n.high.size≤2000):(levW n).size≤6100:=by
 have a:=z13 n.slot h0.1 h0.2
 have b:=z0k n.high
 have e1:(⟨#[58]⟩:ByteArray).size = 1:=rfl
 have e2:(⟨#[42]⟩:ByteArray).size = 1:=rfl
 unfold levW endW
 split <;> simp only [ByteArray.size_append,e1,e2] <;> omega
def lvInv (l:List Nd) (level:Int) (k:Nat) (σ:St):Prop :=
 ∃ j:Nat,j≤l.length∧k = l.length - j∧σ.T 0 = .sl (l.map Nd.a)∧σ.T 1 = .int .i64 level∧σ.T 5 = .mp 13 (z1p (l.take j))∧σ.H 13 = some ⟨1,71,[],0⟩∧σ.T 14 = .sl (l.map Nd.a)∧σ.T 15 = .int .i64 l.length∧σ.T 16 = .int .i64 j
def lwInv (l:List Nd) (q:List Nd) (k:Nat) (σ:St):Prop :=
 ∃ j:Nat,j≤q.length∧k = q.length - j∧σ.T 5 = .mp 13 (z1p l)∧σ.H 13 = some ⟨1,71,[],0⟩∧σ.T 27 = .rs 27 0 q.length∧σ.H 27 = some ⟨1,3,(q.map fun n=>n.slot).map (AV.int .i64),0⟩∧σ.T 28 = .int .i64 q.length∧σ.T 29 = .int .i64 j∧σ.T 8 = .rs 8 0 j∧σ.H 8 = some ⟨1,9,((q.take j).map levW).map .str,0⟩
set_option maxHeartbeats 4000000 in
theorem y8e (l:List Nd) (h:z3y l) (hl:l.length≤200) (level:Int) (q:List Nd) (hq:q.length≤200) (hm:∀ n,n ∈ q->ndAt l n.slot = some n∧(-9223372036854775808≤n.slot∧n.slot≤9223372036854775807)∧n.high.size≤2000)
  (cC:AFn Tryd.prog 37 [.sl (l.map Nd.a),.int .i64 level] (.own 1 3 ((q.map fun n=>n.slot).map (AV.int .i64)))) :
  AFn Tryd.prog 17 [.sl (l.map Nd.a),.int .i64 level] (.str (z8u (q.map levW) (⟨#[32]⟩:ByteArray))):=by
 refine fn_shLevel rfl ?_
 simp (maxSteps:=9^7) only [go_sem,↓reduceIte,reduceCtorEq,Nat.reduceEqDiff,Nat.reduceBEq,Nat.reduceAdd,Nat.reduceSub,Nat.reduceMul,Nat.reduceLT,Nat.reduceLeDiff,Nat.reduceBNe,Int.reduceBEq,Int.reduceBNe,Int.reduceLT,Int.reduceLE,Nd.a,Msg.a,Par.a,evM,z0l.eq_1,z0l.eq_2,ents.eq_1,ents.eq_2,kI.eq_1,mpOk.eq_1,mpR.eq_1,lkV.eq_1,lkV.eq_2,List.length_map]
 refine z08 (lvInv l level) (k:=l.length) ⟨0,by omega,rfl,?_,?_,?_,?_,?_,?_,?_⟩ ?_ <;> try (simp (maxSteps:=9^7) only [go_sem,↓reduceIte,reduceCtorEq,Nat.reduceEqDiff,Nat.reduceBEq,Nat.reduceAdd,Nat.reduceSub,Nat.reduceMul,Nat.reduceLT,Nat.reduceLeDiff,Nat.reduceBNe,Int.reduceBEq,Int.reduceBNe,Int.reduceLT,Int.reduceLE,Nd.a,Msg.a,Par.a,evM,z0l.eq_1,z0l.eq_2,ents.eq_1,ents.eq_2,kI.eq_1,mpOk.eq_1,mpR.eq_1,lkV.eq_1,lkV.eq_2,List.length_map])
 ·rfl
 ·rfl
 rintro k σ ⟨j,hj,rfl,t0,t1,t5,h13,t14,t15,t16⟩
 simp only [ze6]
 by_cases hlt:j < l.length
 ·have hlt':(j:Int) < (l.length:Int):=by omega
  obtain ⟨x,hx⟩:=z0f hlt
  have hgx:=z0j (f:=Nd.a) hx
  have hn:=znd h hx
  simp only [Nd.a] at hgx hn
  have hw:=z1j (j:=j) (by omega)
  simp (maxSteps:=9^7) only [go_sem,↓reduceIte,reduceCtorEq,Nat.reduceEqDiff,Nat.reduceBEq,Nat.reduceAdd,Nat.reduceSub,Nat.reduceMul,Nat.reduceLT,Nat.reduceLeDiff,Nat.reduceBNe,Int.reduceBEq,Int.reduceBNe,Int.reduceLT,Int.reduceLE,Nd.a,Msg.a,Par.a,evM,z0l.eq_1,z0l.eq_2,ents.eq_1,ents.eq_2,kI.eq_1,mpOk.eq_1,mpR.eq_1,lkV.eq_1,lkV.eq_2,t0,t1,t5,h13,t14,t15,t16,hlt',hgx,hw,hn,List.length_map,Int.toNat_natCast]
  (repeat refine And.intro (by omega) ?_)
  refine ⟨l.length - (j + 1),by omega,j + 1,by omega,rfl,?_,?_,?_,?_,?_,?_,?_⟩ <;> (simp (maxSteps:=9^7) only [go_sem,↓reduceIte,reduceCtorEq,Nat.reduceEqDiff,Nat.reduceBEq,Nat.reduceAdd,Nat.reduceSub,Nat.reduceMul,Nat.reduceLT,Nat.reduceLeDiff,Nat.reduceBNe,Int.reduceBEq,Int.reduceBNe,Int.reduceLT,Int.reduceLE,Nd.a,Msg.a,Par.a,evM,z0l.eq_1,z0l.eq_2,ents.eq_1,ents.eq_2,kI.eq_1,mpOk.eq_1,mpR.eq_1,lkV.eq_1,lkV.eq_2,t0,t1,t5,h13,t14,t15,t16,hw,hn])
 have hlt':¬ (j:Int) < (l.length:Int):=by omega
 rw [List.take_of_length_le (by omega)] at t5
 (repeat (first | simp (maxSteps:=9^7) only [go_sem,↓reduceIte,reduceCtorEq,Nat.reduceEqDiff,Nat.reduceBEq,Nat.reduceAdd,Nat.reduceSub,Nat.reduceMul,Nat.reduceLT,Nat.reduceLeDiff,Nat.reduceBNe,Int.reduceBEq,Int.reduceBNe,Int.reduceLT,Int.reduceLE,Nd.a,Msg.a,Par.a,evM,z0l.eq_1,z0l.eq_2,ents.eq_1,ents.eq_2,kI.eq_1,mpOk.eq_1,mpR.eq_1,lkV.eq_1,lkV.eq_2,t0,t1,t5,h13,t14,t15,t16,hlt',List.length_map] | refine z01 (cC) ?_ | refine z00 (cC) ?_ | refine And.intro (by omega) ?_ | refine And.intro (fun d hd=>by (repeat (rcases hd with rfl | hd; · exact ⟨rfl,rfl⟩)); cases hd) ?_))
 refine z08 (lwInv l q) (k:=q.length) ⟨0,by omega,rfl,?_,?_,?_,?_,?_,?_,?_,?_⟩ ?_ <;> try (simp (maxSteps:=9^7) only [go_sem,↓reduceIte,reduceCtorEq,Nat.reduceEqDiff,Nat.reduceBEq,Nat.reduceAdd,Nat.reduceSub,Nat.reduceMul,Nat.reduceLT,Nat.reduceLeDiff,Nat.reduceBNe,Int.reduceBEq,Int.reduceBNe,Int.reduceLT,Int.reduceLE,Nd.a,Msg.a,Par.a,evM,z0l.eq_1,z0l.eq_2,ents.eq_1,ents.eq_2,kI.eq_1,mpOk.eq_1,mpR.eq_1,lkV.eq_1,lkV.eq_2,t5,h13,List.length_map])
 ·rfl
 rintro k σ ⟨j,hj,rfl,t5,h13,t27,h27,t28,t29,t8,h8⟩
 simp only [z9i]
 have hjl:(((q.take j).map levW).map AV.str).length = j:=by rw [List.length_map,List.length_map,List.length_take]; omega
 have htk:(((q.take j).map levW).map AV.str).take j = ((q.take j).map levW).map AV.str:=List.take_of_length_le (by omega)
 by_cases hlt2:j < q.length
 ·have hlt2':(j:Int) < (q.length:Int):=by omega
  obtain ⟨x,hx⟩:=z0f hlt2
  have hgs:((q.map fun n=>n.slot).map (AV.int .i64)).getD j .und = AV.int .i64 x.slot:=by
   rw [List.getD_eq_getElem?_getD,List.getElem?_map,List.getElem?_map,hx]; rfl
  obtain ⟨m1,m2,m3⟩:=hm x (List.mem_of_getElem? hx)
  have hlk:lkp (z1p l) x.slot = some x.a:=by rw [zfe h x.slot,m1]; rfl
  simp only [Nd.a] at hlk
  have hw:=z1j (j:=j) (by omega)
  have c1:=y2a x.slot m2
  have c2:=zfb x.high (by omega)
  have q1:=z0k x.high
  have q2:=z13 x.slot m2.1 m2.2
  have hnx:((q.take j).map levW).map AV.str ++ [AV.str (levW x)] = ((q.take (j + 1)).map levW).map AV.str:=by rw [za3 hx]; simp
  have e1:(⟨#[58]⟩:ByteArray).size = 1:=rfl
  have e2:(⟨#[42]⟩:ByteArray).size = 1:=rfl
  cases ht:x.top with
  | true =>
   rw [ht] at hlk
   have ew:decS x.slot ++ (⟨#[58]⟩:ByteArray) ++ (⟨#[42]⟩:ByteArray) = levW x:=by unfold levW endW; rw [if_pos ht]
   (repeat (first | simp (maxSteps:=9^7) only [go_sem,↓reduceIte,reduceCtorEq,Nat.reduceEqDiff,Nat.reduceBEq,Nat.reduceAdd,Nat.reduceSub,Nat.reduceMul,Nat.reduceLT,Nat.reduceLeDiff,Nat.reduceBNe,Int.reduceBEq,Int.reduceBNe,Int.reduceLT,Int.reduceLE,Nd.a,Msg.a,Par.a,evM,z0l.eq_1,z0l.eq_2,ents.eq_1,ents.eq_2,kI.eq_1,mpOk.eq_1,mpR.eq_1,lkV.eq_1,lkV.eq_2,t5,h13,t27,h27,t28,t29,t8,h8,hlt2',hlt2,hgs,hlk,e1,e2,ByteArray.size_append,ew,htk,List.length_map,Int.toNat_natCast] | refine z01 (c1) ?_ | refine z00 (c1) ?_ | refine And.intro (by omega) ?_ | refine And.intro (fun d hd=>by (repeat (rcases hd with rfl | hd; · exact ⟨rfl,rfl⟩)); cases hd) ?_))
   refine ⟨⟨⟨by omega,by omega⟩,fun d hd=>by rcases hd with rfl | hd; exact ⟨rfl,rfl⟩; cases hd⟩,q.length - (j + 1),by omega,j + 1,by omega,rfl,?_,?_,?_,?_,?_,?_,?_,?_⟩ <;>
    (simp (maxSteps:=9^7) only [go_sem,↓reduceIte,reduceCtorEq,Nat.reduceEqDiff,Nat.reduceBEq,Nat.reduceAdd,Nat.reduceSub,Nat.reduceMul,Nat.reduceLT,Nat.reduceLeDiff,Nat.reduceBNe,Int.reduceBEq,Int.reduceBNe,Int.reduceLT,Int.reduceLE,Nd.a,Msg.a,Par.a,evM,z0l.eq_1,z0l.eq_2,ents.eq_1,ents.eq_2,kI.eq_1,mpOk.eq_1,mpR.eq_1,lkV.eq_1,lkV.eq_2,t5,h13,t27,h27,t28,t29,t8,h8,hw,htk,hnx])
  | false =>
   rw [ht] at hlk
   have ew:decS x.slot ++ (⟨#[58]⟩:ByteArray) ++ z1e x.high = levW x:=by unfold levW endW; rw [if_neg (by rw [ht]; decide)]
   (repeat (first | simp (maxSteps:=9^7) only [go_sem,↓reduceIte,reduceCtorEq,Nat.reduceEqDiff,Nat.reduceBEq,Nat.reduceAdd,Nat.reduceSub,Nat.reduceMul,Nat.reduceLT,Nat.reduceLeDiff,Nat.reduceBNe,Int.reduceBEq,Int.reduceBNe,Int.reduceLT,Int.reduceLE,Nd.a,Msg.a,Par.a,evM,z0l.eq_1,z0l.eq_2,ents.eq_1,ents.eq_2,kI.eq_1,mpOk.eq_1,mpR.eq_1,lkV.eq_1,lkV.eq_2,t5,h13,t27,h27,t28,t29,t8,h8,hlt2',hlt2,hgs,hlk,e1,e2,ByteArray.size_append,ew,htk,List.length_map,Int.toNat_natCast] | refine z01 (c2) ?_ | refine z00 (c2) ?_ | refine z01 (c1) ?_ | refine z00 (c1) ?_ | refine And.intro (by omega) ?_ | refine And.intro (fun d hd=>by (repeat (rcases hd with rfl | hd; · exact ⟨rfl,rfl⟩)); cases hd) ?_))
   refine ⟨⟨⟨by omega,by omega⟩,fun d hd=>by rcases hd with rfl | hd; exact ⟨rfl,rfl⟩; cases hd⟩,q.length - (j + 1),by omega,j + 1,by omega,rfl,?_,?_,?_,?_,?_,?_,?_,?_⟩ <;>
    (simp (maxSteps:=9^7) only [go_sem,↓reduceIte,reduceCtorEq,Nat.reduceEqDiff,Nat.reduceBEq,Nat.reduceAdd,Nat.reduceSub,Nat.reduceMul,Nat.reduceLT,Nat.reduceLeDiff,Nat.reduceBNe,Int.reduceBEq,Int.reduceBNe,Int.reduceLT,Int.reduceLE,Nd.a,Msg.a,Par.a,evM,z0l.eq_1,z0l.eq_2,ents.eq_1,ents.eq_2,kI.eq_1,mpOk.eq_1,mpR.eq_1,lkV.eq_1,lkV.eq_2,t5,h13,t27,h27,t28,t29,t8,h8,hw,htk,hnx])
 ·have hlt2':¬ (j:Int) < (q.length:Int):=by omega
  obtain rfl:j = q.length:=by omega
  rw [List.take_length] at h8 htk
  have hbl:=zlz (⟨#[32]⟩:ByteArray) 6101 (q.map levW) (fun y hy=>by
   obtain ⟨n,hn,rfl⟩:=List.mem_map.1 hy
   have:=y0v n (hm n hn).2.1 (hm n hn).2.2
   show _ + 1≤_
   omega)
  have hmul:(q.map levW).length * 6101≤200 * 6101:=Nat.mul_le_mul_right _ (by rw [List.length_map]; exact hq)
  have c3:=join_ok (q.map levW) (⟨#[32]⟩:ByteArray) (by rw [List.length_map]; omega) (by omega)
  (repeat (first | simp (maxSteps:=9^7) only [go_sem,↓reduceIte,reduceCtorEq,Nat.reduceEqDiff,Nat.reduceBEq,Nat.reduceAdd,Nat.reduceSub,Nat.reduceMul,Nat.reduceLT,Nat.reduceLeDiff,Nat.reduceBNe,Int.reduceBEq,Int.reduceBNe,Int.reduceLT,Int.reduceLE,Nd.a,Msg.a,Par.a,evM,z0l.eq_1,z0l.eq_2,ents.eq_1,ents.eq_2,kI.eq_1,mpOk.eq_1,mpR.eq_1,lkV.eq_1,lkV.eq_2,t5,h13,t27,h27,t28,t29,t8,h8,hlt2',htk,List.length_map] | refine z01 (c3) ?_ | refine z00 (c3) ?_ | refine And.intro (by omega) ?_ | refine And.intro (fun d hd=>by (repeat (rcases hd with rfl | hd; · exact ⟨rfl,rfl⟩)); cases hd) ?_))
end
end Go.Proofs.YtkfciapeikkmfaaDoor
