/-
  Part 14 of a proof: TeG, LoB, WaA, LfA, LfB.
-/
import Derived.Test.YtlhblpbfhfhlpaaGreatLF13
set_option linter.unusedVariables false
set_option linter.unusedSimpArgs false
set_option maxRecDepth 100000
attribute [local go_sem] reduceCtorEq Nat.reduceEqDiff Nat.reduceBEq Nat.reduceAdd Nat.reduceSub Nat.reduceMul Nat.reduceLT Nat.reduceLeDiff Nat.reduceBNe Int.reduceBEq Int.reduceBNe Int.reduceLT Int.reduceLE
attribute [local go_sem ↓] reduceIte
namespace Go.Proofs.YtlhblpbfhfhlpaaGreat
section
open Go.RowKit
attribute [local go_sem ↓] z18 z0h
def zu6:Reg:=⟨[],[⟨.box 5 23 (.t 0),some 2,none,[],[]⟩,⟨.mv (.c (.bool false)),some 4,none,[],[]⟩],[2],[],false⟩
def ze7:List ROp:=[⟨.mv (.t 1),some 11,none,[12],[]⟩,⟨.callv (.c (.clo 40 [] [])) [(.t 11),(.c (.int .i64 0))],some 12,none,[],[]⟩,⟨.mv (.t 12),some 10,none,[],[]⟩,⟨.ext 0 (.t 10),some 13,none,[],[]⟩,⟨.ext 1 (.t 10),some 14,none,[],[]⟩,⟨.mv (.t 13),some 5,none,[],[]⟩,⟨.mv (.t 14),some 6,none,[],[]⟩]
def zu5:Reg:=⟨[],ze7,[12],[],false⟩
def ze6:List ROp:=[⟨.mv (.t 6),some 15,none,[20,25],[]⟩,⟨.un .not (.t 15),some 16,none,[20,25],[]⟩,⟨.mv (.t 16),some 17,none,[20,25],[]⟩,⟨.mv (.t 1),some 18,(some (17,false)),[20,25],[]⟩,⟨.mv (.t 5),some 19,(some (17,false)),[20,25],[]⟩,⟨.callv (.c (.clo 41 [] [])) [(.t 18),(.t 19)],some 20,(some (17,false)),[25],[]⟩,⟨.un .not (.t 20),some 21,(some (17,false)),[25],[]⟩,⟨.pick (.t 17) (.c (.bool true)) (.t 21),some 22,none,[25],[]⟩,⟨.mv (.t 22),some 23,none,[25],[]⟩,⟨.mv (.t 5),some 24,(some (23,false)),[25],[]⟩,⟨.callv (.c (.clo 42 [] [])) [(.t 24)],some 25,(some (23,false)),[],[]⟩,⟨.un .not (.t 25),some 26,(some (23,false)),[],[]⟩,⟨.pick (.t 23) (.c (.bool true)) (.t 26),some 27,none,[],[]⟩,⟨.mv (.t 27),some 28,none,[],[]⟩,⟨.mv (.t 1),some 29,(some (28,false)),[],[]⟩,⟨.len false (.t 29),some 30,(some (28,false)),[],[]⟩,⟨.faddr 3 (.t 2),some 31,(some (28,false)),[],[]⟩,⟨.load 1 false (.t 31),some 32,(some (28,false)),[],[]⟩,⟨.bin .gtr (.t 30) (.t 32),some 33,(some (28,false)),[],[]⟩,⟨.pick (.t 28) (.c (.bool true)) (.t 33),some 34,none,[],[]⟩]
def zu4:Reg:=⟨[],ze6,[20,25],[],false⟩
def zu3:Reg:=⟨[],[⟨.mv (.c (.bool false)),some 4,none,[],[]⟩],[],[],false⟩
def zu2:Reg:=⟨[],[⟨.mv (.c (.int .i64 0)),some 7,none,[],[]⟩],[],[],false⟩
def ze5:List ROp:=[⟨.mv (.t 7),some 35,none,[],[]⟩,⟨.mv (.t 5),some 36,none,[],[]⟩,⟨.len false (.t 36),some 37,none,[],[]⟩,⟨.bin .lss (.t 35) (.t 37),some 38,none,[],[]⟩]
def zu1:Reg:=⟨[],ze5,[],[],false⟩
def ze4:List ROp:=[⟨.mv (.t 5),some 41,none,[8],[]⟩,⟨.mv (.t 7),some 42,none,[8],[]⟩,⟨.iaddr 14 (.t 41) (.t 42),some 43,none,[8],[]⟩,⟨.load 14 true (.t 43),some 44,none,[8],[]⟩,⟨.alloc 14 83 (.agg [(.int .i64 0),(.int .i64 0),(.sl []),(.sl []),(.str ⟨#[]⟩),(.bool false),(.int .i64 0),(.int .i64 0),(.sl []),(.sl []),(.str ⟨#[]⟩),(.str ⟨#[]⟩),(.bool false),(.sl [])]),some 8,none,[],[]⟩,⟨.store 14 (.t 8) (.t 44),none,none,[],[]⟩]
def zu0:Reg:=⟨[],ze4,[8],[],false⟩
def ze3:List ROp:=[⟨.load 5 true (.t 2),some 45,none,[48,52],[]⟩,⟨.faddr 0 (.t 8),some 46,none,[48,52],[]⟩,⟨.load 10 true (.t 46),some 47,none,[48,52],[]⟩,⟨.callv (.c (.clo 43 [] [])) [(.t 45),(.t 47)],some 48,none,[52],[]⟩,⟨.un .not (.t 48),some 49,none,[52],[]⟩,⟨.mv (.t 49),some 50,none,[52],[]⟩,⟨.load 14 true (.t 8),some 51,(some (50,false)),[52],[]⟩,⟨.callv (.c (.clo 44 [] [])) [(.t 51)],some 52,(some (50,false)),[],[]⟩,⟨.un .not (.t 52),some 53,(some (50,false)),[],[]⟩,⟨.pick (.t 50) (.c (.bool true)) (.t 53),some 54,none,[],[]⟩,⟨.mv (.t 54),some 55,none,[],[]⟩,⟨.faddr 0 (.t 8),some 56,(some (55,false)),[],[]⟩,⟨.faddr 0 (.t 56),some 57,(some (55,false)),[],[]⟩,⟨.load 1 false (.t 57),some 58,(some (55,false)),[],[]⟩,⟨.faddr 3 (.t 2),some 59,(some (55,false)),[],[]⟩,⟨.load 1 false (.t 59),some 60,(some (55,false)),[],[]⟩,⟨.bin .geq (.t 58) (.t 60),some 61,(some (55,false)),[],[]⟩,⟨.pick (.t 55) (.c (.bool true)) (.t 61),some 62,none,[],[]⟩]
def ztz:Reg:=⟨[],ze3,[48,52],[],false⟩
def zty:Reg:=⟨[],[⟨.mv (.c (.bool false)),some 4,none,[],[]⟩],[],[],false⟩
def ztx:Reg:=⟨[],[⟨.mv (.c (.int .i64 0)),some 9,none,[],[]⟩],[],[],false⟩
def z9j:List ROp:=[⟨.mv (.t 9),some 63,none,[],[]⟩,⟨.faddr 13 (.t 8),some 64,none,[],[]⟩,⟨.load 1 false (.t 64),some 65,none,[],[]⟩,⟨.len false (.t 65),some 66,none,[],[]⟩,⟨.bin .lss (.t 63) (.t 66),some 67,none,[],[]⟩]
def zls:Reg:=⟨[],z9j,[],[],false⟩
def zbw:List ROp:=[⟨.faddr 13 (.t 8),some 70,none,[],[]⟩,⟨.load 1 false (.t 70),some 71,none,[],[]⟩,⟨.mv (.t 9),some 72,none,[],[]⟩,⟨.iaddr 6 (.t 71) (.t 72),some 73,none,[],[]⟩,⟨.faddr 0 (.t 73),some 74,none,[],[]⟩,⟨.load 1 false (.t 74),some 75,none,[],[]⟩,⟨.faddr 0 (.t 8),some 76,none,[],[]⟩,⟨.faddr 7 (.t 76),some 77,none,[],[]⟩,⟨.load 1 false (.t 77),some 78,none,[],[]⟩]
def zlr:Reg:=⟨zbw,[⟨.bin .leq (.t 75) (.t 78),some 79,none,[],[]⟩],[],[],true⟩
def zlq:Reg:=⟨[],[⟨.mv (.c (.bool false)),some 4,none,[],[]⟩],[],[],false⟩
def z9i:List ROp:=[⟨.mv (.t 9),some 68,none,[],[]⟩,⟨.bin .add (.t 68) (.c (.int .i64 1)),some 69,none,[],[]⟩,⟨.mv (.t 69),some 9,none,[],[]⟩]
def zlp:Reg:=⟨[],z9i,[],[],false⟩
def z82:IR:=(.seq (.seq (.reg zls)
 (.cond (.t 67) .skip
 (.exit 2)))
 (.seq (.block 3 (.seq (.reg zlr)
 (.cond (.t 79) (.seq (.reg zlq)
 .ret)
 .skip)))
 (.reg zlp)))
def z9h:List ROp:=[⟨.mv (.t 7),some 39,none,[],[]⟩,⟨.bin .add (.t 39) (.c (.int .i64 1)),some 40,none,[],[]⟩,⟨.mv (.t 40),some 7,none,[],[]⟩]
def zlo:Reg:=⟨[],z9h,[],[],false⟩
def zgf:IR:=(.seq (.seq (.reg zu1)
 (.cond (.t 38) .skip
 (.exit 0)))
 (.seq (.block 1 (.seq (.reg zu0)
 (.seq (.seq (.reg ztz)
 (.cond (.t 62) (.seq (.reg zty)
 .ret)
 .skip))
 (.seq (.reg ztx)
 (.block 2 (.loop z82))))))
 (.reg zlo)))
def zln:Reg:=⟨[],[⟨.mv (.c (.bool true)),some 4,none,[],[]⟩],[],[],false⟩
def y71:IR:=(.seq (.reg zu6)
 (.seq (.reg zu5)
 (.seq (.seq (.reg zu4)
 (.cond (.t 34) (.seq (.reg zu3)
 .ret)
 .skip))
 (.seq (.seq (.reg zu2)
 (.block 0 (.loop zgf)))
 (.seq (.reg zln)
 .ret)))))
def zte:List RDesc:=[(.tmp 4)]
theorem e_sound_0:EqR zu6 [⟨.box 5 23 (.t 0),some 2,none,[],[]⟩,⟨.mv (.c (.bool false)),some 4,none,[],[]⟩] [2]:=fun _ _ _=>rfl
theorem e_sound_1:EqR zu5 ze7 [12]:=fun _ _ _=>rfl
theorem e_sound_2:EqR zu4 ze6 [20,25]:=fun _ _ _=>rfl
theorem e_sound_3:EqR zu3 [⟨.mv (.c (.bool false)),some 4,none,[],[]⟩] []:=fun _ _ _=>rfl
theorem e_sound_4:EqR zu2 [⟨.mv (.c (.int .i64 0)),some 7,none,[],[]⟩] []:=fun _ _ _=>rfl
theorem e_sound_5:EqR zu1 ze5 []:=fun _ _ _=>rfl
theorem e_sound_6:EqR zu0 ze4 [8]:=fun _ _ _=>rfl
theorem e_sound_7:EqR ztz ze3 [48,52]:=fun _ _ _=>rfl
theorem e_sound_8:EqR zty [⟨.mv (.c (.bool false)),some 4,none,[],[]⟩] []:=fun _ _ _=>rfl
theorem e_sound_9:EqR ztx [⟨.mv (.c (.int .i64 0)),some 9,none,[],[]⟩] []:=fun _ _ _=>rfl
theorem e_sound_10:EqR zls z9j []:=fun _ _ _=>rfl
theorem e_sound_11 (C:FuncId->List AV->AV->Prop) (σ:St) (K:St->Prop):z0l C zlr σ K = z08 C [] [⟨.bin .leq (.t 75) (.t 78),some 79,none,[],[]⟩] zbw (σ.kills []) K:=rfl
theorem e_sound_12:EqR zlq [⟨.mv (.c (.bool false)),some 4,none,[],[]⟩] []:=fun _ _ _=>rfl
theorem e_sound_13:EqR zlp z9i []:=fun _ _ _=>rfl
theorem e_sound_15:EqR zlo z9h []:=fun _ _ _=>rfl
theorem e_sound_17:EqR zln [⟨.mv (.c (.bool true)),some 4,none,[],[]⟩] []:=fun _ _ _=>rfl
theorem fn_sound {args:List AV} {r:AV} (ha:args.length.ble Tryz.f14.ntmps = true) (h:run (AFn Tryz.prog) y71 (endQ zte r) (z0b args)):AFn Tryz.prog 14 args r :=
 AFn.of_code (pv:=false) (hint:=fun _=>[]) (c:=Tryz.f14.body.getD .skip) (by kernel_rfl) (by kernel_rfl) Tryz.func14 (by kernel_rfl) (by kernel_rfl) (by kernel_rfl) (of_decide_eq_true (by kernel_rfl)) (Nat.le_of_ble_eq_true ha) (Nat.le_of_ble_eq_true (by kernel_rfl)) (z09 h)
def zlm:Reg:=⟨[],[⟨.box 5 23 (.t 0),some 3,none,[],[]⟩,⟨.mv (.c (.bool false)),some 6,none,[],[]⟩],[3],[],false⟩
def z9g:List ROp:=[⟨.load 5 true (.t 3),some 8,none,[9,19],[]⟩,⟨.callv (.c (.clo 12 [] [])) [(.t 8)],some 9,none,[19],[]⟩,⟨.un .not (.t 9),some 10,none,[19],[]⟩,⟨.mv (.t 10),some 11,none,[19],[]⟩,⟨.mv (.t 1),some 12,(some (11,false)),[19],[]⟩,⟨.len false (.t 12),some 13,(some (11,false)),[19],[]⟩,⟨.bin .eql (.t 13) (.c (.int .i64 0)),some 14,(some (11,false)),[19],[]⟩,⟨.pick (.t 11) (.c (.bool true)) (.t 14),some 15,none,[19],[]⟩,⟨.mv (.t 15),some 16,none,[19],[]⟩,⟨.mv (.t 1),some 17,(some (16,false)),[19],[]⟩,⟨.mv (.t 2),some 18,(some (16,false)),[19],[]⟩,⟨.callv (.c (.clo 13 [] [])) [(.t 17),(.t 18),(.c (.int .i64 2000))],some 19,(some (16,false)),[],[]⟩,⟨.un .not (.t 19),some 20,(some (16,false)),[],[]⟩,⟨.pick (.t 16) (.c (.bool true)) (.t 20),some 21,none,[],[]⟩]
def zll:Reg:=⟨[],z9g,[9,19],[],false⟩
def zlk:Reg:=⟨[],[⟨.mv (.c (.bool false)),some 6,none,[],[]⟩],[],[],false⟩
def zlj:Reg:=⟨[],[⟨.mv (.c (.int .i64 0)),some 7,none,[],[]⟩],[],[],false⟩
def z9f:List ROp:=[⟨.mv (.t 7),some 22,none,[],[]⟩,⟨.mv (.t 1),some 23,none,[],[]⟩,⟨.len false (.t 23),some 24,none,[],[]⟩,⟨.bin .lss (.t 22) (.t 24),some 25,none,[],[]⟩]
def zli:Reg:=⟨[],z9f,[],[],false⟩
def z9e:List ROp:=[⟨.mv (.t 1),some 28,none,[],[]⟩,⟨.mv (.t 7),some 29,none,[],[]⟩,⟨.iaddr 10 (.t 28) (.t 29),some 30,none,[],[]⟩,⟨.faddr 0 (.t 30),some 31,none,[],[]⟩,⟨.load 1 false (.t 31),some 32,none,[],[]⟩,⟨.mv (.t 7),some 33,none,[],[]⟩,⟨.bin .neq (.t 32) (.t 33),some 34,none,[],[]⟩,⟨.mv (.t 34),some 35,none,[],[]⟩,⟨.mv (.t 1),some 36,(some (35,false)),[],[]⟩,⟨.mv (.t 7),some 37,(some (35,false)),[],[]⟩,⟨.iaddr 10 (.t 36) (.t 37),some 38,(some (35,false)),[],[]⟩,⟨.faddr 7 (.t 38),some 39,(some (35,false)),[],[]⟩,⟨.load 1 false (.t 39),some 40,(some (35,false)),[],[]⟩,⟨.bin .gtr (.t 40) (.c (.int .i64 1099511627776)),some 41,(some (35,false)),[],[]⟩,⟨.pick (.t 35) (.c (.bool true)) (.t 41),some 42,none,[],[]⟩]
def zlh:Reg:=⟨[],z9e,[],[],false⟩
def zlg:Reg:=⟨[],[⟨.mv (.c (.bool false)),some 6,none,[],[]⟩],[],[],false⟩
def z9d:List ROp:=[⟨.mv (.t 7),some 26,none,[],[]⟩,⟨.bin .add (.t 26) (.c (.int .i64 1)),some 27,none,[],[]⟩,⟨.mv (.t 27),some 7,none,[],[]⟩]
def zlf:Reg:=⟨[],z9d,[],[],false⟩
def zge:IR:=(.seq (.seq (.reg zli)
 (.cond (.t 25) .skip
 (.exit 0)))
 (.seq (.block 1 (.seq (.reg zlh)
 (.cond (.t 42) (.seq (.reg zlg)
 .ret)
 .skip)))
 (.reg zlf)))
def z9c:List ROp:=[⟨.load 5 true (.t 3),some 43,none,[45],[]⟩,⟨.mv (.t 1),some 44,none,[45],[]⟩,⟨.callv (.c (.clo 14 [] [])) [(.t 43),(.t 44)],some 45,none,[],[]⟩,⟨.mv (.t 45),some 6,none,[],[]⟩]
def zle:Reg:=⟨[],z9c,[45],[],false⟩
def zy4:IR:=(.seq (.reg zlm)
 (.seq (.seq (.reg zll)
 (.cond (.t 21) (.seq (.reg zlk)
 .ret)
 .skip))
 (.seq (.seq (.reg zlj)
 (.block 0 (.loop zge)))
 (.seq (.reg zle)
 .ret))))
def zl2:List RDesc:=[(.tmp 6)]
theorem e_tree28_0:EqR zlm [⟨.box 5 23 (.t 0),some 3,none,[],[]⟩,⟨.mv (.c (.bool false)),some 6,none,[],[]⟩] [3]:=fun _ _ _=>rfl
theorem e_tree28_1:EqR zll z9g [9,19]:=fun _ _ _=>rfl
theorem e_tree28_2:EqR zlk [⟨.mv (.c (.bool false)),some 6,none,[],[]⟩] []:=fun _ _ _=>rfl
theorem e_tree28_3:EqR zlj [⟨.mv (.c (.int .i64 0)),some 7,none,[],[]⟩] []:=fun _ _ _=>rfl
theorem e_tree28_4:EqR zli z9f []:=fun _ _ _=>rfl
theorem e_tree28_5:EqR zlh z9e []:=fun _ _ _=>rfl
theorem e_tree28_6:EqR zlg [⟨.mv (.c (.bool false)),some 6,none,[],[]⟩] []:=fun _ _ _=>rfl
theorem e_tree28_7:EqR zlf z9d []:=fun _ _ _=>rfl
theorem e_tree28_9:EqR zle z9c [45]:=fun _ _ _=>rfl
theorem fn_tree28 {args:List AV} {r:AV} (ha:args.length.ble Tryz.f4.ntmps = true) (h:run (AFn Tryz.prog) zy4 (endQ zl2 r) (z0b args)):AFn Tryz.prog 4 args r :=
 AFn.of_code (pv:=false) (hint:=fun _=>[]) (c:=Tryz.f4.body.getD .skip) (by kernel_rfl) (by kernel_rfl) Tryz.func4 (by kernel_rfl) (by kernel_rfl) (by kernel_rfl) (of_decide_eq_true (by kernel_rfl)) (Nat.le_of_ble_eq_true ha) (Nat.le_of_ble_eq_true (by kernel_rfl)) (z09 h)
attribute [local go_sem ↓] y71
attribute [local go_sem] zte e_sound_0 e_sound_1 ze7 e_sound_2 ze6 e_sound_3 e_sound_4 e_sound_5 ze5 e_sound_6 ze4 e_sound_7 ze3 e_sound_8 e_sound_9 e_sound_10 z9j e_sound_11 zbw e_sound_12 e_sound_13 z9i e_sound_15 z9h e_sound_17
attribute [local go_sem ↓] zy4
attribute [local go_sem] zl2 e_tree28_0 e_tree28_1 z9g e_tree28_2 e_tree28_3 e_tree28_4 z9f e_tree28_5 z9e e_tree28_6 e_tree28_7 z9d e_tree28_9 z9c
theorem zb3 {l:List Nd} (hl:l.length≤200) (hn:∀ n,n ∈ l->n.Lt):∀ (f:Nat) (out:List Seat) (i:Nat),z8n out->out.length≤10000->z8n (z2s l f out i).1∧(z2s l f out i).1.length≤10000
 | 0,out,i,h,hlen=>⟨h,hlen⟩
 | f + 1,out,i,h,hlen=>by
  rw [z2s]
  split
  ·exact ⟨h,hlen⟩
  ·rename_i x hx
   have hk:=z90 hn (h i x hx) x.n.kids 0
   have hap:=zg3 hn h hx x.n.kids
   have hnk:=(h i x hx).lt.nkid
   split
   ·exact ⟨h,hlen⟩
   ·have hle:(out ++ (z14 l x 0 x.n.kids).1).length≤10000:=by rw [List.length_append]; omega
    split
    ·exact zb3 hl hn f out (i + 1) h hlen
    ·split
     ·exact ⟨h,hlen⟩
     ·split
      ·exact zb3 hl hn f _ (i + 1) hap hle
      ·exact ⟨hap,hle⟩
theorem seatsF_ok {l:List Nd} (hl:l.length≤200) (hn:∀ n,n ∈ l->n.Lt) (root:Int):z8n (z3r l root).1∧(z3r l root).1.length≤10000:=by
 unfold z3r
 split
 ·refine zb3 hl hn _ _ _ ?_ (by simp)
  intro i x hx
  cases i with
  | zero=>cases hx; exact ⟨zdq hn root,⟨Nat.zero_le _,Nat.zero_le _⟩,fun m hm=>(by cases hm),Nat.zero_le _⟩
  | succ i=>simp at hx
 ·exact ⟨fun i x hx=>by simp at hx,Nat.zero_le _⟩
def lateB (x:Seat) (m:Msg):Bool:=decide (x.n.seen < m.stamp)
def stB (c:Cfg) (x:Seat):Bool:=ndB c x.n && zin x && decide (x.n.slot < c.slots) && x.ms.all (lateB x)
def zt0 (c:Cfg) (l:List Nd):Bool:=(z3r l 0).2 && onceB l (z3r l 0).1 && z3t (z3r l 0).1 && decide ((l.length:Int)≤c.slots) && (z3r l 0).1.all (stB c)
def sdInv (c:Cfg) (s:List Seat) (R:Bool) (k:Nat) (σ:St):Prop :=
 ∃ i:Nat,i≤s.length∧k = s.length - i∧σ.T 2 = .ptr 2 0 0∧σ.H 2 = some ⟨5,23,[c.a],0⟩∧σ.T 5 = .sl (s.map Seat.a)∧σ.T 7 = .int .i64 i∧(s.drop i).all (stB c) = R
def sd2Inv (c:Cfg) (s:List Seat) (i:Nat) (x:Seat) (R:Bool) (k:Nat) (σ:St):Prop :=
 ∃ j:Nat,j≤x.ms.length∧k = x.ms.length - j∧σ.T 2 = .ptr 2 0 0∧σ.H 2 = some ⟨5,23,[c.a],0⟩∧σ.T 5 = .sl (s.map Seat.a)∧σ.T 7 = .int .i64 i ∧
  σ.T 8 = .ptr 8 0 0∧σ.H 8 = some ⟨14,83,[x.a],0⟩∧σ.T 9 = .int .i64 j∧(x.ms.drop j).all (lateB x) = R
set_option maxHeartbeats 2000000 in
theorem late_loop (c:Cfg) (s:List Seat) (i:Nat) (x:Seat) (b:Nat) (hb:b≤100000000) (hx0:SeatOk x b) (R:Bool) (Q:XK->St->Prop)
  (hEnd:∀ σ,R = true->σ.T 2 = .ptr 2 0 0->σ.H 2 = some ⟨5,23,[c.a],0⟩->σ.T 5 = .sl (s.map Seat.a)->σ.T 7 = .int .i64 i->Q (.exit 2) σ)
  (hRet:∀ σ,R = false->σ.T 4 = .bool false->Q .ret σ) (k:Nat) (σ:St) (hI:sd2Inv c s i x R k σ) :
  run (AFn Tryz.prog) z82 (z2h (fun σ'=>∃ m,m < k∧sd2Inv c s i x R m σ') Q) σ:=by
 obtain ⟨j,hj,rfl,t2,h2,t5,t7,t8,h8,t9,hr⟩:=hI
 simp only [z82]
 have h8':=h8
 simp only [Seat.a] at h8'
 have hnm:=hx0.nms
 by_cases hlt:j < x.ms.length
 case neg =>
  have hlt':¬ (j:Int) < (x.ms.length:Int):=by omega
  rw [List.drop_eq_nil_of_le (by omega),List.all_nil] at hr
  subst hr
  simp (maxSteps:=9^7) only [go_sem,Spn.a,Msg.a,Par.a,Nd.a,Seat.a,Cfg.a,t2,h2,t5,t7,t8,h8',t9,hlt',List.length_map]
  refine hEnd _ rfl ?_ ?_ ?_ ?_
  iterate 4 focus ((simp (maxSteps:=9^7) only [go_sem,Spn.a,Msg.a,Par.a,Nd.a,Seat.a,Cfg.a,t2,h2,t5,t7]) <;> rfl)
 have hlt':(j:Int) < (x.ms.length:Int):=by omega
 obtain ⟨y,hy⟩:=z0f hlt
 have hgy:=z0k (f:=Msg.a) hy
 simp only [Msg.a] at hgy
 have hw:=z1a (j:=j) (by omega)
 rw [z0d hy,List.all_cons] at hr
 have hbb:lateB x y = decide (x.n.seen < y.stamp):=rfl
 rw [hbb] at hr
 by_cases hs:y.stamp≤x.n.seen
 ·rw [decide_eq_false (by omega),Bool.false_and] at hr
  subst hr
  simp (maxSteps:=9^7) only [go_sem,Spn.a,Msg.a,Par.a,Nd.a,Seat.a,Cfg.a,t2,h2,t5,t7,t8,h8',t9,hlt',hgy,hs,List.length_map,Int.toNat_natCast]
  all_goals (repeat refine And.intro (by omega) ?_)
  refine hRet _ rfl ?_
  simp (maxSteps:=9^7) only [go_sem,Spn.a,Msg.a,Par.a,Nd.a,Seat.a,Cfg.a]
 ·rw [decide_eq_true (by omega),Bool.true_and] at hr
  simp (maxSteps:=9^7) only [go_sem,Spn.a,Msg.a,Par.a,Nd.a,Seat.a,Cfg.a,t2,h2,t5,t7,t8,h8',t9,hlt',hgy,hs,hw,List.length_map,Int.toNat_natCast]
  (repeat refine And.intro (by omega) ?_)
  refine ⟨x.ms.length - (j + 1),by omega,j + 1,by omega,rfl,?_,?_,?_,?_,?_,?_,?_,hr⟩
  iterate 7 focus ((simp (maxSteps:=9^7) only [go_sem,Spn.a,Msg.a,Par.a,Nd.a,Seat.a,Cfg.a,t2,h2,t5,t7,t8,h8,hw]) <;> rfl)
set_option maxHeartbeats 4000000 in
theorem sound_ok (c:Cfg) (l:List Nd) (hl:l.length≤200) (hn:∀ n,n ∈ l->n.Lt):AFn Tryz.prog 14 [c.a,.sl (l.map Nd.a)] (.bool (zt0 c l)):=by
 refine fn_sound rfl ?_
 have cS:=seats_ok l 0 hl hn
 obtain ⟨hok,hlen⟩:=seatsF_ok hl hn 0
 unfold zt0
 generalize (z3r l 0).1 = s at *
 generalize (z3r l 0).2 = b1 at *
 have cO:=onceT_ok l s (by omega) (by omega)
 have cL:=linked_ok s (by omega)
 generalize onceB l s = b2 at *
 generalize z3t s = b3 at *
 obtain ⟨R,hR⟩:∃ R,s.all (stB c) = R:=⟨_,rfl⟩
 rw [hR]
 cases b1
 ·(repeat (first | simp (maxSteps:=9^7) only [go_sem,Spn.a,Msg.a,Par.a,Nd.a,Seat.a,Cfg.a] | refine z01 (cS) ?_ | refine z00 (cS) ?_ | refine z01 (cO) ?_ | refine z00 (cO) ?_ | refine z01 (cL) ?_ | refine z00 (cL) ?_ | refine And.intro (by omega) ?_ | refine And.intro (fun d hd=>by (repeat (rcases hd with rfl | hd; · exact ⟨rfl,rfl⟩)); cases hd) ?_))
 cases b2
 ·(repeat (first | simp (maxSteps:=9^7) only [go_sem,Spn.a,Msg.a,Par.a,Nd.a,Seat.a,Cfg.a] | refine z01 (cS) ?_ | refine z00 (cS) ?_ | refine z01 (cO) ?_ | refine z00 (cO) ?_ | refine z01 (cL) ?_ | refine z00 (cL) ?_ | refine And.intro (by omega) ?_ | refine And.intro (fun d hd=>by (repeat (rcases hd with rfl | hd; · exact ⟨rfl,rfl⟩)); cases hd) ?_))
 cases b3
 ·(repeat (first | simp (maxSteps:=9^7) only [go_sem,Spn.a,Msg.a,Par.a,Nd.a,Seat.a,Cfg.a] | refine z01 (cS) ?_ | refine z00 (cS) ?_ | refine z01 (cO) ?_ | refine z00 (cO) ?_ | refine z01 (cL) ?_ | refine z00 (cL) ?_ | refine And.intro (by omega) ?_ | refine And.intro (fun d hd=>by (repeat (rcases hd with rfl | hd; · exact ⟨rfl,rfl⟩)); cases hd) ?_))
 by_cases q4:(l.length:Int)≤c.slots
 case neg =>
  have q4':c.slots < (l.length:Int):=by omega
  rw [decide_eq_false q4]
  (repeat (first | simp (maxSteps:=9^7) only [go_sem,Spn.a,Msg.a,Par.a,Nd.a,Seat.a,Cfg.a,List.length_map,q4'] | refine z01 (cS) ?_ | refine z00 (cS) ?_ | refine z01 (cO) ?_ | refine z00 (cO) ?_ | refine z01 (cL) ?_ | refine z00 (cL) ?_ | refine And.intro (by omega) ?_ | refine And.intro (fun d hd=>by (repeat (rcases hd with rfl | hd; · exact ⟨rfl,rfl⟩)); cases hd) ?_))
 have q4':¬ c.slots < (l.length:Int):=by omega
 rw [decide_eq_true q4]
 (repeat (first | simp (maxSteps:=9^7) only [go_sem,Spn.a,Msg.a,Par.a,Nd.a,Seat.a,Cfg.a,List.length_map,q4'] | refine z01 (cS) ?_ | refine z00 (cS) ?_ | refine z01 (cO) ?_ | refine z00 (cO) ?_ | refine z01 (cL) ?_ | refine z00 (cL) ?_ | refine And.intro (by omega) ?_ | refine And.intro (fun d hd=>by (repeat (rcases hd with rfl | hd; · exact ⟨rfl,rfl⟩)); cases hd) ?_))
 clear cS cO cL q4 q4'
 refine z06 (sdInv c s R) (k:=s.length) ⟨0,by omega,rfl,?_,?_,?_,?_,hR⟩ ?_
 iterate 4 focus ((simp (maxSteps:=9^7) only [go_sem,Spn.a,Msg.a,Par.a,Nd.a,Seat.a,Cfg.a]) <;> rfl)
 clear hR
 rintro k σ ⟨i,hi,rfl,t2,h2,t5,t7,hr⟩
 simp only [zgf]
 by_cases hlt:i < s.length
 case neg =>
  have hlt':¬ (i:Int) < (s.length:Int):=by omega
  rw [List.drop_eq_nil_of_le (by omega),List.all_nil] at hr
  subst hr
  simp (maxSteps:=9^7) only [go_sem,Spn.a,Msg.a,Par.a,Nd.a,Seat.a,Cfg.a,t2,h2,t5,t7,hlt',List.length_map]
 have hlt':(i:Int) < (s.length:Int):=by omega
 obtain ⟨x,hx⟩:=z0f hlt
 have hgx:=z0k (f:=Seat.a) hx
 simp only [Seat.a] at hgx
 have h2':=h2
 simp only [Cfg.a] at h2'
 have hw:=z1a (j:=i) (by omega)
 have hx0:=hok i x hx
 have cN:=right21_ok c x.n hx0.lt
 have cP:=placed_ok x _ hx0
 rw [z0d hx,List.all_cons] at hr
 have hb:stB c x = (ndB c x.n && zin x && decide (x.n.slot < c.slots) && x.ms.all (lateB x)):=rfl
 rw [hb] at hr
 clear hb
 generalize ndB c x.n = e1 at *
 generalize zin x = e2 at *
 cases e1
 ·simp only [Bool.false_and] at hr
  subst hr
  (repeat (first | simp (maxSteps:=9^7) only [go_sem,Spn.a,Msg.a,Par.a,Nd.a,Seat.a,Cfg.a,t2,h2',t5,t7,hlt',hgx,List.length_map,Int.toNat_natCast] | refine z01 (cN) ?_ | refine z00 (cN) ?_ | refine z01 (cP) ?_ | refine z00 (cP) ?_ | refine And.intro (by omega) ?_ | refine And.intro (fun d hd=>by (repeat (rcases hd with rfl | hd; · exact ⟨rfl,rfl⟩)); cases hd) ?_))
 cases e2
 ·simp only [Bool.and_false,Bool.false_and] at hr
  subst hr
  (repeat (first | simp (maxSteps:=9^7) only [go_sem,Spn.a,Msg.a,Par.a,Nd.a,Seat.a,Cfg.a,t2,h2',t5,t7,hlt',hgx,List.length_map,Int.toNat_natCast] | refine z01 (cN) ?_ | refine z00 (cN) ?_ | refine z01 (cP) ?_ | refine z00 (cP) ?_ | refine And.intro (by omega) ?_ | refine And.intro (fun d hd=>by (repeat (rcases hd with rfl | hd; · exact ⟨rfl,rfl⟩)); cases hd) ?_))
 by_cases q5:x.n.slot < c.slots
 case neg =>
  have q5':c.slots≤x.n.slot:=by omega
  rw [decide_eq_false q5] at hr
  simp only [Bool.and_false,Bool.false_and] at hr
  subst hr
  (repeat (first | simp (maxSteps:=9^7) only [go_sem,Spn.a,Msg.a,Par.a,Nd.a,Seat.a,Cfg.a,t2,h2',t5,t7,hlt',hgx,q5',List.length_map,Int.toNat_natCast] | refine z01 (cN) ?_ | refine z00 (cN) ?_ | refine z01 (cP) ?_ | refine z00 (cP) ?_ | refine And.intro (by omega) ?_ | refine And.intro (fun d hd=>by (repeat (rcases hd with rfl | hd; · exact ⟨rfl,rfl⟩)); cases hd) ?_))
 have q5':¬ c.slots≤x.n.slot:=by omega
 rw [decide_eq_true q5] at hr
 simp only [Bool.true_and] at hr
 (repeat (first | simp (maxSteps:=9^7) only [go_sem,Spn.a,Msg.a,Par.a,Nd.a,Seat.a,Cfg.a,t2,h2',t5,t7,hlt',hgx,q5',List.length_map,Int.toNat_natCast] | refine z01 (cN) ?_ | refine z00 (cN) ?_ | refine z01 (cP) ?_ | refine z00 (cP) ?_ | refine And.intro (by omega) ?_ | refine And.intro (fun d hd=>by (repeat (rcases hd with rfl | hd; · exact ⟨rfl,rfl⟩)); cases hd) ?_))
 obtain ⟨RL,hL⟩:∃ r,x.ms.all (lateB x) = r:=⟨_,rfl⟩
 rw [hL] at hr
 refine z06 (sd2Inv c s i x RL) (k:=x.ms.length) ⟨0,by omega,rfl,?_,?_,?_,?_,?_,?_,?_,hL⟩ (late_loop c s i x (2000 * i) (by omega) hx0 RL _ ?_ ?_)
 iterate 7 focus ((simp (maxSteps:=9^7) only [go_sem,Spn.a,Msg.a,Par.a,Nd.a,Seat.a,Cfg.a,t2,h2,t5,t7]) <;> rfl)
 ·intro σ hk t2 h2 t5 t7
  subst hk
  rw [Bool.true_and] at hr
  simp (maxSteps:=9^7) only [go_sem,Spn.a,Msg.a,Par.a,Nd.a,Seat.a,Cfg.a,t2,h2,t5,t7,hw]
  refine ⟨s.length - (i + 1),by omega,i + 1,by omega,rfl,?_,?_,?_,?_,hr⟩
  iterate 4 focus ((simp (maxSteps:=9^7) only [go_sem,Spn.a,Msg.a,Par.a,Nd.a,Seat.a,Cfg.a,t2,h2,t5,hw]) <;> rfl)
 ·intro σ hk t4
  subst hk
  rw [Bool.false_and] at hr
  subst hr
  simp (maxSteps:=9^7) only [go_sem,Spn.a,Msg.a,Par.a,Nd.a,Seat.a,Cfg.a,t4]
theorem lt_of {n:Nd} (ok:n.ok) (h:n.light 2000 = true):n.Lt:=by
 unfold Nd.light at h
 simp only [Bool.and_eq_true,decide_eq_true_eq] at h
 obtain ⟨⟨⟨⟨h1,h2⟩,h3⟩,h4⟩,h5⟩:=h
 have l1:=zdh (f:=Par.bulk) (fun x=>by unfold Par.bulk; omega) n.rows
 have l2:=zdh (f:=z2q) (fun x=>by unfold z2q; omega) n.pivots
 have l4:=zdh (f:=Msg.bulkN) (fun x=>by unfold Msg.bulkN; omega) n.msgs
 refine ⟨ok.level,fun x hx=>?_,by omega,by omega,by omega,fun m hm=>?_,by omega,fun p hp=>?_,by omega⟩
 ·have:=zdg (f:=z2q) hx
  have e:z2q x = x.size + 1:=rfl
  omega
 ·have:=zdg (f:=Msg.bulkN) hm
  have e:m.bulkN = 1 + m.key.size + m.hi.size + m.val.size:=rfl
  exact ⟨by omega,by omega,by omega⟩
 ·have:=zdg (f:=Par.bulk) hp
  have e:p.bulk = 1 + p.key.size + p.val.size:=rfl
  omega
def seqB (l:List Nd):Nat->Bool
 | i=>match l with
  | []=>true
  | n :: m=>decide (n.slot = i) && decide (n.seen≤1099511627776) && seqB m (i + 1)
def zss (c:Cfg) (l:List Nd) (most:Int):Bool:=cfgB c && decide (l.length ≠ 0) && zpi l most 2000 && seqB l 0 && zt0 c l
def trInv (c:Cfg) (l:List Nd) (R:Bool) (k:Nat) (σ:St):Prop :=
 ∃ i:Nat,i≤l.length∧k = l.length - i∧σ.T 3 = .ptr 3 0 0∧σ.H 3 = some ⟨5,23,[c.a],0⟩∧σ.T 1 = .sl (l.map Nd.a)∧σ.T 7 = .int .i64 i∧seqB (l.drop i) i = R
set_option maxHeartbeats 4000000 in
theorem tree_ok (c:Cfg) (l:List Nd) (most:Int) (hm:most≤200) (hs:∀ x,x ∈ l->x.ok) (hl:l.length≤281474976710656):AFn Tryz.prog 4 [c.a,.sl (l.map Nd.a),.int .i64 most] (.bool (zss c l most)):=by
 refine fn_tree28 rfl ?_
 have cC:=right25_ok c
 have cL:=light_ok l most 2000 (by omega) (by omega) hs hl
 unfold zss
 generalize cfgB c = b1 at *
 cases b1
 ·(repeat (first | simp (maxSteps:=9^7) only [go_sem,Spn.a,Msg.a,Par.a,Nd.a,Seat.a,Cfg.a,List.length_map] | refine z01 (cC) ?_ | refine z00 (cC) ?_ | refine z01 (cL) ?_ | refine z00 (cL) ?_ | refine And.intro (by omega) ?_ | refine And.intro (fun d hd=>by (repeat (rcases hd with rfl | hd; · exact ⟨rfl,rfl⟩)); cases hd) ?_))
 by_cases q2:l.length = 0
 ·have q2':((l.length:Int) == 0) = true:=by simp [q2]
  rw [decide_eq_false (fun h=>h q2)]
  (repeat (first | simp (maxSteps:=9^7) only [go_sem,Spn.a,Msg.a,Par.a,Nd.a,Seat.a,Cfg.a,List.length_map,q2'] | refine z01 (cC) ?_ | refine z00 (cC) ?_ | refine z01 (cL) ?_ | refine z00 (cL) ?_ | refine And.intro (by omega) ?_ | refine And.intro (fun d hd=>by (repeat (rcases hd with rfl | hd; · exact ⟨rfl,rfl⟩)); cases hd) ?_))
 have q2':((l.length:Int) == 0) = false:=beq_eq_false_iff_ne.2 (by omega)
 rw [decide_eq_true q2]
 cases hL:zpi l most 2000
 ·rw [hL] at cL
  (repeat (first | simp (maxSteps:=9^7) only [go_sem,Spn.a,Msg.a,Par.a,Nd.a,Seat.a,Cfg.a,List.length_map,q2'] | refine z01 (cC) ?_ | refine z00 (cC) ?_ | refine z01 (cL) ?_ | refine z00 (cL) ?_ | refine And.intro (by omega) ?_ | refine And.intro (fun d hd=>by (repeat (rcases hd with rfl | hd; · exact ⟨rfl,rfl⟩)); cases hd) ?_))
 rw [hL] at cL
 have hL2:=hL
 unfold zpi at hL2
 rw [Bool.and_eq_true,decide_eq_true_eq,List.all_eq_true] at hL2
 have hlt:∀ n,n ∈ l->n.Lt:=fun n hn=>lt_of (hs n hn) (hL2.2 n hn)
 have cS:=sound_ok c l (by have:=hL2.1; omega) hlt
 generalize zt0 c l = bs at *
 obtain ⟨R,hR⟩:∃ R,seqB l 0 = R:=⟨_,rfl⟩
 rw [hR]
 (repeat (first | simp (maxSteps:=9^7) only [go_sem,Spn.a,Msg.a,Par.a,Nd.a,Seat.a,Cfg.a,List.length_map,q2'] | refine z01 (cC) ?_ | refine z00 (cC) ?_ | refine z01 (cL) ?_ | refine z00 (cL) ?_ | refine And.intro (by omega) ?_ | refine And.intro (fun d hd=>by (repeat (rcases hd with rfl | hd; · exact ⟨rfl,rfl⟩)); cases hd) ?_))
 refine z06 (trInv c l R) (k:=l.length) ⟨0,by omega,rfl,?_,?_,?_,?_,hR⟩ ?_
 iterate 4 focus ((simp (maxSteps:=9^7) only [go_sem,Spn.a,Msg.a,Par.a,Nd.a,Seat.a,Cfg.a]) <;> rfl)
 clear hR cC cL q2'
 rintro k σ ⟨i,hi,rfl,t3,h3,t1,t7,hr⟩
 simp only [zge]
 have h3':=h3
 simp only [Cfg.a] at h3'
 by_cases hlt2:i < l.length
 case neg =>
  have hlt':¬ (i:Int) < (l.length:Int):=by omega
  rw [List.drop_eq_nil_of_le (by omega),seqB] at hr
  subst hr
  (repeat (first | simp (maxSteps:=9^7) only [go_sem,Spn.a,Msg.a,Par.a,Nd.a,Seat.a,Cfg.a,t3,h3',t1,t7,hlt',List.length_map] | refine z01 (cS) ?_ | refine z00 (cS) ?_ | refine And.intro (by omega) ?_ | refine And.intro (fun d hd=>by (repeat (rcases hd with rfl | hd; · exact ⟨rfl,rfl⟩)); cases hd) ?_))
 have hlt':(i:Int) < (l.length:Int):=by omega
 obtain ⟨x,hx⟩:=z0f hlt2
 have hgx:=z0k (f:=Nd.a) hx
 simp only [Nd.a] at hgx
 have hw:=z1a (j:=i) (by omega)
 rw [z0d hx,seqB] at hr
 by_cases q5:x.slot = (i:Int)
 case neg =>
  have q5':(x.slot != (i:Int)) = true:=by simp [q5]
  rw [decide_eq_false q5,Bool.false_and,Bool.false_and] at hr
  subst hr
  simp (maxSteps:=9^7) only [go_sem,Spn.a,Msg.a,Par.a,Nd.a,Seat.a,Cfg.a,t3,h3',t1,t7,hlt',hgx,q5',List.length_map,Int.toNat_natCast]
  all_goals omega
 have q5':(x.slot != (i:Int)) = false:=by simp [q5]
 rw [decide_eq_true q5] at hr
 by_cases q6:x.seen≤1099511627776
 case neg =>
  have q6':1099511627776 < x.seen:=by omega
  rw [decide_eq_false q6,Bool.and_false,Bool.false_and] at hr
  subst hr
  simp (maxSteps:=9^7) only [go_sem,Spn.a,Msg.a,Par.a,Nd.a,Seat.a,Cfg.a,t3,h3',t1,t7,hlt',hgx,q5',q6',List.length_map,Int.toNat_natCast]
  all_goals omega
 have q6':¬ 1099511627776 < x.seen:=by omega
 rw [decide_eq_true q6,Bool.true_and,Bool.true_and] at hr
 simp (maxSteps:=9^7) only [go_sem,Spn.a,Msg.a,Par.a,Nd.a,Seat.a,Cfg.a,t3,h3',t1,t7,hlt',hgx,q5',q6',hw,List.length_map,Int.toNat_natCast]
 (repeat refine And.intro (by omega) ?_)
 refine ⟨l.length - (i + 1),by omega,i + 1,by omega,rfl,?_,?_,?_,?_,hr⟩
 iterate 4 focus ((simp (maxSteps:=9^7) only [go_sem,Spn.a,Msg.a,Par.a,Nd.a,Seat.a,Cfg.a,t3,h3,t1,hw]) <;> rfl)
end
section
open Go.RowKit
theorem y47:∀ (l:List Nd) (i:Nat),seqB l i = true->∀ (j:Nat) (n:Nd),l[j]? = some n->n.slot = ((i + j:Nat):Int)
 | [],i,h,j,n,e=>by simp at e
 | x :: l,i,h,j,n,e=>by
  rw [seqB,Bool.and_eq_true,Bool.and_eq_true,decide_eq_true_eq] at h
  cases j with
  | zero=>cases e; rw [h.1.1]; rfl
  | succ j =>
   have:=y47 l (i + 1) h.2 j n (by simpa using e)
   rw [this]; omega
def Seat.sl (x:Seat):Int:=x.n.slot
def zb4 (x:Seat):List Int:=if x.n.level = 0 then [] else x.n.kids
theorem zd4 {l:List Nd} (h:zsk l) {x:Seat}:∀ (ks:List Int) (j:Nat),(z14 l x j ks).2 = true->(z14 l x j ks).1.map Seat.sl = ks∧∀ y,y ∈ (z14 l x j ks).1->ndAt l y.n.slot = some y.n
 | [],j,_=>⟨rfl,fun y hy=>by cases hy⟩
 | k :: ks,j,hk=>by
  rw [z14] at hk ⊢
  by_cases c:(z3w l k).2 = true∧(z3w l k).1.level = x.n.level - 1
  ·rw [if_pos c] at hk ⊢
   obtain ⟨i1,i2⟩:=zd4 h ks (j + 1) hk
   have e:=zjr h k
   cases en:ndAt l k with
   | none=>rw [en] at e; rw [e] at c; exact absurd c.1 (by decide)
   | some n =>
    rw [en] at e
    have e':(z3w l k).1 = n:=by rw [e]; rfl
    have hs:=(z1r h en).1
    refine ⟨?_,fun y hy=>?_⟩
    ·rw [List.map_cons,i1]
     show (z3w l k).1.slot :: ks = _
     rw [e',hs]
    ·rcases List.mem_cons.1 hy with q | q
     ·rw [q]
      show ndAt l (z3w l k).1.slot = some (z3w l k).1
      rw [e',hs]; exact en
     ·exact i2 y q
  ·rw [if_neg c] at hk; cases hk
theorem z7x {l:List Nd} (h:zsk l):∀ (f:Nat) (out:List Seat) (i:Nat),l.length + 1≤i + f->i≤out.length->out.map Seat.sl = 0 :: (out.take i).flatMap zb4->(∀ j,j < i->j < 1 + ((out.take j).flatMap zb4).length) ->
  (∀ y,y ∈ out->ndAt l y.n.slot = some y.n)->∀ S,z2s l f out i = (S,true)->S.length = l.length ->
  S.map Seat.sl = 0 :: S.flatMap zb4∧(∀ j,j < S.length->j < 1 + ((S.take j).flatMap zb4).length)∧∀ y,y ∈ S->ndAt l y.n.slot = some y.n
 | 0,out,i,hf,hi,h1,h2,h3,S,e,hl=>by
  rw [z2s] at e
  cases e
  omega
 | f + 1,out,i,hf,hi,h1,h2,h3,S,e,hl=>by
  rw [z2s] at e
  cases hx:out[i]? with
  | none =>
   rw [hx] at e
   cases e
   have:=List.getElem?_eq_none_iff.1 hx
   have e2:i = out.length:=by omega
   subst e2
   rw [List.take_length] at h1
   exact ⟨h1,h2,h3⟩
  | some x =>
   rw [hx] at e
   have hlt:=(List.getElem?_eq_some_iff.1 hx).1
   have htk:out.take (i + 1) = out.take i ++ [x]:=by rw [List.take_add_one,hx]; rfl
   have hlen:out.length = 1 + ((out.take i).flatMap zb4).length:=by
    have:=congrArg List.length h1
    rw [List.length_map,List.length_cons] at this
    omega
   have hnew:∀ j,j < i + 1->j < 1 + ((out.take j).flatMap zb4).length:=fun j hj=>by
    rcases Nat.lt_or_ge j i with q | q
    ·exact h2 j q
    ·have:j = i:=by omega
     rw [this]; omega
   dsimp only at e
   by_cases q1:l.length < out.length
   ·rw [if_pos q1] at e; cases e
   rw [if_neg q1] at e
   by_cases q2:x.n.level = 0
   ·rw [if_pos q2] at e
    refine z7x h f out (i + 1) (by omega) hlt ?_ hnew h3 S e hl
    rw [htk,List.flatMap_append,h1]
    have:([x].flatMap zb4) = []:=by simp [zb4,q2]
    rw [this,List.append_nil]
   rw [if_neg q2] at e
   by_cases q3:x.n.level < 0∨zcm x.n.pivots x.n.kids = false
   ·rw [if_pos q3] at e; cases e
   rw [if_neg q3] at e
   by_cases q4:(z14 l x 0 x.n.kids).2 = true
   case neg=>rw [if_neg q4] at e; cases e
   rw [if_pos q4] at e
   obtain ⟨k1,k2⟩:=zd4 h x.n.kids 0 q4
   have hap:∀ j,j≤i + 1->(out ++ (z14 l x 0 x.n.kids).1).take j = out.take j:=fun j hj=>List.take_append_of_le_length (by omega)
   refine z7x h f (out ++ (z14 l x 0 x.n.kids).1) (i + 1) (by omega) (by rw [List.length_append]; omega) ?_ (fun j hj=>?_) (fun y hy=>?_) S e hl
   ·rw [hap _ (Nat.le_refl _),htk,List.flatMap_append,List.map_append,h1,k1]
    have:([x].flatMap zb4) = x.n.kids:=by simp [zb4,q2]
    rw [this]; rfl
   ·rw [hap j (by omega)]; exact hnew j hj
   ·rcases List.mem_append.1 hy with q | q
    ·exact h3 y q
    ·exact k2 y q
structure Ords (l:List Nd) (q:List Int):Prop where
 eq:q = 0 :: q.flatMap (z0t l)
 dup:q.Nodup
 mem:∀ s,s ∈ q->0≤s∧s < l.length
 live:∀ j,j < q.length->j < 1 + ((q.take j).flatMap (z0t l)).length
theorem zj5:∀ {s:List Seat} {i:Nat} {x:Seat},z3t s = true->s[i]? = some x->x.n.right = -1∨∃ y,s[i + 1]? = some y∧x.n.right = y.n.slot
 | [],i,x,h,e=>by simp at e
 | z :: s,0,x,h,e=>by
  cases e
  rw [z3t,Bool.and_eq_true,decide_eq_true_eq] at h
  rw [h.1]
  cases s with
  | nil=>exact .inl rfl
  | cons y s =>
   rw [zkl]
   split
   ·exact .inr ⟨y,rfl,rfl⟩
   ·exact .inl rfl
 | z :: s,i + 1,x,h,e=>by
  rw [z3t,Bool.and_eq_true] at h
  have q:=zj5 (s:=s) (i:=i) (x:=x) h.2 (by simpa using e)
  simpa using q
theorem z6t:∀ {q:List Int},(∀ s,s ∈ q->q.count s = 1)->q.Nodup
 | [],_=>List.nodup_nil
 | x :: q,h=>by
  have hx:=h x (List.mem_cons_self ..)
  rw [List.count_cons_self] at hx
  have hn:x ∉ q:=fun hm=>by
   have:=List.count_pos_iff.2 hm
   omega
  refine List.nodup_cons.2 ⟨hn,z6t fun s hs=>?_⟩
  have:=h s (List.mem_cons_of_mem _ hs)
  rw [List.count_cons_of_ne (fun e=>hn (by rw [e]; exact hs))] at this
  exact this
structure TreeLaw (l:List Nd) (S:List Seat):Prop where
 lad:Lad l
 ords:Ords l (S.map Seat.sl)
 pos:∀ (i:Nat) (s x:Int),(S.map Seat.sl)[i]? = some s->x ∈ steps l s->∃ j,i < j∧(S.map Seat.sl)[j]? = some x
 all:∀ s:Int,0≤s->s < l.length->s ∈ S.map Seat.sl
 seat:∀ x,x ∈ S->0≤x.n.slot∧x.n.slot < l.length
 len:S.length≤200
theorem tree_law {c:Cfg} {l:List Nd} {most:Int} (hm:most≤200) (h:zss c l most = true):TreeLaw l (z3r l 0).1:=by
 unfold zss at h
 rw [Bool.and_eq_true,Bool.and_eq_true,Bool.and_eq_true,Bool.and_eq_true] at h
 obtain ⟨⟨⟨⟨_,hne⟩,hL⟩,hq⟩,hS⟩:=h
 have hord:zsk l:=fun j n e=>by have:=y47 l 0 hq j n e; rw [this]; omega
 unfold zpi at hL
 rw [Bool.and_eq_true,decide_eq_true_eq,List.all_eq_true] at hL
 obtain ⟨hlen,hlt⟩:=hL
 unfold zt0 at hS
 rw [Bool.and_eq_true,Bool.and_eq_true,Bool.and_eq_true,Bool.and_eq_true,List.all_eq_true] at hS
 obtain ⟨⟨⟨⟨hok,honce⟩,hlink⟩,_⟩,hst⟩:=hS
 unfold onceB at honce
 rw [Bool.and_eq_true,decide_eq_true_eq,List.all_eq_true] at honce
 obtain ⟨hl1,hcnt⟩:=honce
 generalize hSd:(z3r l 0).1 = S at *
 have hgo:∃ r,z3w l 0 = (r,true)∧ndAt l 0 = some r∧z2s l (l.length + 1) [⟨r,⟨nul0,nul0,true⟩,[]⟩] 0 = (S,true):=by
  unfold z3r at hok hSd
  have e:=zjr hord 0
  cases en:ndAt l 0 with
  | none =>
   rw [en] at e
   rw [e] at hok
   have hf:¬ ((Option.map (fun n:Nd=>(n,true)) none).getD (Nd.zero,false)).2 = true:=Bool.false_ne_true
   rw [if_neg hf] at hok
   cases hok
  | some r =>
   rw [en] at e
   have e':z3w l 0 = (r,true):=e
   rw [e'] at hok hSd
   rw [if_pos rfl] at hok hSd
   exact ⟨r,e',rfl,Prod.ext hSd hok⟩
 obtain ⟨r,_,er,hgo⟩:=hgo
 have hr0:=(z1r hord er).1
 obtain ⟨b1,b2,b3⟩:=z7x hord (l.length + 1) [⟨r,⟨nul0,nul0,true⟩,[]⟩] 0 (by omega) (Nat.zero_le _) (by show [r.slot] = [0]; rw [hr0]) (fun j hj=>absurd hj (by omega))
  (fun y hy=>by
   have:y = ⟨r,⟨nul0,nul0,true⟩,[]⟩:=by simpa using hy
   rw [this]
   show ndAt l r.slot = some r
   rw [hr0]; exact er) S hgo hl1.symm
 have hseat:∀ x,x ∈ S->ndB c x.n = true:=fun x hx=>by
  have:=hst x hx
  unfold stB at this
  rw [Bool.and_eq_true,Bool.and_eq_true,Bool.and_eq_true] at this
  exact this.1.1.1
 have hkk:∀ x,x ∈ S->zb4 x = z0t l x.n.slot:=fun x hx=>by
  have e:=b3 x hx
  have hn:=hseat x hx
  unfold z0t zb4
  rw [e]
  show _ = x.n.kids
  by_cases h0:x.n.level = 0
  ·rw [if_pos h0]
   unfold ndB at hn
   rw [Bool.and_eq_true,if_pos h0] at hn
   have:=hn.2
   unfold leafB at this
   rw [Bool.and_eq_true,Bool.and_eq_true,Bool.and_eq_true,decide_eq_true_eq] at this
   exact (List.length_eq_zero_iff.1 (by omega)).symm
  ·rw [if_neg h0]
 have hfl:∀ T:List Seat,(∀ x,x ∈ T->x ∈ S)->T.flatMap zb4 = (T.map Seat.sl).flatMap (z0t l):=by
  intro T
  induction T with
  | nil=>intro _; rfl
  | cons x T ih =>
   intro hT
   rw [List.map_cons,List.flatMap_cons,List.flatMap_cons,ih (fun y hy=>hT y (List.mem_cons_of_mem _ hy)),hkk x (hT x (List.mem_cons_self ..))]
   rfl
 have hmem:∀ s,s ∈ S.map Seat.sl->∃ x,x ∈ S∧x.n.slot = s:=fun s hs=>by
  obtain ⟨x,h1,h2⟩:=List.mem_map.1 hs
  exact ⟨x,h1,h2⟩
 have hrange:∀ x,x ∈ S->0≤x.n.slot∧x.n.slot < l.length:=fun x hx=>by
  have:=z1r hord (b3 x hx)
  exact this.2.2
 have hcount:∀ s:Int,0≤s->s < l.length->(S.map Seat.sl).count s = 1:=fun s h0 h1=>by
  obtain ⟨n,hn⟩:=ziv h0 h1
  obtain ⟨e1,e2,_⟩:=z1r hord hn
  have:=hcnt n e2
  rw [beq_iff_eq,e1] at this
  rw [← this]
  unfold zd9
  rw [List.count_eq_countP,List.countP_map]
  rfl
 have hall:∀ s:Int,0≤s->s < l.length->s ∈ S.map Seat.sl:=fun s h0 h1=>List.count_pos_iff.1 (by rw [hcount s h0 h1]; decide)
 have hnode:∀ n,n ∈ l->∃ (i:Nat) (x:Seat),S[i]? = some x∧x.n = n:=fun n hn=>by
  obtain ⟨j,hj⟩:=List.mem_iff_getElem?.1 hn
  have hsl:=hord j n hj
  have hjl:=(List.getElem?_eq_some_iff.1 hj).1
  obtain ⟨x,hx1,hx2⟩:=hmem n.slot (hall n.slot (by omega) (by omega))
  obtain ⟨i,hi⟩:=List.mem_iff_getElem?.1 hx1
  refine ⟨i,x,hi,?_⟩
  have e:=b3 x hx1
  rw [hx2,hsl] at e
  unfold ndAt at e
  rw [if_pos (by omega),show ((j:Int)).toNat = j by omega,hj] at e
  cases e; rfl
 have hq0:S.map Seat.sl = 0 :: (S.map Seat.sl).flatMap (z0t l):=by rw [← hfl S (fun x hx=>hx)]; exact b1
 have hkin:∀ x,x ∈ S->∀ k,k ∈ x.n.kids->k ∈ S.map Seat.sl:=fun x hx k hk=>by
  rw [hq0]
  refine List.mem_cons_of_mem _ (List.mem_flatMap.2 ⟨x.n.slot,List.mem_map.2 ⟨x,hx,rfl⟩,?_⟩)
  unfold z0t
  rw [b3 x hx]
  exact hk
 have htop:∀ n,ndB c n = true->(0≤n.right ↔ n.top = false):=fun n hn=>by
  unfold ndB at hn
  rw [Bool.and_eq_true,Bool.and_eq_true] at hn
  have:=hn.1.2
  unfold topB at this
  cases ht:n.top with
  | true =>
   rw [ht,if_pos rfl,Bool.and_eq_true,decide_eq_true_eq] at this
   rw [this.2]; simp
  | false =>
   rw [ht,if_neg (by decide),Bool.and_eq_true,decide_eq_true_eq] at this
   simp [this.2]
 have hlad:Lad l:=by
  refine ⟨hord,by omega,fun n hn=>?_,fun n hn k hk=>?_,fun n hn=>?_,fun n hn=>?_⟩
  ·have:=hlt n hn
   unfold Nd.light at this
   simp only [Bool.and_eq_true,decide_eq_true_eq] at this
   omega
  ·obtain ⟨i,x,hi,hx⟩:=hnode n hn
   have hxm:=List.mem_of_getElem? hi
   obtain ⟨y,y1,y2⟩:=hmem k (hkin x hxm k (by rw [hx]; exact hk))
   rw [← y2]; exact hrange y y1
  ·obtain ⟨i,x,hi,hx⟩:=hnode n hn
   rcases zj5 hlink hi with q | ⟨y,y1,y2⟩
   ·rw [← hx,q]; omega
   ·rw [← hx,y2]; exact (hrange y (List.mem_of_getElem? y1)).2
  ·obtain ⟨i,x,hi,hx⟩:=hnode n hn
   rw [← hx]; exact htop x.n (hseat x (List.mem_of_getElem? hi))
 have hlive:∀ j,j < (S.map Seat.sl).length->j < 1 + (((S.map Seat.sl).take j).flatMap (z0t l)).length:=fun j hj=>by
  rw [List.length_map] at hj
  have:=b2 j hj
  rw [hfl (S.take j) (fun x hx=>List.mem_of_mem_take hx),List.map_take] at this
  exact this
 refine ⟨hlad,⟨hq0,?_,fun s hs=>?_,hlive⟩,fun i s x hi hx=>?_,hall,hrange,by rw [← hl1]; omega⟩
 ·refine z6t fun s hs=>?_
  obtain ⟨x,h1,h2⟩:=hmem s hs
  have:=hrange x h1
  rw [h2] at this
  exact hcount s this.1 this.2
 ·obtain ⟨x,h1,h2⟩:=hmem s hs
  rw [← h2]; exact hrange x h1
 ·have hil:=(List.getElem?_eq_some_iff.1 hi).1
  obtain ⟨y,hy,hys⟩:∃ y,S[i]? = some y∧y.n.slot = s:=by
   rw [List.getElem?_map] at hi
   cases e:S[i]? with
   | none=>rw [e] at hi; cases hi
   | some y=>rw [e] at hi; cases hi; exact ⟨y,rfl,rfl⟩
  have hym:=List.mem_of_getElem? hy
  unfold steps at hx
  rw [← hys,b3 y hym] at hx
  rcases List.mem_append.1 (show x ∈ y.n.kids ++ _ from hx) with q | q
  ·obtain ⟨m,hml,hm⟩:=List.mem_iff_getElem.1 q
   have hq0':=hq0
   have hsp:S.map Seat.sl = (S.map Seat.sl).take i ++ s :: (S.map Seat.sl).drop (i + 1):=by
    have:(S.map Seat.sl)[i] = s:=by
     have:=List.getElem?_eq_getElem hil
     rw [hi] at this; cases this; rfl
    rw [← this,List.getElem_cons_drop,List.take_append_drop]
   have hkk2:z0t l s = y.n.kids:=by
    unfold z0t
    rw [← hys,b3 y hym]; rfl
   have hfm:(S.map Seat.sl).flatMap (z0t l) = ((S.map Seat.sl).take i).flatMap (z0t l) ++ (y.n.kids ++ ((S.map Seat.sl).drop (i + 1)).flatMap (z0t l)):=by
    conv=>lhs; rw [hsp]
    rw [List.flatMap_append,List.flatMap_cons,hkk2]
   have hlv:=hlive i hil
   have hq1:=hq0.trans (congrArg (List.cons 0) hfm)
   generalize ((S.map Seat.sl).take i).flatMap (z0t l) = A at hq1 hlv
   refine ⟨1 + A.length + m,by omega,?_⟩
   rw [hq1,show 1 + A.length + m = (A.length + m) + 1 by omega,List.getElem?_cons_succ,List.getElem?_append_right (by omega),Nat.add_sub_cancel_left,List.getElem?_append_left hml,List.getElem?_eq_getElem hml,hm]
  ·cases ht:y.n.top with
   | true=>rw [ht] at q; cases q
   | false =>
    rw [ht] at q
    have hxr:x = y.n.right:=by simpa using q
    have hr:=(htop y.n (hseat y hym)).2 ht
    rcases zj5 hlink hy with w | ⟨z,z1,z2⟩
    ·omega
    ·exact ⟨i + 1,by omega,by rw [List.getElem?_map,z1,hxr,z2]; rfl⟩
theorem Bel.pos {l:List Nd} {S:List Seat} (h:TreeLaw l S) {a b:Int} (hb:Bel l a b):∀ {i:Nat},(S.map Seat.sl)[i]? = some a->∃ j,i < j∧(S.map Seat.sl)[j]? = some b:=by
 induction hb with
 | one hb=>exact fun {i} hi=>h.pos i _ _ hi hb
 | more _ hb ih =>
  intro i hi
  obtain ⟨j,h1,h2⟩:=ih hi
  obtain ⟨j',h3,h4⟩:=h.pos j _ _ h2 hb
  exact ⟨j',by omega,h4⟩
theorem Bel.from {l:List Nd} {S:List Seat} (h:TreeLaw l S) {a b:Int} (hb:Bel l a b):a ∈ S.map Seat.sl:=by
 induction hb with
 | one hb =>
  unfold steps at hb
  cases e:ndAt l a with
  | none=>rw [e] at hb; cases hb
  | some n =>
   have:=z1r h.lad.ord e
   exact h.all a this.2.2.1 this.2.2.2
 | more _ _ ih=>exact ih
end
section
abbrev Edge:=Int × Int
inductive TC (l:List Edge):Int->Int->Prop
 | one {a b:Int}:(a,b) ∈ l->TC l a b
 | step {a b c:Int}:TC l a b->(b,c) ∈ l->TC l a c
def Rise:List Int->Prop:=List.Pairwise (· < ·)
theorem z4v:∀ {a b:List Int},Rise a->Rise b->(∀ x,x ∈ a ↔ x ∈ b)->a = b
 | [],[],_,_,_=>rfl
 | [],y :: b,_,_,h=>absurd ((h y).2 (by simp)) (by simp)
 | x :: a,[],_,_,h=>absurd ((h x).1 (by simp)) (by simp)
 | x :: a,y :: b,ha,hb,h=>by
  have ha':=List.pairwise_cons.1 ha
  have hb':=List.pairwise_cons.1 hb
  have e:x = y:=by
   rcases List.mem_cons.1 ((h x).1 (by simp)) with e | e
   ·exact e
   ·rcases List.mem_cons.1 ((h y).2 (by simp)) with e' | e'
    ·exact e'.symm
    ·have:=hb'.1 x e; have:=ha'.1 y e'; omega
  subst e
  congr 1
  refine z4v ha'.2 hb'.2 fun z=>⟨fun hz=>?_,fun hz=>?_⟩
  ·rcases List.mem_cons.1 ((h z).1 (List.mem_cons_of_mem _ hz)) with e | e
   ·have:=ha'.1 z hz; omega
   ·exact e
  ·rcases List.mem_cons.1 ((h z).2 (List.mem_cons_of_mem _ hz)) with e | e
   ·have:=hb'.1 z hz; omega
   ·exact e
def insR (x:Int):List Int->List Int
 | []=>[x]
 | y :: l=>if x < y then x :: y :: l else if x = y then y :: l else y :: insR x l
theorem zrs {x z:Int}:∀ {l:List Int},z ∈ insR x l ↔ z = x∨z ∈ l
 | []=>by simp [insR]
 | y :: l=>by
  unfold insR
  split
  ·simp
  ·split
   ·rename_i h; subst h; simp
   ·simp only [List.mem_cons,zrs (l:=l)]
    constructor
    ·rintro (h | h | h) <;> simp [h]
    ·rintro (h | h | h) <;> simp [h]
theorem ztc {x:Int}:∀ {l:List Int},Rise l->Rise (insR x l)
 | [],_=>by simp [insR,Rise]
 | y :: l,h=>by
  have h':=List.pairwise_cons.1 h
  unfold insR
  split
  ·rename_i hlt
   refine List.pairwise_cons.2 ⟨fun z hz=>?_,h⟩
   rcases List.mem_cons.1 hz with e | e
   ·omega
   ·have:=h'.1 z e; omega
  ·split
   ·exact h
   ·refine List.pairwise_cons.2 ⟨fun z hz=>?_,ztc h'.2⟩
    rcases zrs.1 hz with e | e
    ·omega
    ·exact h'.1 z e
def srtI (l:List Int):List Int:=l.foldr insR []
theorem z3f {z:Int}:∀ {l:List Int},z ∈ srtI l ↔ z ∈ l
 | []=>by simp [srtI]
 | x :: l=>by
  show z ∈ insR x (srtI l) ↔ _
  rw [zrs,z3f,List.mem_cons]
theorem z4g:∀ (l:List Int),Rise (srtI l)
 | []=>List.Pairwise.nil
 | x :: l=>ztc (z4g l)
def z89 (from_:Int):List Edge->List Int->List Int
 | [],met=>met
 | e :: l,met=>z89 from_ l (if (e.1 == from_ || met.contains e.1) && !met.contains e.2 then met ++ [e.2] else met)
def zs1 (l:List Edge) (a:Int):Nat->List Int->List Int
 | 0,met=>met
 | k + 1,met=>zs1 l a k (z89 a l met)
def reachL (l:List Edge) (a:Int):List Int:=srtI (zs1 l a l.length [])
theorem z4j (a:Int):∀ (l:List Edge) (met:List Int),∃ t,z89 a l met = met ++ t
 | [],met=>⟨[],by simp [z89]⟩
 | e :: l,met=>by
  unfold z89
  split
  ·obtain ⟨t,h⟩:=z4j a l (met ++ [e.2])
   exact ⟨e.2 :: t,by rw [h]; simp⟩
  ·exact z4j a l met
theorem pass_tc {L:List Edge} {a:Int}:∀ {l:List Edge} {met:List Int},(∀ e,e ∈ l->e ∈ L)->(∀ b,b ∈ met->TC L a b)->∀ b,b ∈ z89 a l met->TC L a b
 | [],met,_,hm=>hm
 | e :: l,met,hl,hm=>by
  unfold z89
  refine pass_tc (fun x hx=>hl x (List.mem_cons_of_mem _ hx)) ?_
  split
  ·rename_i hc
   intro b hb
   rcases List.mem_append.1 hb with h | h
   ·exact hm b h
   ·have hb:b = e.2:=by simpa using h
    subst hb
    simp only [Bool.and_eq_true,Bool.or_eq_true,beq_iff_eq,List.contains_iff_mem] at hc
    have he:(e.1,e.2) ∈ L:=hl e (by simp)
    rcases hc.1 with h1 | h1
    ·rw [h1] at he; exact .one he
    ·exact .step (hm _ h1) he
  ·exact hm
theorem zbm {a:Int}:∀ {l:List Edge} {met:List Int},met.Nodup->(z89 a l met).Nodup
 | [],met,h=>h
 | e :: l,met,h=>by
  unfold z89
  refine zbm ?_
  split
  ·rename_i hc
   simp only [Bool.and_eq_true,Bool.not_eq_true',List.contains_eq_mem,decide_eq_false_iff_not] at hc
   exact List.nodup_append.2 ⟨h,by simp,fun x hx y hy e'=>by
    have hy':y = e.2:=by simpa using hy
    subst hy'; subst e'; exact hc.2 hx⟩
  ·exact h
theorem z88 {L:List Edge} {a:Int}:∀ {l:List Edge} {met:List Int},(∀ e,e ∈ l->e ∈ L)->(∀ b,b ∈ met->b ∈ L.map (·.2))->∀ b,b ∈ z89 a l met->b ∈ L.map (·.2)
 | [],met,_,hm=>hm
 | e :: l,met,hl,hm=>by
  unfold z89
  refine z88 (fun x hx=>hl x (List.mem_cons_of_mem _ hx)) ?_
  split
  ·intro b hb
   rcases List.mem_append.1 hb with h | h
   ·exact hm b h
   ·have hb:b = e.2:=by simpa using h
    subst hb
    exact List.mem_map.2 ⟨e,hl e (by simp),rfl⟩
  ·exact hm
theorem y6m {a:Int}:∀ {l:List Edge} {met:List Int},z89 a l met = met->∀ e,e ∈ l->(e.1 = a∨e.1 ∈ met)->e.2 ∈ met
 | [],met,_,e,he,_=>by simp at he
 | x :: l,met,h,e,he,hr=>by
  unfold z89 at h
  split at h
  ·obtain ⟨t,ht⟩:=z4j a l (met ++ [x.2])
   rw [ht] at h
   have:=congrArg List.length h
   simp only [List.length_append,List.length_cons] at this
   omega
  ·rename_i hc
   rcases List.mem_cons.1 he with e1 | e1
   ·subst e1
    simp only [Bool.and_eq_true,Bool.or_eq_true,beq_iff_eq,Bool.not_eq_true',List.contains_eq_mem,decide_eq_true_eq,decide_eq_false_iff_not,not_and,Decidable.not_not] at hc
    exact hc hr
   ·exact y6m h e e1 hr
theorem z7u {a b:List Int} (ha:a.Nodup) (h:∀ x,x ∈ a->x ∈ b):a.length≤b.length:=by
 induction a generalizing b with
 | nil=>exact Nat.zero_le _
 | cons x a ih =>
  have hx:=List.nodup_cons.1 ha
  have hb:=h x (by simp)
  have:=ih (b:=b.erase x) hx.2 (fun y hy=>(List.mem_erase_of_ne (fun (e:y = x)=>hx.1 (by rw [← e]; exact hy))).2 (h y (List.mem_cons_of_mem _ hy)))
  rw [List.length_erase_of_mem hb] at this
  have:0 < b.length:=List.length_pos_of_mem hb
  simp only [List.length_cons]
  omega
theorem y70 (l:List Edge) (a:Int):∀ (k:Nat) (met:List Int),met.Nodup->(∀ b,b ∈ met->b ∈ l.map (·.2))->l.length≤met.length + k->z89 a l (zs1 l a k met) = zs1 l a k met
 | 0,met,hn,ht,hk=>by
  obtain ⟨t,h⟩:=z4j a l met
  have h1:=z7u (zbm (a:=a) (l:=l) hn) (z88 (L:=l) (fun _ h=>h) ht)
  rw [List.length_map] at h1
  have h2:=congrArg List.length h
  rw [List.length_append] at h2
  have:t = []:=List.length_eq_zero_iff.1 (by omega)
  show z89 a l met = met
  rw [h,this,List.append_nil]
 | k + 1,met,hn,ht,hk=>by
  unfold zs1
  obtain ⟨t,h⟩:=z4j a l met
  cases t with
  | nil =>
   rw [List.append_nil] at h
   rw [h]
   have hfix:∀ k,zs1 l a k met = met:=fun k=>by
    induction k with
    | zero=>rfl
    | succ k ih=>unfold zs1; rw [h]; exact ih
   rw [hfix,h]
  | cons y t =>
   refine y70 l a k _ (zbm hn) (z88 (fun _ h=>h) ht) ?_
   rw [h,List.length_append,List.length_cons]; omega
theorem iter_tc {l:List Edge} {a:Int}:∀ {k:Nat} {met:List Int},(∀ b,b ∈ met->TC l a b)->∀ b,b ∈ zs1 l a k met->TC l a b
 | 0,met,h=>h
 | k + 1,met,h=>by unfold zs1; exact iter_tc (pass_tc (fun _ h=>h) h)
theorem closed_all {l:List Edge} {a:Int} {met:List Int} (h:∀ e,e ∈ l->(e.1 = a∨e.1 ∈ met)->e.2 ∈ met):∀ b,TC l a b->b ∈ met:=fun b hb=>by
 induction hb with
 | one h1=>exact h _ h1 (.inl rfl)
 | step _ h2 ih=>exact h _ h2 (.inr ih)
theorem zpe {l:List Edge} {a b:Int}:b ∈ reachL l a ↔ TC l a b:=by
 unfold reachL
 rw [z3f]
 refine ⟨iter_tc (fun b hb=>by simp at hb) b,closed_all (y6m (y70 l a l.length [] List.nodup_nil (fun b hb=>by simp at hb) (by simp))) b⟩
def zcl (l:List Edge):List Int:=(srtI (l.map (·.1))).filter fun n=>(reachL l n).contains n
theorem zsw {l:List Edge} {r:List Int} (hr:Rise r) (h:∀ n,n ∈ r ↔ n ∈ l.map (·.1)∧TC l n n):r = zcl l:=by
 refine z4v hr (List.Pairwise.filter _ (z4g _)) fun n=>?_
 rw [h n]
 unfold zcl
 rw [List.mem_filter,z3f,List.contains_iff_mem,zpe]
end
section
open Go.RowKit
def z1d (l:List Hld) (t:Int):List Int:=(l.filter fun h=>h.thread == t).map fun h=>h.slot
def z0m (bw:Int->Int->Bool):List Int->List Int->Bool
 | [],[]=>false
 | [],[w]=>w != 0
 | [a],[]=>false
 | [a],[w]=>!bw a w
 | [a,b],[]=>!bw a b && !bw b a
 | [a,b],[w]=>if !bw a b && !bw b a then true else !bw a w || !bw b w
 | _,_=>true
def bwL (l:List Nd) (a b:Int):Bool:=(belowL l a).contains b
def fltB (l:List Nd) (hs ws:List Hld) (t:Int):Bool:=z0m (bwL l) (z1d hs t) (z1d ws t)
theorem zjs {bw:Int->Int->Bool} {has wants:List Int} (h:z0m bw has wants = false) {w:Int} (hw:w ∈ wants):wants = [w]∧∀ a,a ∈ has->bw a w = true:=by
 match has,wants,h,hw with
 | [],[x],h,hw=>
  cases List.mem_singleton.1 hw
  exact ⟨rfl,fun a ha=>by cases ha⟩
 | [a],[x],h,hw =>
  cases List.mem_singleton.1 hw
  simp only [z0m,Bool.not_eq_false'] at h
  exact ⟨rfl,fun b hb=>by cases List.mem_singleton.1 hb; exact h⟩
 | [a,b],[x],h,hw =>
  cases List.mem_singleton.1 hw
  simp only [z0m] at h
  split at h
  ·cases h
  ·rw [Bool.or_eq_false_iff,Bool.not_eq_false',Bool.not_eq_false'] at h
   refine ⟨rfl,fun c hc=>?_⟩
   rcases List.mem_cons.1 hc with rfl | hc
   ·exact h.1
   ·cases List.mem_singleton.1 hc; exact h.2
 | [],y :: z :: r,h,hw=>simp [z0m] at h
 | [a],y :: z :: r,h,hw=>simp [z0m] at h
 | [a,b],y :: z :: r,h,hw=>simp [z0m] at h
 | a :: b :: c :: r,[],h,hw=>cases hw
 | a :: b :: c :: r,y :: z,h,hw=>simp [z0m] at h
theorem z6m {l:List Hld} {h:Hld} (hh:h ∈ l):h.slot ∈ z1d l h.thread:=List.mem_map.2 ⟨h,List.mem_filter.2 ⟨hh,by simp⟩,rfl⟩
def ddL:List Int->List Int->List Int
 | [],m=>m
 | t :: ts,m=>ddL ts (if m.contains t then m else m ++ [t])
theorem y88 (t:Int):∀ (ts m:List Int),ddL (ts ++ [t]) m = if (ddL ts m).contains t then ddL ts m else ddL ts m ++ [t]
 | [],m=>rfl
 | x :: ts,m=>by rw [List.cons_append,ddL,y88 t ts]; rfl
theorem y1h {t:Int}:∀ {ts m:List Int},t ∈ ddL ts m ↔ t ∈ m∨t ∈ ts
 | [],m=>by simp [ddL]
 | x :: ts,m=>by
  rw [ddL,y1h]
  by_cases h:m.contains x = true
  ·rw [if_pos h]
   rw [List.contains_iff_mem] at h
   constructor
   ·rintro (h1 | h1)
    ·exact .inl h1
    ·exact .inr (List.mem_cons_of_mem _ h1)
   ·rintro (h1 | h1)
    ·exact .inl h1
    ·rcases List.mem_cons.1 h1 with rfl | h1
     ·exact .inl h
     ·exact .inr h1
  ·rw [if_neg h]
   rw [List.mem_append,List.mem_singleton,List.mem_cons,or_assoc]
theorem zxp:∀ {ts m:List Int},m.Nodup->(ddL ts m).Nodup
 | [],m,h=>h
 | x :: ts,m,h=>by
  rw [ddL]
  refine zxp ?_
  by_cases hx:m.contains x = true
  ·rw [if_pos hx]; exact h
  ·rw [if_neg hx]
   rw [List.contains_iff_mem] at hx
   rw [List.nodup_append]
   exact ⟨h,by simp,fun a ha b hb=>by cases List.mem_singleton.1 hb; exact fun e=>hx (e ▸ ha)⟩
def fltL (l:List Nd) (hs ws:List Hld):List Int:=(ddL ((hs ++ ws).map fun h=>h.thread) []).filter fun t=>fltB l hs ws t
def thrL (hs ws:List Hld):List Int:=(hs ++ ws).map fun h=>h.thread
theorem z8y {l:List Nd} {hs ws:List Hld} {t:Int}:t ∈ fltL l hs ws ↔ t ∈ thrL hs ws∧fltB l hs ws t = true:=by
 unfold fltL thrL
 rw [List.mem_filter,y1h]
 simp
theorem flt_has {l:List Nd} {hs ws:List Hld} {t:Int} (ht:t ∈ thrL hs ws):(srtI (fltL l hs ws)).contains t = fltB l hs ws t:=by
 rw [List.contains_eq_mem]
 cases h:fltB l hs ws t with
 | true=>exact decide_eq_true (z3f.2 (z8y.2 ⟨ht,h⟩))
 | false=>exact decide_eq_false fun q=>by rw [(z8y.1 (z3f.1 q)).2] at h; cases h
theorem flt_at {l:List Nd} {hs ws:List Hld} {t:Int} (ht:t ∈ srtI (fltL l hs ws)):fltB l hs ws t = true:=(z8y.1 (z3f.1 ht)).2
theorem flt_none {l:List Nd} {hs ws:List Hld} (h:srtI (fltL l hs ws) = []):∀ t,(∃ x,(x ∈ hs∨x ∈ ws)∧x.thread = t)->fltB l hs ws t = false:=by
 rintro t ⟨x,hx,rfl⟩
 have ht:x.thread ∈ thrL hs ws:=List.mem_map.2 ⟨x,List.mem_append.2 hx,rfl⟩
 rw [← flt_has ht,h]
 rfl
end
section
open Go.RowKit
attribute [local go_sem ↓] z18 z0h
def r_lsl_0:Reg:=⟨[],[⟨.mknil 1 3,some 4,none,[],[]⟩],[4],[],false⟩
def r_lsl_1:Reg:=⟨[],[⟨.mknil 1 3,some 5,none,[],[]⟩],[5],[],false⟩
def zzo:List ROp:=[⟨.mv (.t 0),some 8,none,[],[]⟩,⟨.len false (.t 8),some 9,none,[],[]⟩,⟨.mv (.c (.int .i64 0)),some 10,none,[],[]⟩]
def r_lsl_2:Reg:=⟨[],zzo,[],[],false⟩
def r_lsl_3:Reg:=⟨[],[⟨.bin .lss (.t 10) (.t 9),some 11,none,[],[]⟩],[],[],false⟩
def zzn:List ROp:=[⟨.iaddr 3 (.t 8) (.t 10),some 12,none,[7],[]⟩,⟨.load 3 true (.t 12),some 13,none,[7],[]⟩,⟨.alloc 3 32 (.agg [(.int .i64 0),(.int .i64 0),(.bool false)]),some 7,none,[],[]⟩,⟨.store 3 (.t 7) (.t 13),none,none,[],[]⟩]
def r_lsl_4:Reg:=⟨[],zzn,[7],[],false⟩
def zzm:List ROp:=[⟨.faddr 0 (.t 7),some 14,none,[],[]⟩,⟨.load 1 false (.t 14),some 15,none,[],[]⟩,⟨.mv (.t 1),some 16,none,[],[]⟩,⟨.bin .eql (.t 15) (.t 16),some 17,none,[],[]⟩]
def r_lsl_5:Reg:=⟨[],zzm,[],[],false⟩
def zzl:List ROp:=[⟨.mv (.t 5),some 18,none,[21],[]⟩,⟨.faddr 1 (.t 7),some 19,none,[21],[]⟩,⟨.load 1 false (.t 19),some 20,none,[21],[]⟩,⟨.bsl 1 3 [(.t 20)],some 21,none,[],[]⟩,⟨.append 1 3 8 (.t 18) (.t 21),some 22,none,[],[]⟩,⟨.mv (.t 22),some 5,none,[],[]⟩]
def r_lsl_6:Reg:=⟨[],zzl,[21],[],false⟩
def r_lsl_7:Reg:=⟨[],[⟨.bin .add (.t 10) (.c (.int .i64 1)),some 23,none,[],[]⟩,⟨.mv (.t 23),some 10,none,[],[]⟩],[],[],false⟩
def y57:IR:=(.seq (.reg r_lsl_3)
 (.seq (.cond (.t 11) .skip
 (.exit 0))
 (.seq (.block 1 (.seq (.reg r_lsl_4)
 (.seq (.reg r_lsl_5)
 (.cond (.t 17) (.reg r_lsl_6)
 .skip))))
 (.reg r_lsl_7))))
def r_lsl_9:Reg:=⟨[],[⟨.mv (.t 5),some 24,none,[],[]⟩,⟨.mv (.t 24),some 4,none,[],[]⟩],[],[],false⟩
def ir_lsl:IR:=(.seq (.reg r_lsl_0)
 (.seq (.reg r_lsl_1)
 (.seq (.seq (.reg r_lsl_2)
 (.block 0 (.loop y57)))
 (.seq (.reg r_lsl_9)
 .ret))))
def res_lsl:List RDesc:=[(.tmp 4)]
theorem e_lsl_0:EqR r_lsl_0 [⟨.mknil 1 3,some 4,none,[],[]⟩] [4]:=fun _ _ _=>rfl
theorem e_lsl_1:EqR r_lsl_1 [⟨.mknil 1 3,some 5,none,[],[]⟩] [5]:=fun _ _ _=>rfl
theorem e_lsl_2:EqR r_lsl_2 zzo []:=fun _ _ _=>rfl
theorem e_lsl_3:EqR r_lsl_3 [⟨.bin .lss (.t 10) (.t 9),some 11,none,[],[]⟩] []:=fun _ _ _=>rfl
theorem e_lsl_4:EqR r_lsl_4 zzn [7]:=fun _ _ _=>rfl
theorem e_lsl_5:EqR r_lsl_5 zzm []:=fun _ _ _=>rfl
theorem e_lsl_6:EqR r_lsl_6 zzl [21]:=fun _ _ _=>rfl
theorem e_lsl_7:EqR r_lsl_7 [⟨.bin .add (.t 10) (.c (.int .i64 1)),some 23,none,[],[]⟩,⟨.mv (.t 23),some 10,none,[],[]⟩] []:=fun _ _ _=>rfl
theorem e_lsl_9:EqR r_lsl_9 [⟨.mv (.t 5),some 24,none,[],[]⟩,⟨.mv (.t 24),some 4,none,[],[]⟩] []:=fun _ _ _=>rfl
theorem fn_lsl {args:List AV} {r:AV} (ha:args.length.ble Tryz.f21.ntmps = true) (h:run (AFn Tryz.prog) ir_lsl (endQ res_lsl r) (z0b args)):AFn Tryz.prog 21 args r :=
 AFn.of_code (pv:=false) (hint:=fun _=>[]) (c:=Tryz.f21.body.getD .skip) (by kernel_rfl) (by kernel_rfl) Tryz.func21 (by kernel_rfl) (by kernel_rfl) (by kernel_rfl) (of_decide_eq_true (by kernel_rfl)) (Nat.le_of_ble_eq_true ha) (Nat.le_of_ble_eq_true (by kernel_rfl)) (z09 h)
def r_lrs_0:Reg:=⟨[],[⟨.mknil 1 3,some 4,none,[],[]⟩],[4],[],false⟩
def r_lrs_1:Reg:=⟨[],[⟨.mknil 1 3,some 5,none,[],[]⟩],[5],[],false⟩
def r_lrs_2:Reg:=⟨[],[⟨.mv (.c (.int .i64 0)),some 6,none,[],[]⟩],[],[],false⟩
def zzs:List ROp:=[⟨.mv (.t 6),some 7,none,[],[]⟩,⟨.mv (.t 0),some 8,none,[],[]⟩,⟨.len false (.t 8),some 9,none,[],[]⟩,⟨.bin .lss (.t 7) (.t 9),some 10,none,[],[]⟩]
def r_lrs_3:Reg:=⟨[],zzs,[],[],false⟩
def zzr:List ROp:=[⟨.mv (.t 0),some 13,none,[],[]⟩,⟨.mv (.t 6),some 14,none,[],[]⟩,⟨.iaddr 3 (.t 13) (.t 14),some 15,none,[],[]⟩,⟨.faddr 0 (.t 15),some 16,none,[],[]⟩,⟨.load 1 false (.t 16),some 17,none,[],[]⟩,⟨.mv (.t 1),some 18,none,[],[]⟩,⟨.bin .eql (.t 17) (.t 18),some 19,none,[],[]⟩]
def r_lrs_4:Reg:=⟨[],zzr,[],[],false⟩
def zzq:List ROp:=[⟨.mv (.t 5),some 20,none,[26],[]⟩,⟨.mv (.t 0),some 21,none,[26],[]⟩,⟨.mv (.t 6),some 22,none,[26],[]⟩,⟨.iaddr 3 (.t 21) (.t 22),some 23,none,[26],[]⟩,⟨.faddr 1 (.t 23),some 24,none,[26],[]⟩,⟨.load 1 false (.t 24),some 25,none,[26],[]⟩,⟨.bsl 1 3 [(.t 25)],some 26,none,[],[]⟩,⟨.append 1 3 8 (.t 20) (.t 26),some 27,none,[],[]⟩,⟨.mv (.t 27),some 5,none,[],[]⟩]
def r_lrs_5:Reg:=⟨[],zzq,[26],[],false⟩
def zzp:List ROp:=[⟨.mv (.t 6),some 11,none,[],[]⟩,⟨.bin .add (.t 11) (.c (.int .i64 1)),some 12,none,[],[]⟩,⟨.mv (.t 12),some 6,none,[],[]⟩]
def r_lrs_6:Reg:=⟨[],zzp,[],[],false⟩
def y58:IR:=(.seq (.seq (.reg r_lrs_3)
 (.cond (.t 10) .skip
 (.exit 0)))
 (.seq (.block 1 (.seq (.reg r_lrs_4)
 (.cond (.t 19) (.reg r_lrs_5)
 .skip)))
 (.reg r_lrs_6)))
def r_lrs_8:Reg:=⟨[],[⟨.mv (.t 5),some 28,none,[],[]⟩,⟨.mv (.t 28),some 4,none,[],[]⟩],[],[],false⟩
def ir_lrs:IR:=(.seq (.reg r_lrs_0)
 (.seq (.reg r_lrs_1)
 (.seq (.seq (.reg r_lrs_2)
 (.block 0 (.loop y58)))
 (.seq (.reg r_lrs_8)
 .ret))))
def res_lrs:List RDesc:=[(.tmp 4)]
theorem e_lrs_0:EqR r_lrs_0 [⟨.mknil 1 3,some 4,none,[],[]⟩] [4]:=fun _ _ _=>rfl
theorem e_lrs_1:EqR r_lrs_1 [⟨.mknil 1 3,some 5,none,[],[]⟩] [5]:=fun _ _ _=>rfl
theorem e_lrs_2:EqR r_lrs_2 [⟨.mv (.c (.int .i64 0)),some 6,none,[],[]⟩] []:=fun _ _ _=>rfl
theorem e_lrs_3:EqR r_lrs_3 zzs []:=fun _ _ _=>rfl
theorem e_lrs_4:EqR r_lrs_4 zzr []:=fun _ _ _=>rfl
theorem e_lrs_5:EqR r_lrs_5 zzq [26]:=fun _ _ _=>rfl
theorem e_lrs_6:EqR r_lrs_6 zzp []:=fun _ _ _=>rfl
theorem e_lrs_8:EqR r_lrs_8 [⟨.mv (.t 5),some 28,none,[],[]⟩,⟨.mv (.t 28),some 4,none,[],[]⟩] []:=fun _ _ _=>rfl
theorem fn_lrs {args:List AV} {r:AV} (ha:args.length.ble Tryz.f23.ntmps = true) (h:run (AFn Tryz.prog) ir_lrs (endQ res_lrs r) (z0b args)):AFn Tryz.prog 23 args r :=
 AFn.of_code (pv:=false) (hint:=fun _=>[]) (c:=Tryz.f23.body.getD .skip) (by kernel_rfl) (by kernel_rfl) Tryz.func23 (by kernel_rfl) (by kernel_rfl) (by kernel_rfl) (of_decide_eq_true (by kernel_rfl)) (Nat.le_of_ble_eq_true ha) (Nat.le_of_ble_eq_true (by kernel_rfl)) (z09 h)
attribute [local go_sem ↓] ir_lsl
attribute [local go_sem] res_lsl e_lsl_0 e_lsl_1 e_lsl_2 zzo e_lsl_3 e_lsl_4 zzn e_lsl_5 zzm e_lsl_6 zzl e_lsl_7 e_lsl_9
attribute [local go_sem ↓] ir_lrs
attribute [local go_sem] res_lrs e_lrs_0 e_lrs_1 e_lrs_2 e_lrs_3 zzs e_lrs_4 zzr e_lrs_5 zzq e_lrs_6 zzp e_lrs_8
theorem atHf {l:List Hld} {j:Nat} {h:Hld} (hj:l[j]? = some h):(l.map Hld.a).getD j .und = .agg [.int .i64 h.thread,.int .i64 h.slot,.bool h.wr]:=by
 rw [List.getD_eq_getElem?_getD,List.getElem?_map,hj]; rfl
theorem zg0 {l:List Hld} {j:Nat} {h:Hld} (hj:l[j]? = some h) (t:Int):z1d (l.take (j + 1)) t = z1d (l.take j) t ++ (if h.thread = t then [h.slot] else []):=by
 unfold z1d
 rw [take_at hj,List.filter_append,List.map_append]
 by_cases e:h.thread = t <;> simp [e]
theorem z6i (l:List Hld) (t:Int):(z1d l t).length≤l.length:=by
 unfold z1d
 rw [List.length_map]
 exact List.length_filter_le ..
def lslI (l:List Hld) (t:Int) (k:Nat) (σ:St):Prop :=
 ∃ (j:Nat) (out:List Int),j≤l.length∧k = l.length - j∧out = z1d (l.take j) t∧σ.T 1 = .int .i64 t∧σ.T 5 = .rs 5 0 out.length∧σ.H 5 = some ⟨1,3,out.map (AV.int .i64),0⟩∧σ.T 8 = .sl (l.map Hld.a)∧σ.T 9 = .int .i64 l.length∧σ.T 10 = .int .i64 j
set_option maxHeartbeats 4000000 in
theorem slotsOf_ok (l:List Hld) (hl:l.length≤1000) (t:Int):AFn Tryz.prog 21 [.sl (l.map Hld.a),.int .i64 t] (.own 1 3 ((z1d l t).map (AV.int .i64))):=by
 refine fn_lsl rfl ?_
 simp (maxSteps:=9^7) only [go_sem,Msg.a,Par.a,List.length_map]
 refine z06 (lslI l t) (k:=l.length) ⟨0,[],Nat.zero_le _,rfl,rfl,?_,?_,?_,?_,?_,?_⟩ ?_ <;> try (simp (maxSteps:=9^7) only [go_sem,Msg.a,Par.a,List.length_map])
 ·rfl
 rintro k σ ⟨j,out,hj,rfl,hout,t1,t5,h5,t8,t9,t10⟩
 simp only [y57]
 by_cases hlt:j < l.length
 case neg =>
  have hlt':¬ (j:Int) < (l.length:Int):=by omega
  rw [List.take_of_length_le (by omega)] at hout
  subst hout
  have tk:((z1d l t).map (AV.int .i64)).take (z1d l t).length = (z1d l t).map (AV.int .i64):=List.take_of_length_le (by simp)
  simp (maxSteps:=9^7) only [go_sem,Msg.a,Par.a,t1,t5,h5,t8,t9,t10,hlt',tk,List.length_map]
 have hlt':(j:Int) < (l.length:Int):=by omega
 obtain ⟨h,hh⟩:=z0f hlt
 have hg:=atHf hh
 have hw:=z1a (j:=j) (by omega)
 have hs:=zg0 hh t
 have hol:out.length≤1000:=by
  have:=z6i (l.take j) t
  rw [List.length_take] at this
  rw [hout]; omega
 have tk:(out.map (AV.int .i64)).take out.length = out.map (AV.int .i64):=List.take_of_length_le (by simp)
 by_cases e:h.thread = t
 ·have e':(h.thread == t) = true:=by simp [e]
  rw [if_pos e,← hout] at hs
  simp (maxSteps:=9^7) only [go_sem,Msg.a,Par.a,t1,t5,h5,t8,t9,t10,hlt',hlt,hg,e',tk,List.length_map,Int.toNat_natCast]
  (repeat refine And.intro (by omega) ?_)
  have em:(out ++ [h.slot]).map (AV.int .i64) = out.map (AV.int .i64) ++ [AV.int .i64 h.slot]:=by rw [List.map_append]; rfl
  have el:(out ++ [h.slot]).length = out.length + 1:=by simp
  refine ⟨⟨⟨by omega,by omega⟩,fun d hd=>by rcases hd with rfl | hd; exact ⟨rfl,rfl⟩; cases hd⟩,l.length - (j + 1),by omega,j + 1,out ++ [h.slot],by omega,rfl,hs.symm,?_,?_,?_,?_,?_,?_⟩ <;> (simp (maxSteps:=9^7) only [go_sem,Msg.a,Par.a,t1,t5,h5,t8,t9,t10,hw,em,el])
 ·have e':(h.thread == t) = false:=by simp [e]
  rw [if_neg e,List.append_nil,← hout] at hs
  simp (maxSteps:=9^7) only [go_sem,Msg.a,Par.a,t1,t5,h5,t8,t9,t10,hlt',hlt,hg,e',tk,List.length_map,Int.toNat_natCast]
  (repeat refine And.intro (by omega) ?_)
  refine ⟨l.length - (j + 1),by omega,j + 1,out,by omega,rfl,hs.symm,?_,?_,?_,?_,?_,?_⟩ <;> (simp (maxSteps:=9^7) only [go_sem,Msg.a,Par.a,t1,t5,h5,t8,t9,t10,hw])
def lrsI (l:List Hld) (t:Int) (k:Nat) (σ:St):Prop :=
 ∃ (j:Nat) (out:List Int),j≤l.length∧k = l.length - j∧out = z1d (l.take j) t∧σ.T 0 = .sl (l.map Hld.a)∧σ.T 1 = .int .i64 t∧σ.T 5 = .rs 5 0 out.length∧σ.H 5 = some ⟨1,3,out.map (AV.int .i64),0⟩∧σ.T 6 = .int .i64 j
set_option maxHeartbeats 4000000 in
theorem zxh (l:List Hld) (hl:l.length≤1000) (t:Int):AFn Tryz.prog 23 [.sl (l.map Hld.a),.int .i64 t] (.own 1 3 ((z1d l t).map (AV.int .i64))):=by
 refine fn_lrs rfl ?_
 simp (maxSteps:=9^7) only [go_sem,Msg.a,Par.a,List.length_map]
 refine z06 (lrsI l t) (k:=l.length) ⟨0,[],Nat.zero_le _,rfl,rfl,?_,?_,?_,?_,?_⟩ ?_ <;> try (simp (maxSteps:=9^7) only [go_sem,Msg.a,Par.a,List.length_map])
 ·rfl
 rintro k σ ⟨j,out,hj,rfl,hout,t0,t1,t5,h5,t6⟩
 simp only [y58]
 by_cases hlt:j < l.length
 case neg =>
  have hlt':¬ (j:Int) < (l.length:Int):=by omega
  rw [List.take_of_length_le (by omega)] at hout
  subst hout
  have tk:((z1d l t).map (AV.int .i64)).take (z1d l t).length = (z1d l t).map (AV.int .i64):=List.take_of_length_le (by simp)
  simp (maxSteps:=9^7) only [go_sem,Msg.a,Par.a,t0,t1,t5,h5,t6,hlt',tk,List.length_map]
 have hlt':(j:Int) < (l.length:Int):=by omega
 obtain ⟨h,hh⟩:=z0f hlt
 have hg:=atHf hh
 have hw:=z1a (j:=j) (by omega)
 have hs:=zg0 hh t
 have hol:out.length≤1000:=by
  have:=z6i (l.take j) t
  rw [List.length_take] at this
  rw [hout]; omega
 have tk:(out.map (AV.int .i64)).take out.length = out.map (AV.int .i64):=List.take_of_length_le (by simp)
 by_cases e:h.thread = t
 ·have e':(h.thread == t) = true:=by simp [e]
  rw [if_pos e,← hout] at hs
  simp (maxSteps:=9^7) only [go_sem,Msg.a,Par.a,t0,t1,t5,h5,t6,hlt',hlt,hg,e',tk,List.length_map,Int.toNat_natCast]
  (repeat refine And.intro (by omega) ?_)
  have em:(out ++ [h.slot]).map (AV.int .i64) = out.map (AV.int .i64) ++ [AV.int .i64 h.slot]:=by rw [List.map_append]; rfl
  have el:(out ++ [h.slot]).length = out.length + 1:=by simp
  refine ⟨⟨⟨by omega,by omega⟩,fun d hd=>by rcases hd with rfl | hd; exact ⟨rfl,rfl⟩; cases hd⟩,l.length - (j + 1),by omega,j + 1,out ++ [h.slot],by omega,rfl,hs.symm,?_,?_,?_,?_,?_⟩ <;> (simp (maxSteps:=9^7) only [go_sem,Msg.a,Par.a,t0,t1,t5,h5,t6,hw,em,el])
 ·have e':(h.thread == t) = false:=by simp [e]
  rw [if_neg e,List.append_nil,← hout] at hs
  simp (maxSteps:=9^7) only [go_sem,Msg.a,Par.a,t0,t1,t5,h5,t6,hlt',hlt,hg,e',tk,List.length_map,Int.toNat_natCast]
  (repeat refine And.intro (by omega) ?_)
  refine ⟨l.length - (j + 1),by omega,j + 1,out,by omega,rfl,hs.symm,?_,?_,?_,?_,?_⟩ <;> (simp (maxSteps:=9^7) only [go_sem,Msg.a,Par.a,t0,t1,t5,h5,t6,hw])
end
end Go.Proofs.YtlhblpbfhfhlpaaGreat
