/-
  Part 15 of a proof: LoC, LoD, LfC, LfD.
-/
import Derived.Test.YtlhblpbfhfhlpaaGreatLF14
set_option linter.unusedVariables false
set_option linter.unusedSimpArgs false
set_option maxRecDepth 100000
attribute [local go_sem] reduceCtorEq Nat.reduceEqDiff Nat.reduceBEq Nat.reduceAdd Nat.reduceSub Nat.reduceMul Nat.reduceLT Nat.reduceLeDiff Nat.reduceBNe Int.reduceBEq Int.reduceBNe Int.reduceLT Int.reduceLE
attribute [local go_sem ↓] reduceIte
namespace Go.Proofs.YtlhblpbfhfhlpaaGreat
section
open Go.RowKit
attribute [local go_sem ↓] z18 z0h
def zoz:Reg:=⟨[],[⟨.mknil 1 3,some 2,none,[],[]⟩],[2],[],false⟩
def zoy:Reg:=⟨[],[⟨.mv (.t 0),some 3,none,[],[]⟩,⟨.nileq false (.t 3),some 4,none,[],[]⟩],[],[],false⟩
def zox:Reg:=⟨[],[⟨.mknil 1 3,some 2,none,[],[]⟩],[2],[],false⟩
def zay:List ROp:=[⟨.bsl 1 3 [],some 5,none,[],[]⟩,⟨.mv (.t 0),some 6,none,[],[]⟩,⟨.append 1 3 8 (.t 5) (.t 6),some 7,none,[],[]⟩,⟨.mv (.t 7),some 2,none,[],[]⟩]
def zow:Reg:=⟨[],zay,[5],[],false⟩
def zye:IR:=(.seq (.reg zoz)
 (.seq (.seq (.reg zoy)
 (.cond (.t 4) (.seq (.reg zox)
 .ret)
 .skip))
 (.seq (.reg zow)
 .ret)))
def zlc:List RDesc:=[(.tmp 2)]
theorem e_cloneI_0:EqR zoz [⟨.mknil 1 3,some 2,none,[],[]⟩] [2]:=fun _ _ _=>rfl
theorem e_cloneI_1:EqR zoy [⟨.mv (.t 0),some 3,none,[],[]⟩,⟨.nileq false (.t 3),some 4,none,[],[]⟩] []:=fun _ _ _=>rfl
theorem e_cloneI_2:EqR zox [⟨.mknil 1 3,some 2,none,[],[]⟩] [2]:=fun _ _ _=>rfl
theorem e_cloneI_3:EqR zow zay [5]:=fun _ _ _=>rfl
theorem fn_cloneI {args:List AV} {r:AV} (ha:args.length.ble Tryz.f55.ntmps = true) (h:run (AFn Tryz.prog) zye (endQ zlc r) (z0b args)):AFn Tryz.prog 55 args r :=
 AFn.of_code (pv:=false) (hint:=fun _=>[]) (c:=Tryz.f55.body.getD .skip) (by kernel_rfl) (by kernel_rfl) Tryz.func55 (by kernel_rfl) (by kernel_rfl) (by kernel_rfl) (of_decide_eq_true (by kernel_rfl)) (Nat.le_of_ble_eq_true ha) (Nat.le_of_ble_eq_true (by kernel_rfl)) (z09 h)
def r_lof_0:Reg:=⟨[],[⟨.mv (.c (.cst (.map none))),some 2,none,[],[]⟩],[],[],false⟩
def r_lof_1:List XOp:=[(.mkmap 6 50),(.op [] ⟨.mv (.t 6),some 3,none,[],[]⟩)]
def zzu:List ROp:=[⟨.mv (.t 0),some 7,none,[],[]⟩,⟨.len false (.t 7),some 8,none,[],[]⟩,⟨.mv (.c (.int .i64 0)),some 9,none,[],[]⟩]
def r_lof_2:Reg:=⟨[],zzu,[],[],false⟩
def r_lof_3:Reg:=⟨[],[⟨.bin .lss (.t 9) (.t 8),some 10,none,[],[]⟩],[],[],false⟩
def zzt:List ROp:=[⟨.iaddr 10 (.t 7) (.t 9),some 11,none,[5],[]⟩,⟨.load 10 true (.t 11),some 12,none,[5],[]⟩,⟨.alloc 10 45 (.agg [(.int .i64 0),(.int .i64 0),(.sl []),(.sl []),(.str ⟨#[]⟩),(.bool false),(.int .i64 0),(.int .i64 0),(.sl []),(.sl [])]),some 5,none,[],[]⟩,⟨.store 10 (.t 5) (.t 12),none,none,[],[]⟩]
def r_lof_4:Reg:=⟨[],zzt,[5],[],false⟩
def r_lof_5:List XOp:=[(.op [] ⟨.mv (.t 3),some 13,none,[],[]⟩),(.op [] ⟨.faddr 0 (.t 5),some 14,none,[],[]⟩),(.op [] ⟨.load 1 false (.t 14),some 15,none,[],[]⟩),(.op [] ⟨.load 10 true (.t 5),some 16,none,[],[]⟩),(.mupd (.t 13) (.t 15) (.t 16))]
def r_lof_6:Reg:=⟨[],[⟨.bin .add (.t 9) (.c (.int .i64 1)),some 17,none,[],[]⟩,⟨.mv (.t 17),some 9,none,[],[]⟩],[],[],false⟩
def y5g (P:Program):IR:=(.seq (.reg r_lof_3)
 (.seq (.cond (.t 10) .skip
 (.exit 0))
 (.seq (.block 1 (.seq (.reg r_lof_4)
 (.regx P r_lof_5)))
 (.reg r_lof_6))))
def r_lof_8:Reg:=⟨[],[⟨.mv (.t 3),some 18,none,[],[]⟩,⟨.mv (.t 18),some 2,none,[],[]⟩],[],[],false⟩
def ir_lof (P:Program):IR:=(.seq (.reg r_lof_0)
 (.seq (.regx P r_lof_1)
 (.seq (.seq (.reg r_lof_2)
 (.block 0 (.loop (y5g P))))
 (.seq (.reg r_lof_8)
 .ret))))
def res_lof:List RDesc:=[(.tmp 2)]
theorem e_lof_0:EqR r_lof_0 [⟨.mv (.c (.cst (.map none))),some 2,none,[],[]⟩] []:=fun _ _ _=>rfl
theorem e_lof_2:EqR r_lof_2 zzu []:=fun _ _ _=>rfl
theorem e_lof_3:EqR r_lof_3 [⟨.bin .lss (.t 9) (.t 8),some 10,none,[],[]⟩] []:=fun _ _ _=>rfl
theorem e_lof_4:EqR r_lof_4 zzt [5]:=fun _ _ _=>rfl
theorem e_lof_6:EqR r_lof_6 [⟨.bin .add (.t 9) (.c (.int .i64 1)),some 17,none,[],[]⟩,⟨.mv (.t 17),some 9,none,[],[]⟩] []:=fun _ _ _=>rfl
theorem e_lof_8:EqR r_lof_8 [⟨.mv (.t 3),some 18,none,[],[]⟩,⟨.mv (.t 18),some 2,none,[],[]⟩] []:=fun _ _ _=>rfl
theorem fn_lof {args:List AV} {r:AV} (ha:args.length.ble Tryz.f18.ntmps = true) (h:run (AFn Tryz.prog) (ir_lof Tryz.prog) (endQ res_lof r) (z0b args)):AFn Tryz.prog 18 args r :=
 AFn.of_code (pv:=false) (hint:=fun _=>[]) (c:=Tryz.f18.body.getD .skip) (by kernel_rfl) (by kernel_rfl) Tryz.func18 (by kernel_rfl) (by kernel_rfl) (by kernel_rfl) (of_decide_eq_true (by kernel_rfl)) (Nat.le_of_ble_eq_true ha) (Nat.le_of_ble_eq_true (by kernel_rfl)) (z09 h)
def znr:Reg:=⟨[],[⟨.mknil 1 3,some 4,none,[],[]⟩],[4],[],false⟩
def znq:List XOp:=[(.op [] ⟨.mv (.t 0),some 11,none,[],[]⟩),(.op [] ⟨.mv (.t 1),some 12,none,[],[]⟩),(.mlook 13 true (.t 11) (.t 12) (.agg [(.int .i64 0),(.int .i64 0),(.sl []),(.sl []),(.str ⟨#[]⟩),(.bool false),(.int .i64 0),(.int .i64 0),(.sl []),(.sl [])]) none),(.op [] ⟨.mv (.t 13),some 10,none,[],[]⟩),(.op [] ⟨.ext 0 (.t 10),some 14,none,[],[]⟩),(.op [] ⟨.ext 1 (.t 10),some 15,none,[],[]⟩),(.op [5] ⟨.alloc 10 45 (.agg [(.int .i64 0),(.int .i64 0),(.sl []),(.sl []),(.str ⟨#[]⟩),(.bool false),(.int .i64 0),(.int .i64 0),(.sl []),(.sl [])]),some 5,none,[],[]⟩),(.op [] ⟨.store 10 (.t 5) (.t 14),none,none,[],[]⟩),(.op [] ⟨.mv (.t 15),some 6,none,[],[]⟩)]
def znp:Reg:=⟨[],[⟨.mv (.t 6),some 16,none,[],[]⟩,⟨.un .not (.t 16),some 17,none,[],[]⟩],[],[],false⟩
def zno:Reg:=⟨[],[⟨.mknil 1 3,some 4,none,[],[]⟩],[4],[],false⟩
def zai:List ROp:=[⟨.faddr 3 (.t 5),some 18,none,[20],[]⟩,⟨.load 1 false (.t 18),some 19,none,[20],[]⟩,⟨.callv (.c (.clo 55 [] [])) [(.t 19)],some 20,none,[],[]⟩,⟨.mv (.t 20),some 7,none,[],[]⟩]
def znn:Reg:=⟨[],zai,[20],[],false⟩
def znm:List XOp:=[(.op [] ⟨.mv (.t 0),some 22,none,[],[]⟩),(.op [] ⟨.faddr 6 (.t 5),some 23,none,[],[]⟩),(.op [] ⟨.load 1 false (.t 23),some 24,none,[],[]⟩),(.mlook 25 true (.t 22) (.t 24) (.agg [(.int .i64 0),(.int .i64 0),(.sl []),(.sl []),(.str ⟨#[]⟩),(.bool false),(.int .i64 0),(.int .i64 0),(.sl []),(.sl [])]) none),(.op [] ⟨.mv (.t 25),some 21,none,[],[]⟩),(.op [] ⟨.ext 0 (.t 21),some 26,none,[],[]⟩),(.op [] ⟨.ext 1 (.t 21),some 27,none,[],[]⟩),(.op [8] ⟨.alloc 10 45 (.agg [(.int .i64 0),(.int .i64 0),(.sl []),(.sl []),(.str ⟨#[]⟩),(.bool false),(.int .i64 0),(.int .i64 0),(.sl []),(.sl [])]),some 8,none,[],[]⟩),(.op [] ⟨.store 10 (.t 8) (.t 26),none,none,[],[]⟩),(.op [] ⟨.mv (.t 27),some 9,none,[],[]⟩)]
def zah:List ROp:=[⟨.mv (.t 9),some 28,none,[],[]⟩,⟨.mv (.t 28),some 29,none,[],[]⟩,⟨.faddr 5 (.t 5),some 30,(some (29,true)),[],[]⟩,⟨.load 1 false (.t 30),some 31,(some (29,true)),[],[]⟩,⟨.un .not (.t 31),some 32,(some (29,true)),[],[]⟩,⟨.pick (.t 29) (.t 32) (.c (.bool false)),some 33,none,[],[]⟩]
def znl:Reg:=⟨[],zah,[],[],false⟩
def zag:List ROp:=[⟨.mv (.t 7),some 34,none,[37],[]⟩,⟨.faddr 6 (.t 5),some 35,none,[37],[]⟩,⟨.load 1 false (.t 35),some 36,none,[37],[]⟩,⟨.bsl 1 3 [(.t 36)],some 37,none,[],[]⟩,⟨.append 1 3 8 (.t 34) (.t 37),some 38,none,[],[]⟩,⟨.mv (.t 38),some 7,none,[],[]⟩]
def znk:Reg:=⟨[],zag,[37],[],false⟩
def znj:Reg:=⟨[],[⟨.mv (.t 7),some 39,none,[],[]⟩,⟨.mv (.t 39),some 4,none,[],[]⟩],[],[],false⟩
def zya (P:Program):IR:=(.seq (.reg znr)
 (.seq (.regx P znq)
 (.seq (.seq (.reg znp)
 (.cond (.t 17) (.seq (.reg zno)
 .ret)
 .skip))
 (.seq (.reg znn)
 (.seq (.seq (.regx P znm)
 (.seq (.reg znl)
 (.cond (.t 33) (.reg znk)
 .skip)))
 (.seq (.reg znj)
 .ret))))))
def zl8:List RDesc:=[(.tmp 4)]
theorem e_lsteps_0:EqR znr [⟨.mknil 1 3,some 4,none,[],[]⟩] [4]:=fun _ _ _=>rfl
theorem e_lsteps_2:EqR znp [⟨.mv (.t 6),some 16,none,[],[]⟩,⟨.un .not (.t 16),some 17,none,[],[]⟩] []:=fun _ _ _=>rfl
theorem e_lsteps_3:EqR zno [⟨.mknil 1 3,some 4,none,[],[]⟩] [4]:=fun _ _ _=>rfl
theorem e_lsteps_4:EqR znn zai [20]:=fun _ _ _=>rfl
theorem e_lsteps_6:EqR znl zah []:=fun _ _ _=>rfl
theorem e_lsteps_7:EqR znk zag [37]:=fun _ _ _=>rfl
theorem e_lsteps_8:EqR znj [⟨.mv (.t 7),some 39,none,[],[]⟩,⟨.mv (.t 39),some 4,none,[],[]⟩] []:=fun _ _ _=>rfl
theorem fn_lsteps {args:List AV} {r:AV} (ha:args.length.ble Tryz.f68.ntmps = true) (h:run (AFn Tryz.prog) (zya Tryz.prog) (endQ zl8 r) (z0b args)):AFn Tryz.prog 68 args r :=
 AFn.of_code (pv:=false) (hint:=fun _=>[]) (c:=Tryz.f68.body.getD .skip) (by kernel_rfl) (by kernel_rfl) Tryz.func68 (by kernel_rfl) (by kernel_rfl) (by kernel_rfl) (of_decide_eq_true (by kernel_rfl)) (Nat.le_of_ble_eq_true ha) (Nat.le_of_ble_eq_true (by kernel_rfl)) (z09 h)
def zok:Reg:=⟨[],[⟨.mv (.c (.cst (.map none))),some 4,none,[],[]⟩],[],[],false⟩
def zbj:List XOp:=[(.mkmap 8 52),(.op [] ⟨.mv (.t 8),some 5,none,[],[]⟩)]
def z6g:List ROp:=[⟨.mv (.t 0),some 9,none,[11],[]⟩,⟨.mv (.t 1),some 10,none,[11],[]⟩,⟨.callv (.c (.clo 68 [] [])) [(.t 9),(.t 10)],some 11,none,[],[]⟩,⟨.mv (.t 11),some 6,none,[],[]⟩]
def zoj:Reg:=⟨[],z6g,[11],[],false⟩
def z6f:List ROp:=[⟨.mv (.t 6),some 12,none,[],[]⟩,⟨.len false (.t 12),some 13,none,[],[]⟩,⟨.bin .gtr (.t 13) (.c (.int .i64 0)),some 14,none,[],[]⟩]
def zoi:Reg:=⟨[],z6f,[],[],false⟩
def z6e:List ROp:=[⟨.mv (.t 6),some 15,none,[],[]⟩,⟨.iaddr 1 (.t 15) (.c (.int .i64 0)),some 16,none,[],[]⟩,⟨.load 1 false (.t 16),some 17,none,[],[]⟩,⟨.mv (.t 17),some 7,none,[],[]⟩]
def zoh:Reg:=⟨[],z6e,[],[],false⟩
def z6d:List ROp:=[⟨.mv (.t 6),some 18,none,[],[]⟩,⟨.slc false 1 (.t 18) (some (.c (.int .i64 1))) none,some 19,none,[],[]⟩,⟨.mv (.t 19),some 6,none,[],[]⟩]
def zog:Reg:=⟨[],z6d,[],[],false⟩
def zbi:List XOp:=[(.op [] ⟨.mv (.t 5),some 20,none,[],[]⟩),(.op [] ⟨.mv (.t 7),some 21,none,[],[]⟩),(.mlook 22 false (.t 20) (.t 21) (.bool false) none),(.op [] ⟨.un .not (.t 22),some 23,none,[],[]⟩)]
def zbh:List XOp:=[(.op [] ⟨.mv (.t 5),some 24,none,[],[]⟩),(.op [] ⟨.mv (.t 7),some 25,none,[],[]⟩),(.mupd (.t 24) (.t 25) (.c (.bool true)))]
def z6c:List ROp:=[⟨.mv (.t 6),some 26,none,[29],[]⟩,⟨.mv (.t 0),some 27,none,[29],[]⟩,⟨.mv (.t 7),some 28,none,[29],[]⟩,⟨.callv (.c (.clo 68 [] [])) [(.t 27),(.t 28)],some 29,none,[],[]⟩,⟨.append 1 3 8 (.t 26) (.t 29),some 30,none,[],[]⟩,⟨.mv (.t 30),some 6,none,[],[]⟩]
def zof:Reg:=⟨[],z6c,[29],[],false⟩
def zi1 (P:Program):IR:=(.seq (.seq (.reg zoi)
 (.cond (.t 14) .skip
 (.exit 0)))
 (.block 1 (.seq (.reg zoh)
 (.seq (.reg zog)
 (.seq (.regx P zbi)
 (.cond (.t 23) (.seq (.regx P zbh)
 (.reg zof))
 .skip))))))
def zi2:Reg:=⟨[],[⟨.mv (.t 5),some 31,none,[],[]⟩,⟨.mv (.t 31),some 4,none,[],[]⟩],[],[],false⟩
def zje (P:Program):IR:=(.seq (.reg zok)
 (.seq (.regx P zbj)
 (.seq (.reg zoj)
 (.seq (.block 0 (.loop (zi1 P)))
 (.seq (.reg zi2)
 .ret)))))
def zb7:List RDesc:=[(.tmp 4)]
theorem zq2:EqR zok [⟨.mv (.c (.cst (.map none))),some 4,none,[],[]⟩] []:=fun _ _ _=>rfl
theorem zq1:EqR zoj z6g [11]:=fun _ _ _=>rfl
theorem zq0:EqR zoi z6f []:=fun _ _ _=>rfl
theorem zpz:EqR zoh z6e []:=fun _ _ _=>rfl
theorem zpy:EqR zog z6d []:=fun _ _ _=>rfl
theorem zpx:EqR zof z6c [29]:=fun _ _ _=>rfl
theorem zk4:EqR zi2 [⟨.mv (.t 5),some 31,none,[],[]⟩,⟨.mv (.t 31),some 4,none,[],[]⟩] []:=fun _ _ _=>rfl
theorem fn_lbelow {args:List AV} {r:AV} (ha:args.length.ble Tryz.f45.ntmps = true) (h:run (AFn Tryz.prog) (zje Tryz.prog) (endQ zb7 r) (z0b args)):AFn Tryz.prog 45 args r :=
 AFn.of_code (pv:=false) (hint:=fun _=>[]) (c:=Tryz.f45.body.getD .skip) (by kernel_rfl) (by kernel_rfl) Tryz.func45 (by kernel_rfl) (by kernel_rfl) (by kernel_rfl) (of_decide_eq_true (by kernel_rfl)) (Nat.le_of_ble_eq_true ha) (Nat.le_of_ble_eq_true (by kernel_rfl)) (z09 h)
def zov:Reg:=⟨[],[⟨.mv (.c (.bool false)),some 6,none,[],[]⟩],[],[],false⟩
def zbk:List XOp:=[(.op [] ⟨.mv (.t 0),some 7,none,[],[]⟩),(.op [8] ⟨.callv (.c (.clo 18 [] [])) [(.t 7)],some 8,none,[],[]⟩),(.op [] ⟨.mv (.t 1),some 9,none,[],[]⟩),(.op [10] ⟨.callv (.c (.clo 45 [] [])) [(.t 8),(.t 9)],some 10,none,[],[]⟩),(.op [] ⟨.mv (.t 2),some 11,none,[],[]⟩),(.mlook 12 false (.t 10) (.t 11) (.bool false) none),(.op [] ⟨.mv (.t 12),some 6,none,[],[]⟩)]
def zjf (P:Program):IR:=(.seq (.reg zov)
 (.seq (.regx P zbk)
 .ret))
def zb8:List RDesc:=[(.tmp 6)]
theorem zq3:EqR zov [⟨.mv (.c (.bool false)),some 6,none,[],[]⟩] []:=fun _ _ _=>rfl
theorem fn_lBelow {args:List AV} {r:AV} (ha:args.length.ble Tryz.f15.ntmps = true) (h:run (AFn Tryz.prog) (zjf Tryz.prog) (endQ zb8 r) (z0b args)):AFn Tryz.prog 15 args r :=
 AFn.of_code (pv:=false) (hint:=fun _=>[]) (c:=Tryz.f15.body.getD .skip) (by kernel_rfl) (by kernel_rfl) Tryz.func15 (by kernel_rfl) (by kernel_rfl) (by kernel_rfl) (of_decide_eq_true (by kernel_rfl)) (Nat.le_of_ble_eq_true ha) (Nat.le_of_ble_eq_true (by kernel_rfl)) (z09 h)
attribute [local go_sem ↓] zye
attribute [local go_sem] zlc e_cloneI_0 e_cloneI_1 e_cloneI_2 e_cloneI_3 zay
attribute [local go_sem ↓] ir_lof
attribute [local go_sem] res_lof e_lof_0 e_lof_2 zzu e_lof_3 e_lof_4 zzt e_lof_6 e_lof_8 r_lof_1 r_lof_5
attribute [local go_sem ↓] zya
attribute [local go_sem] zl8 e_lsteps_0 e_lsteps_2 e_lsteps_3 e_lsteps_4 zai e_lsteps_6 zah e_lsteps_7 zag e_lsteps_8 znq znm
attribute [local go_sem ↓] zje
attribute [local go_sem] zb7 zq2 zq1 z6g zq0 z6f zpz z6e zpy z6d zpx z6c zk4 zbj zbi zbh
attribute [local go_sem ↓] zjf
attribute [local go_sem] zb8 zq3 zbk
def z29 (l:List Nd):List (Int × AV):=l.map fun n=>(n.slot,n.a)
def metM (l:List Int):List (Int × AV):=l.map fun k=>(k,AV.bool true)
theorem zze:∀ {es:List (Int × AV)} {k:Int} {d:AV},(∀ e,e ∈ es->e.1 ≠ k)->upk es k d = es ++ [(k,d)]
 | [],k,d,_=>rfl
 | e :: l,k,d,h=>by
  have h0:=h e (List.mem_cons_self ..)
  rw [upk,if_neg (by simpa using fun q:k = e.1=>h0 q.symm),zze fun x hx=>h x (List.mem_cons_of_mem _ hx)]
  rfl
theorem zbs:∀ (l:List Int) (k:Int),lkp (metM l) k = if l.contains k then some (.bool true) else none
 | [],k=>rfl
 | x :: l,k=>by
  show (if k == x then some (AV.bool true) else lkp (metM l) k) = _
  rw [zbs l k,List.contains_cons]
  cases k == x <;> simp
theorem upk_met {l:List Int} {k:Int} (h:l.contains k = false):upk (metM l) k (.bool true) = metM (l ++ [k]):=by
 rw [zze]
 ·unfold metM; rw [List.map_append]; rfl
 ·intro e he hk
  obtain ⟨x,h1,h2⟩:=List.mem_map.1 he
  rw [← h2] at hk
  have hk':x = k:=hk
  rw [hk'] at h1
  simp [List.contains_eq_mem,h1] at h
theorem zj3:∀ (l:List Nd) (i:Nat) (k:Int),(∀ (j:Nat) (n:Nd),l[j]? = some n->n.slot = ((i + j:Nat):Int))->lkp (z29 l) k = (if (i:Int)≤k then l[(k - i).toNat]? else none).map Nd.a
 | [],i,k,h=>by
  show none = _
  split <;> rfl
 | x :: l,i,k,h=>by
  have hx:x.slot = (i:Int):=by have:=h 0 x rfl; simpa using this
  have h':∀ (j:Nat) (n:Nd),l[j]? = some n->n.slot = ((i + 1 + j:Nat):Int):=fun j n e=>by
   have:=h (j + 1) n (by simpa using e)
   rw [this]; omega
  show (if k == x.slot then some x.a else lkp (z29 l) k) = _
  rw [hx,zj3 l (i + 1) k h']
  by_cases hk:k = (i:Int)
  ·rw [if_pos (by simp [hk]),if_pos (by omega),show (k - (i:Int)).toNat = 0 by omega]; rfl
  ·rw [if_neg (by simpa using hk)]
   by_cases h2:(i:Int)≤k
   ·rw [if_pos h2,if_pos (by omega),show (k - (i:Int)).toNat = (k - ((i + 1:Nat):Int)).toNat + 1 by omega,List.getElem?_cons_succ]
   ·rw [if_neg h2,if_neg (by omega)]
theorem zrx {l:List Nd} (h:zsk l) (k:Int):lkp (z29 l) k = (ndAt l k).map Nd.a:=by
 rw [zj3 l 0 k (fun j n e=>by rw [h j n e]; omega)]
 unfold ndAt
 by_cases h0:0≤k
 ·rw [if_pos h0,if_pos (by omega),show (k - ((0:Nat):Int)).toNat = k.toNat by omega]
 ·rw [if_neg h0,if_neg (by omega)]
theorem treeM_next {l:List Nd} (h:zsk l) {j:Nat} {x:Nd} (hx:l[j]? = some x):upk (z29 (l.take j)) x.slot x.a = z29 (l.take (j + 1)):=by
 rw [zze]
 ·unfold z29
  rw [List.take_add_one,hx,List.map_append]; rfl
 ·intro e he hk
  obtain ⟨n,h1,h2⟩:=List.mem_map.1 he
  obtain ⟨i,hi⟩:=List.mem_iff_getElem?.1 h1
  rw [List.getElem?_take] at hi
  split at hi
  ·rename_i hij
   have a:=h i n hi
   have b:=h j x hx
   rw [← h2] at hk
   have hk':n.slot = x.slot:=hk
   rw [a,b] at hk'
   omega
  ·cases hi
def lofInv (l:List Nd) (k:Nat) (σ:St):Prop :=
 ∃ j:Nat,j≤l.length∧k = l.length - j∧σ.T 3 = .mp 6 (z29 (l.take j))∧σ.H 6 = some ⟨1,50,[],0⟩∧σ.T 7 = .sl (l.map Nd.a)∧σ.T 8 = .int .i64 l.length∧σ.T 9 = .int .i64 j
set_option maxHeartbeats 2000000 in
theorem lof_ok (l:List Nd) (h:zsk l) (hl:l.length≤200):AFn Tryz.prog 18 [.sl (l.map Nd.a)] (.mv (z29 l)):=by
 refine fn_lof rfl ?_
 simp (maxSteps:=9^7) only [go_sem,Msg.a,Par.a,evM,z07.eq_1,z07.eq_2,ents.eq_1,ents.eq_2,kI.eq_1,mpOk.eq_1,mpR.eq_1,lkV.eq_1,lkV.eq_2,List.length_map]
 refine z06 (lofInv l) (k:=l.length) ⟨0,by omega,rfl,?_,?_,?_,?_,?_⟩ ?_
 iterate 5 focus ((simp (maxSteps:=9^7) only [go_sem,Msg.a,Par.a,evM,z07.eq_1,z07.eq_2,ents.eq_1,ents.eq_2,kI.eq_1,mpOk.eq_1,mpR.eq_1,lkV.eq_1,lkV.eq_2,List.length_map]) <;> rfl)
 rintro k σ ⟨j,hj,rfl,t3,h6,t7,t8,t9⟩
 simp only [y5g]
 by_cases hlt:j < l.length
 case neg =>
  have hlt':¬ (j:Int) < (l.length:Int):=by omega
  rw [List.take_of_length_le (by omega)] at t3
  simp (maxSteps:=9^7) only [go_sem,Msg.a,Par.a,evM,z07.eq_1,z07.eq_2,ents.eq_1,ents.eq_2,kI.eq_1,mpOk.eq_1,mpR.eq_1,lkV.eq_1,lkV.eq_2,t3,h6,t7,t8,t9,hlt']
 have hlt':(j:Int) < (l.length:Int):=by omega
 obtain ⟨x,hx⟩:=z0f hlt
 have hgx:=z0k (f:=Nd.a) hx
 have hn:=treeM_next h hx
 simp only [Nd.a] at hgx hn
 have hw:=z1a (j:=j) (by omega)
 simp (maxSteps:=9^7) only [go_sem,Msg.a,Par.a,evM,z07.eq_1,z07.eq_2,ents.eq_1,ents.eq_2,kI.eq_1,mpOk.eq_1,mpR.eq_1,lkV.eq_1,lkV.eq_2,t3,h6,t7,t8,t9,hlt',hgx,hw,hn,List.length_map,Int.toNat_natCast]
 (repeat refine And.intro (by omega) ?_)
 refine ⟨l.length - (j + 1),by omega,j + 1,by omega,rfl,?_,?_,?_,?_,?_⟩
 iterate 5 focus ((simp (maxSteps:=9^7) only [go_sem,Msg.a,Par.a,evM,z07.eq_1,z07.eq_2,ents.eq_1,ents.eq_2,kI.eq_1,mpOk.eq_1,mpR.eq_1,lkV.eq_1,lkV.eq_2,t3,hn,h6,t7,t8,hw]) <;> rfl)
theorem cloneI_ok (l:List AV) (hl:l.length≤1000000) (h1:∀ d,d ∈ l->d.cells.length = 1∧d.cells.all AV.one = true):AFn Tryz.prog 55 [.sl l] (.own 1 3 l):=by
 refine fn_cloneI rfl ?_
 simp (maxSteps:=9^7) only [go_sem,Msg.a,Par.a,evM,z07.eq_1,z07.eq_2,ents.eq_1,ents.eq_2,kI.eq_1,mpOk.eq_1,mpR.eq_1,lkV.eq_1,lkV.eq_2]
 refine ⟨fun h=>?_,⟨by omega,by omega⟩,h1⟩
 cases l with
 | nil=>rfl
 | cons x l=>cases h
theorem zdm (l:List Int):∀ d,d ∈ l.map (AV.int .i64)->d.cells.length = 1∧d.cells.all AV.one = true:=fun d hd=>by
 obtain ⟨x,_,rfl⟩:=List.mem_map.1 hd
 exact ⟨rfl,rfl⟩
set_option maxHeartbeats 2000000 in
theorem y43 (l:List Nd) (h:Lad l) (s:Int):AFn Tryz.prog 68 [.mv (z29 l),.int .i64 s] (.own 1 3 ((steps l s).map (AV.int .i64))):=by
 refine fn_lsteps rfl ?_
 have hl:=zrx h.ord s
 unfold steps
 cases e:ndAt l s with
 | none =>
  have hl:lkp (z29 l) s = none:=by rw [hl,e]; rfl
  simp (maxSteps:=9^7) only [go_sem,Msg.a,Par.a,evM,z07.eq_1,z07.eq_2,ents.eq_1,ents.eq_2,kI.eq_1,mpOk.eq_1,mpR.eq_1,lkV.eq_1,lkV.eq_2,hl]
  rfl
 | some n =>
  have hl:lkp (z29 l) s = some n.a:=by rw [hl,e]; rfl
  simp only [Nd.a] at hl
  have hm:=(z1r h.ord e).2.1
  have hk:=h.nk n hm
  have cK:=cloneI_ok (n.kids.map (AV.int .i64)) (by rw [List.length_map]; omega) (zdm _)
  have hr:=zrx h.ord n.right
  show run _ _ (endQ _ (.own 1 3 ((nxt n).map (AV.int .i64)))) _
  unfold nxt
  cases ht:n.top with
  | true =>
   have hneg:¬ 0≤n.right:=fun q=>by rw [(h.top n hm).1 q] at ht; cases ht
   have hr:lkp (z29 l) n.right = none:=by rw [hr]; unfold ndAt; rw [if_neg hneg]; rfl
   rw [ht] at hl
   rw [if_pos rfl,List.append_nil]
   (repeat (first | simp (maxSteps:=9^7) only [go_sem,Msg.a,Par.a,evM,z07.eq_1,z07.eq_2,ents.eq_1,ents.eq_2,kI.eq_1,mpOk.eq_1,mpR.eq_1,lkV.eq_1,lkV.eq_2,hl,hr] | refine z01 (cK) ?_ | refine z00 (cK) ?_ | refine And.intro (by omega) ?_ | refine And.intro (fun d hd=>by (repeat (rcases hd with rfl | hd; · exact ⟨rfl,rfl⟩)); cases hd) ?_))
  | false =>
   obtain ⟨m,em⟩:=ziv ((h.top n hm).2 ht) (h.rt n hm)
   have hr:lkp (z29 l) n.right = some m.a:=by rw [hr,em]; rfl
   simp only [Nd.a] at hr
   rw [ht] at hl
   rw [if_neg (by decide),List.map_append]
   (repeat (first | simp (maxSteps:=9^7) only [go_sem,Msg.a,Par.a,evM,z07.eq_1,z07.eq_2,ents.eq_1,ents.eq_2,kI.eq_1,mpOk.eq_1,mpR.eq_1,lkV.eq_1,lkV.eq_2,hl,hr,List.length_map] | refine z01 (cK) ?_ | refine z00 (cK) ?_ | refine And.intro (by omega) ?_ | refine And.intro (fun d hd=>by (repeat (rcases hd with rfl | hd; · exact ⟨rfl,rfl⟩)); cases hd) ?_))
   have e1:List.take n.kids.length (n.kids.map (AV.int .i64)) = n.kids.map (AV.int .i64):=List.take_of_length_le (by simp)
   rw [e1]
   refine ⟨⟨⟨by omega,by omega⟩,fun d hd=>?_⟩,by simp,rfl⟩
   rcases hd with rfl | hd
   ·exact ⟨rfl,rfl⟩
   ·cases hd
end
section
open Go.RowKit
attribute [local go_sem ↓] z18 z0h
attribute [local go_sem ↓] zje
attribute [local go_sem] zb7 zq2 zq1 z6g zq0 z6f zpz z6e zpy z6d zpx z6c zk4 zbj zbi zbh
attribute [local go_sem ↓] zjf
attribute [local go_sem] zb8 zq3 zbk
theorem goL_nil (l:List Nd) (met:List Int):∀ k:Nat,goL l k met [] = met
 | 0=>rfl
 | k + 1=>rfl
theorem left_le (N:Nat) (met:List Int):left N met≤N:=by
 unfold left
 have:=List.countP_le_length (p:=fun i:Nat=>!met.contains (i:Int)) (l:=List.range N)
 rw [List.length_range] at this
 exact this
theorem mesL_start {l:List Nd} (h:Lad l) (a:Int):mesL l [] (steps l a)≤500000:=by
 have h1:=left_le l.length []
 have h2:=h.steps_len a
 have h3:=h.len
 have h4:left l.length [] * 2002≤200 * 2002:=Nat.mul_le_mul_right _ (by omega)
 unfold mesL
 omega
def lbInv (l:List Nd) (R:List Int) (k:Nat) (σ:St):Prop :=
 ∃ (met todo:List Int) (L:List AV) (off:Nat),goL l k met todo = R∧mesL l met todo≤k∧k≤500000∧(∀ x,x ∈ todo->0≤x∧x < l.length) ∧
  σ.T 0 = .mv (z29 l)∧σ.T 5 = .mp 8 (metM met)∧σ.H 8 = some ⟨1,52,[],0⟩∧σ.T 6 = .rs 11 off todo.length∧σ.H 11 = some ⟨1,3,L,0⟩∧L.length = off + todo.length∧L.drop off = todo.map (AV.int .i64)
set_option maxHeartbeats 4000000 in
theorem zsj (l:List Nd) (h:Lad l) (a:Int):AFn Tryz.prog 45 [.mv (z29 l),.int .i64 a] (.mv (metM (belowL l a))):=by
 refine fn_lbelow rfl ?_
 have cS:=y43 l h a
 have hst:=mesL_start h a
 obtain ⟨R,hR⟩:∃ R,belowL l a = R:=⟨_,rfl⟩
 rw [hR]
 (repeat (first | simp (maxSteps:=9^7) only [go_sem,evM,z07.eq_1,z07.eq_2,ents.eq_1,ents.eq_2,kI.eq_1,mpOk.eq_1,mpR.eq_1,lkV.eq_1,lkV.eq_2] | refine z01 (cS) ?_ | refine z00 (cS) ?_ | refine And.intro (by omega) ?_ | refine And.intro (fun d hd=>by (repeat (rcases hd with rfl | hd; · exact ⟨rfl,rfl⟩)); cases hd) ?_))
 refine z06 (lbInv l R) (k:=mesL l [] (steps l a)) ⟨[],steps l a,(steps l a).map (AV.int .i64),0,hR,Nat.le_refl _,hst,fun x hx=>h.step hx,?_,?_,?_,?_,?_,by simp,rfl⟩ ?_
 iterate 5 focus ((simp (maxSteps:=9^7) only [go_sem,evM,z07.eq_1,z07.eq_2,ents.eq_1,ents.eq_2,kI.eq_1,mpOk.eq_1,mpR.eq_1,lkV.eq_1,lkV.eq_2,List.length_map]) <;> rfl)
 clear hR hst cS
 rintro k σ ⟨met,todo,L,off,hr,hm,hk,hb,t0,t5,h8,t6,h11,hL,hd⟩
 simp only [zi1]
 cases todo with
 | nil =>
  rw [goL_nil] at hr
  subst hr
  have z:¬ (0:Int) < ((0:Nat):Int):=by decide
  simp (maxSteps:=9^7) only [go_sem,evM,z07.eq_1,z07.eq_2,ents.eq_1,ents.eq_2,kI.eq_1,mpOk.eq_1,mpR.eq_1,lkV.eq_1,lkV.eq_2,t0,t5,h8,t6,h11,z]
 | cons n rest =>
  obtain ⟨k,rfl⟩:∃ k',k = k' + 1:=⟨k - 1,by unfold mesL at hm; rw [List.length_cons] at hm; omega⟩
  have hn:=hb n (List.mem_cons_self ..)
  have h0:(0:Int) < ((rest.length + 1:Nat):Int):=by omega
  have hg:L.getD off .und = .int .i64 n:=by
   have:=congrArg (fun x:List AV=>x[0]?) hd
   simp only [List.getElem?_drop,Nat.add_zero,List.map_cons,List.getElem?_cons_zero] at this
   rw [List.getD_eq_getElem?_getD,this]; rfl
  have hd':L.drop (off + 1) = rest.map (AV.int .i64):=by
   have:=congrArg List.tail hd
   rw [List.tail_drop] at this
   exact this
  have hL':L.length = off + 1 + rest.length:=by rw [hL,List.length_cons]; omega
  have hoff:off < L.length:=by omega
  have tn0:Int.toNat 0 = 0:=rfl
  rw [goL] at hr
  have hlk:=zbs met n
  cases hc:met.contains n with
  | true =>
   rw [hc,if_pos rfl] at hr hlk
   simp (maxSteps:=9^7) only [go_sem,evM,z07.eq_1,z07.eq_2,ents.eq_1,ents.eq_2,kI.eq_1,mpOk.eq_1,mpR.eq_1,lkV.eq_1,lkV.eq_2,t0,t5,h8,t6,h11,h0,hg,hoff,tn0,hlk,Nat.add_sub_cancel]
   refine ⟨by show 1≤_; omega,k,by omega,met,rest,L,off + 1,hr,?_,by omega,fun x hx=>hb x (List.mem_cons_of_mem _ hx),?_,?_,?_,?_,?_,hL',hd'⟩
   ·unfold mesL at hm ⊢; rw [List.length_cons] at hm; omega
   iterate 5 focus ((simp (maxSteps:=9^7) only [go_sem,evM,z07.eq_1,z07.eq_2,ents.eq_1,ents.eq_2,kI.eq_1,mpOk.eq_1,mpR.eq_1,lkV.eq_1,lkV.eq_2,t0,t5,h8,h11]) <;> rfl)
  | false =>
   rw [hc,if_neg (by decide)] at hr hlk
   have hup:=upk_met hc
   have cN:=y43 l h n
   have hT:List.take (steps l n).length ((steps l n).map (AV.int .i64)) = (steps l n).map (AV.int .i64):=List.take_of_length_le (by simp)
   have hTk:L.take (off + 1 + rest.length) = L:=List.take_of_length_le (by omega)
   have hDk:(L.drop (off + 1)).take rest.length = rest.map (AV.int .i64):=by rw [hd',List.take_of_length_le (by simp)]
   have hms:=zxs h (todo:=rest) hn hc
   have hsl:=h.steps_len n
   have hbnd:rest.length≤500000:=by unfold mesL at hm; rw [List.length_cons] at hm; omega
   have hb':∀ x,x ∈ rest ++ steps l n->0≤x∧x < l.length:=fun x hx=>by
    rcases List.mem_append.1 hx with q | q
    ·exact hb x (List.mem_cons_of_mem _ q)
    ·exact h.step q
   have hlen:(rest ++ steps l n).length = rest.length + (steps l n).length:=List.length_append
   (repeat (first | simp (maxSteps:=9^7) only [go_sem,evM,z07.eq_1,z07.eq_2,ents.eq_1,ents.eq_2,kI.eq_1,mpOk.eq_1,mpR.eq_1,lkV.eq_1,lkV.eq_2,t0,t5,h8,t6,h11,h0,hg,hoff,tn0,hlk,hup,hT,Nat.add_sub_cancel,List.length_map] | refine z01 (cN) ?_ | refine z00 (cN) ?_ | refine And.intro (by omega) ?_ | refine And.intro (fun d hd=>by (repeat (rcases hd with rfl | hd; · exact ⟨rfl,rfl⟩)); cases hd) ?_))
   refine ⟨⟨⟨by omega,by omega⟩,zdm _⟩,⟨k,by omega,met ++ [n],rest ++ steps l n,L ++ (steps l n).map (AV.int .i64),off + 1,hr,by omega,by omega,hb',?_,?_,?_,?_,?_,by rw [List.length_append,List.length_map,hL',hlen]; omega,?_⟩,⟨k,by omega,met ++ [n],rest ++ steps l n,rest.map (AV.int .i64) ++ (steps l n).map (AV.int .i64),0,hr,by omega,by omega,hb',?_,?_,?_,?_,?_,?_,?_⟩⟩
   iterate 5 focus ((simp (maxSteps:=9^7) only [go_sem,evM,z07.eq_1,z07.eq_2,ents.eq_1,ents.eq_2,kI.eq_1,mpOk.eq_1,mpR.eq_1,lkV.eq_1,lkV.eq_2,t0,t5,hup,h8,hlen,hT,List.length_map,h11,hTk]) <;> rfl)
   ·rw [List.drop_append_of_le_length (by omega),hd',List.map_append]
   iterate 5 focus ((simp (maxSteps:=9^7) only [go_sem,evM,z07.eq_1,z07.eq_2,ents.eq_1,ents.eq_2,kI.eq_1,mpOk.eq_1,mpR.eq_1,lkV.eq_1,lkV.eq_2,t0,t5,hup,h8,hlen,hT,List.length_map,h11,hDk]) <;> rfl)
   ·rw [List.length_append,List.length_map,List.length_map,hlen,Nat.zero_add]
   ·rw [List.drop_zero,List.map_append]
set_option maxHeartbeats 1000000 in
theorem zdw (l:List Nd) (h:Lad l) (a b:Int):AFn Tryz.prog 15 [.sl (l.map Nd.a),.int .i64 a,.int .i64 b] (.bool ((belowL l a).contains b)):=by
 refine fn_lBelow rfl ?_
 have c1:=lof_ok l h.ord h.len
 have c2:=zsj l h a
 have hlk:=zbs (belowL l a) b
 cases hc:(belowL l a).contains b with
 | true =>
  rw [hc,if_pos rfl] at hlk
  (repeat (first | simp (maxSteps:=9^7) only [go_sem,evM,z07.eq_1,z07.eq_2,ents.eq_1,ents.eq_2,kI.eq_1,mpOk.eq_1,mpR.eq_1,lkV.eq_1,lkV.eq_2,hlk] | refine z01 (c1) ?_ | refine z00 (c1) ?_ | refine z01 (c2) ?_ | refine z00 (c2) ?_ | refine And.intro (by omega) ?_ | refine And.intro (fun d hd=>by (repeat (rcases hd with rfl | hd; · exact ⟨rfl,rfl⟩)); cases hd) ?_))
 | false =>
  rw [hc,if_neg (by decide)] at hlk
  (repeat (first | simp (maxSteps:=9^7) only [go_sem,evM,z07.eq_1,z07.eq_2,ents.eq_1,ents.eq_2,kI.eq_1,mpOk.eq_1,mpR.eq_1,lkV.eq_1,lkV.eq_2,hlk] | refine z01 (c1) ?_ | refine z00 (c1) ?_ | refine z01 (c2) ?_ | refine z00 (c2) ?_ | refine And.intro (by omega) ?_ | refine And.intro (fun d hd=>by (repeat (rcases hd with rfl | hd; · exact ⟨rfl,rfl⟩)); cases hd) ?_))
end
section
open Go.RowKit
attribute [local go_sem ↓] z18 z0h
def r_lif_0:Reg:=⟨[],[⟨.mv (.c (.int .i64 0)),some 4,none,[],[]⟩],[],[],false⟩
def zzw:List ROp:=[⟨.mv (.t 0),some 6,none,[],[]⟩,⟨.len false (.t 6),some 7,none,[],[]⟩,⟨.mv (.c (.int .i64 0)),some 8,none,[],[]⟩]
def r_lif_1:Reg:=⟨[],zzw,[],[],false⟩
def r_lif_2:Reg:=⟨[],[⟨.bin .lss (.t 8) (.t 7),some 9,none,[],[]⟩],[],[],false⟩
def r_lif_3:Reg:=⟨[],[⟨.mv (.t 8),some 10,none,[],[]⟩,⟨.mv (.t 10),some 5,none,[],[]⟩],[],[],false⟩
def zzv:List ROp:=[⟨.mv (.t 1),some 11,none,[16],[]⟩,⟨.mv (.t 0),some 12,none,[16],[]⟩,⟨.mv (.t 5),some 13,none,[16],[]⟩,⟨.iaddr 1 (.t 12) (.t 13),some 14,none,[16],[]⟩,⟨.load 1 false (.t 14),some 15,none,[16],[]⟩,⟨.callv (.t 11) [(.t 15)],some 16,none,[],[]⟩]
def r_lif_4:Reg:=⟨[],zzv,[16],[],false⟩
def r_lif_5:Reg:=⟨[],[⟨.mv (.t 5),some 17,none,[],[]⟩,⟨.mv (.t 17),some 4,none,[],[]⟩],[],[],false⟩
def r_lif_6:Reg:=⟨[],[⟨.bin .add (.t 8) (.c (.int .i64 1)),some 18,none,[],[]⟩,⟨.mv (.t 18),some 8,none,[],[]⟩],[],[],false⟩
def y5h:IR:=(.seq (.reg r_lif_2)
 (.seq (.cond (.t 9) .skip
 (.exit 0))
 (.seq (.block 1 (.seq (.reg r_lif_3)
 (.seq (.reg r_lif_4)
 (.cond (.t 16) (.seq (.reg r_lif_5)
 .ret)
 .skip))))
 (.reg r_lif_6))))
def r_lif_8:Reg:=⟨[],[⟨.mv (.c (.int .i64 (-1))),some 4,none,[],[]⟩],[],[],false⟩
def ir_lif:IR:=(.seq (.reg r_lif_0)
 (.seq (.seq (.reg r_lif_1)
 (.block 0 (.loop y5h)))
 (.seq (.reg r_lif_8)
 .ret)))
def res_lif:List RDesc:=[(.tmp 4)]
theorem e_lif_0:EqR r_lif_0 [⟨.mv (.c (.int .i64 0)),some 4,none,[],[]⟩] []:=fun _ _ _=>rfl
theorem e_lif_1:EqR r_lif_1 zzw []:=fun _ _ _=>rfl
theorem e_lif_2:EqR r_lif_2 [⟨.bin .lss (.t 8) (.t 7),some 9,none,[],[]⟩] []:=fun _ _ _=>rfl
theorem e_lif_3:EqR r_lif_3 [⟨.mv (.t 8),some 10,none,[],[]⟩,⟨.mv (.t 10),some 5,none,[],[]⟩] []:=fun _ _ _=>rfl
theorem e_lif_4:EqR r_lif_4 zzv [16]:=fun _ _ _=>rfl
theorem e_lif_5:EqR r_lif_5 [⟨.mv (.t 5),some 17,none,[],[]⟩,⟨.mv (.t 17),some 4,none,[],[]⟩] []:=fun _ _ _=>rfl
theorem e_lif_6:EqR r_lif_6 [⟨.bin .add (.t 8) (.c (.int .i64 1)),some 18,none,[],[]⟩,⟨.mv (.t 18),some 8,none,[],[]⟩] []:=fun _ _ _=>rfl
theorem e_lif_8:EqR r_lif_8 [⟨.mv (.c (.int .i64 (-1))),some 4,none,[],[]⟩] []:=fun _ _ _=>rfl
theorem fn_lif {args:List AV} {r:AV} (ha:args.length.ble Tryz.f52.ntmps = true) (h:run (AFn Tryz.prog) ir_lif (endQ res_lif r) (z0b args)):AFn Tryz.prog 52 args r :=
 AFn.of_code (pv:=false) (hint:=fun _=>[]) (c:=Tryz.f52.body.getD .skip) (by kernel_rfl) (by kernel_rfl) Tryz.func52 (by kernel_rfl) (by kernel_rfl) (by kernel_rfl) (of_decide_eq_true (by kernel_rfl)) (Nat.le_of_ble_eq_true ha) (Nat.le_of_ble_eq_true (by kernel_rfl)) (z09 h)
def r_lcf_0:Reg:=⟨[],[⟨.mv (.c (.bool false)),some 4,none,[],[]⟩],[],[],false⟩
def zzy:List ROp:=[⟨.mv (.t 0),some 5,none,[7],[]⟩,⟨.mv (.t 1),some 6,none,[7],[]⟩,⟨.callv (.c (.clo 52 [] [])) [(.t 5),(.t 6)],some 7,none,[],[]⟩,⟨.bin .geq (.t 7) (.c (.int .i64 0)),some 8,none,[],[]⟩,⟨.mv (.t 8),some 4,none,[],[]⟩]
def r_lcf_1:Reg:=⟨[],zzy,[7],[],false⟩
def ir_lcf:IR:=(.seq (.reg r_lcf_0)
 (.seq (.reg r_lcf_1)
 .ret))
def res_lcf:List RDesc:=[(.tmp 4)]
theorem e_lcf_0:EqR r_lcf_0 [⟨.mv (.c (.bool false)),some 4,none,[],[]⟩] []:=fun _ _ _=>rfl
theorem e_lcf_1:EqR r_lcf_1 zzy [7]:=fun _ _ _=>rfl
theorem fn_lcf {args:List AV} {r:AV} (ha:args.length.ble Tryz.f47.ntmps = true) (h:run (AFn Tryz.prog) ir_lcf (endQ res_lcf r) (z0b args)):AFn Tryz.prog 47 args r :=
 AFn.of_code (pv:=false) (hint:=fun _=>[]) (c:=Tryz.f47.body.getD .skip) (by kernel_rfl) (by kernel_rfl) Tryz.func47 (by kernel_rfl) (by kernel_rfl) (by kernel_rfl) (of_decide_eq_true (by kernel_rfl)) (Nat.le_of_ble_eq_true ha) (Nat.le_of_ble_eq_true (by kernel_rfl)) (z09 h)
def y5k:Reg:=⟨[],[⟨.mv (.c (.bool false)),some 4,none,[],[]⟩],[],[],false⟩
def zs5:List ROp:=[⟨.load 1 false (.t 1),some 5,none,[7],[]⟩,⟨.mv (.t 0),some 6,none,[7],[]⟩,⟨.callv (.c (.clo 45 [] [])) [(.t 5),(.t 6)],some 7,none,[],[]⟩,⟨.load 1 false (.t 2),some 8,none,[7],[]⟩,⟨.iaddr 1 (.t 8) (.c (.int .i64 0)),some 9,none,[7],[]⟩,⟨.load 1 false (.t 9),some 10,none,[7],[]⟩]
def y5j:Reg:=⟨zs5,[],[7],[],true⟩
def y5i:List XOp:=[(.mlook 11 false (.t 7) (.t 10) (.bool false) none),(.op [] ⟨.un .not (.t 11),some 12,none,[],[]⟩),(.op [] ⟨.mv (.t 12),some 4,none,[],[]⟩)]
def ir_lft1 (P:Program):IR:=(.seq (.reg y5k)
 (.seq (.regd P y5j y5i)
 .ret))
def y4e:List RDesc:=[(.tmp 4)]
theorem e_lft1_0:EqR y5k [⟨.mv (.c (.bool false)),some 4,none,[],[]⟩] []:=fun _ _ _=>rfl
theorem e_lft1_1 (P:Program) (C:FuncId->List AV->AV->Prop) (l:List XOp) (σ:St) (K:St->Prop):zg4 P C y5j l σ K = z08 C [] [] zs5 (σ.kills [7]) fun σ=>z0n P C l σ K:=rfl
theorem fn_lft1 {args:List AV} {r:AV} (ha:args.length.ble Tryz.f48.ntmps = true) (h:run (AFn Tryz.prog) (ir_lft1 Tryz.prog) (endQ y4e r) (z0b args)):AFn Tryz.prog 48 args r :=
 AFn.of_code (pv:=false) (hint:=fun _=>[]) (c:=Tryz.f48.body.getD .skip) (by kernel_rfl) (by kernel_rfl) Tryz.func48 (by kernel_rfl) (by kernel_rfl) (by kernel_rfl) (of_decide_eq_true (by kernel_rfl)) (Nat.le_of_ble_eq_true ha) (Nat.le_of_ble_eq_true (by kernel_rfl)) (z09 h)
def r_lrf_0:Reg:=⟨[],[⟨.mv (.c (.bool false)),some 8,none,[],[]⟩],[],[],false⟩
def zqu:List ROp:=[⟨.mv (.t 1),some 13,none,[15,18],[]⟩,⟨.mv (.t 3),some 14,none,[15,18],[]⟩,⟨.callv (.c (.clo 23 [] [])) [(.t 13),(.t 14)],some 15,none,[18],[]⟩,⟨.mv (.t 2),some 16,none,[18],[]⟩,⟨.mv (.t 3),some 17,none,[18],[]⟩,⟨.callv (.c (.clo 23 [] [])) [(.t 16),(.t 17)],some 18,none,[],[]⟩,⟨.mv (.t 15),some 9,none,[],[]⟩,⟨.mv (.t 18),some 10,none,[],[]⟩]
def r_lrf_1:Reg:=⟨[],zqu,[15,18],[],false⟩
def zqt:List ROp:=[⟨.mv (.t 9),some 19,none,[],[]⟩,⟨.len false (.t 19),some 20,none,[],[]⟩,⟨.bin .gtr (.t 20) (.c (.int .i64 2)),some 21,none,[],[]⟩,⟨.mv (.t 21),some 22,none,[],[]⟩,⟨.mv (.t 10),some 23,(some (22,false)),[],[]⟩,⟨.len false (.t 23),some 24,(some (22,false)),[],[]⟩,⟨.bin .gtr (.t 24) (.c (.int .i64 1)),some 25,(some (22,false)),[],[]⟩,⟨.pick (.t 22) (.c (.bool true)) (.t 25),some 26,none,[],[]⟩]
def r_lrf_2:Reg:=⟨[],zqt,[],[],false⟩
def r_lrf_3:Reg:=⟨[],[⟨.mv (.c (.bool true)),some 8,none,[],[]⟩],[],[],false⟩
def zqs:List ROp:=[⟨.callv (.c (.clo 24 [] [])) [(.t 42),(.t 45),(.t 48)],some 49,(some (41,true)),[],[]⟩,⟨.un .not (.t 49),some 50,(some (41,true)),[],[]⟩,⟨.pick (.t 41) (.t 50) (.c (.bool false)),some 51,none,[],[]⟩]
def zs4:List ROp:=[⟨.mv (.t 9),some 27,none,[38,49],[]⟩,⟨.len false (.t 27),some 28,none,[38,49],[]⟩,⟨.bin .eql (.t 28) (.c (.int .i64 2)),some 29,none,[38,49],[]⟩,⟨.mv (.t 29),some 30,none,[38,49],[]⟩,⟨.mv (.t 0),some 31,(some (30,true)),[38,49],[]⟩,⟨.mv (.t 9),some 32,(some (30,true)),[38,49],[]⟩,⟨.iaddr 1 (.t 32) (.c (.int .i64 0)),some 33,(some (30,true)),[38,49],[]⟩,⟨.load 1 false (.t 33),some 34,(some (30,true)),[38,49],[]⟩,⟨.mv (.t 9),some 35,(some (30,true)),[38,49],[]⟩,⟨.iaddr 1 (.t 35) (.c (.int .i64 1)),some 36,(some (30,true)),[38,49],[]⟩,⟨.load 1 false (.t 36),some 37,(some (30,true)),[38,49],[]⟩,⟨.callv (.c (.clo 24 [] [])) [(.t 31),(.t 34),(.t 37)],some 38,(some (30,true)),[49],[]⟩,⟨.un .not (.t 38),some 39,(some (30,true)),[49],[]⟩,⟨.pick (.t 30) (.t 39) (.c (.bool false)),some 40,none,[49],[]⟩,⟨.mv (.t 40),some 41,none,[49],[]⟩,⟨.mv (.t 0),some 42,(some (41,true)),[49],[]⟩,⟨.mv (.t 9),some 43,(some (41,true)),[49],[]⟩,⟨.iaddr 1 (.t 43) (.c (.int .i64 1)),some 44,(some (41,true)),[49],[]⟩,⟨.load 1 false (.t 44),some 45,(some (41,true)),[49],[]⟩,⟨.mv (.t 9),some 46,(some (41,true)),[49],[]⟩,⟨.iaddr 1 (.t 46) (.c (.int .i64 0)),some 47,(some (41,true)),[49],[]⟩,⟨.load 1 false (.t 47),some 48,(some (41,true)),[49],[]⟩]
def r_lrf_4:Reg:=⟨zs4,zqs,[38,49],[],true⟩
def r_lrf_5:Reg:=⟨[],[⟨.mv (.c (.bool true)),some 8,none,[],[]⟩],[],[],false⟩
def zqr:List ROp:=[⟨.mv (.t 10),some 52,none,[],[]⟩,⟨.len false (.t 52),some 53,none,[],[]⟩,⟨.bin .eql (.t 53) (.c (.int .i64 0)),some 54,none,[],[]⟩]
def r_lrf_6:Reg:=⟨[],zqr,[],[],false⟩
def r_lrf_7:Reg:=⟨[],[⟨.mv (.c (.bool false)),some 8,none,[],[]⟩],[],[],false⟩
def zqq:List ROp:=[⟨.mv (.t 9),some 55,none,[],[]⟩,⟨.len false (.t 55),some 56,none,[],[]⟩,⟨.bin .eql (.t 56) (.c (.int .i64 0)),some 57,none,[],[]⟩]
def r_lrf_8:Reg:=⟨[],zqq,[],[],false⟩
def zqp:List ROp:=[⟨.mv (.t 10),some 58,none,[],[]⟩,⟨.iaddr 1 (.t 58) (.c (.int .i64 0)),some 59,none,[],[]⟩,⟨.load 1 false (.t 59),some 60,none,[],[]⟩,⟨.bin .neq (.t 60) (.c (.int .i64 0)),some 61,none,[],[]⟩,⟨.mv (.t 61),some 8,none,[],[]⟩]
def r_lrf_9:Reg:=⟨[],zqp,[],[],false⟩
def zdf:List ROp:=[⟨.mv (.t 9),some 62,none,[],[]⟩,⟨.len false (.t 62),some 63,none,[],[]⟩,⟨.mv (.c (.int .i64 0)),some 64,none,[],[]⟩]
def y5f:Reg:=⟨[],zdf,[],[],false⟩
def y5e:Reg:=⟨[],[⟨.bin .lss (.t 64) (.t 63),some 65,none,[],[]⟩],[],[],false⟩
def zde:List ROp:=[⟨.iaddr 1 (.t 62) (.t 64),some 66,none,[],[]⟩,⟨.load 1 false (.t 66),some 67,none,[],[]⟩,⟨.mv (.t 67),some 12,none,[],[]⟩]
def y5d:Reg:=⟨[],zde,[],[],false⟩
def zdd:List ROp:=[⟨.mv (.t 0),some 68,none,[73],[]⟩,⟨.mv (.t 12),some 69,none,[73],[]⟩,⟨.mv (.t 10),some 70,none,[73],[]⟩,⟨.iaddr 1 (.t 70) (.c (.int .i64 0)),some 71,none,[73],[]⟩,⟨.load 1 false (.t 71),some 72,none,[73],[]⟩,⟨.callv (.c (.clo 24 [] [])) [(.t 68),(.t 69),(.t 72)],some 73,none,[],[]⟩,⟨.un .not (.t 73),some 74,none,[],[]⟩]
def y5c:Reg:=⟨[],zdd,[73],[],false⟩
def y5b:Reg:=⟨[],[⟨.mv (.c (.bool true)),some 8,none,[],[]⟩],[],[],false⟩
def y5a:Reg:=⟨[],[⟨.bin .add (.t 64) (.c (.int .i64 1)),some 75,none,[],[]⟩,⟨.mv (.t 75),some 64,none,[],[]⟩],[],[],false⟩
def zhw:IR:=(.seq (.reg y5e)
 (.seq (.cond (.t 65) .skip
 (.exit 0))
 (.seq (.block 1 (.seq (.reg y5d)
 (.seq (.reg y5c)
 (.cond (.t 74) (.seq (.reg y5b)
 .ret)
 .skip))))
 (.reg y5a))))
def y59:Reg:=⟨[],[⟨.mv (.c (.bool false)),some 8,none,[],[]⟩],[],[],false⟩
def ir_lrf:IR:=(.seq (.reg r_lrf_0)
 (.seq (.reg r_lrf_1)
 (.seq (.seq (.reg r_lrf_2)
 (.cond (.t 26) (.seq (.reg r_lrf_3)
 .ret)
 .skip))
 (.seq (.seq (.reg r_lrf_4)
 (.cond (.t 51) (.seq (.reg r_lrf_5)
 .ret)
 .skip))
 (.seq (.seq (.reg r_lrf_6)
 (.cond (.t 54) (.seq (.reg r_lrf_7)
 .ret)
 .skip))
 (.seq (.seq (.reg r_lrf_8)
 (.cond (.t 57) (.seq (.reg r_lrf_9)
 .ret)
 .skip))
 (.seq (.seq (.reg y5f)
 (.block 0 (.loop zhw)))
 (.seq (.reg y59)
 .ret))))))))
def y0z:List RDesc:=[(.tmp 8)]
theorem e_lrf_0:EqR r_lrf_0 [⟨.mv (.c (.bool false)),some 8,none,[],[]⟩] []:=fun _ _ _=>rfl
theorem e_lrf_1:EqR r_lrf_1 zqu [15,18]:=fun _ _ _=>rfl
theorem e_lrf_2:EqR r_lrf_2 zqt []:=fun _ _ _=>rfl
theorem e_lrf_3:EqR r_lrf_3 [⟨.mv (.c (.bool true)),some 8,none,[],[]⟩] []:=fun _ _ _=>rfl
theorem e_lrf_4 (C:FuncId->List AV->AV->Prop) (σ:St) (K:St->Prop):z0l C r_lrf_4 σ K = z08 C [] zqs zs4 (σ.kills [38,49]) K:=rfl
theorem e_lrf_5:EqR r_lrf_5 [⟨.mv (.c (.bool true)),some 8,none,[],[]⟩] []:=fun _ _ _=>rfl
theorem e_lrf_6:EqR r_lrf_6 zqr []:=fun _ _ _=>rfl
theorem e_lrf_7:EqR r_lrf_7 [⟨.mv (.c (.bool false)),some 8,none,[],[]⟩] []:=fun _ _ _=>rfl
theorem e_lrf_8:EqR r_lrf_8 zqq []:=fun _ _ _=>rfl
theorem e_lrf_9:EqR r_lrf_9 zqp []:=fun _ _ _=>rfl
theorem y86:EqR y5f zdf []:=fun _ _ _=>rfl
theorem y85:EqR y5e [⟨.bin .lss (.t 64) (.t 63),some 65,none,[],[]⟩] []:=fun _ _ _=>rfl
theorem y84:EqR y5d zde []:=fun _ _ _=>rfl
theorem y83:EqR y5c zdd [73]:=fun _ _ _=>rfl
theorem y82:EqR y5b [⟨.mv (.c (.bool true)),some 8,none,[],[]⟩] []:=fun _ _ _=>rfl
theorem y81:EqR y5a [⟨.bin .add (.t 64) (.c (.int .i64 1)),some 75,none,[],[]⟩,⟨.mv (.t 75),some 64,none,[],[]⟩] []:=fun _ _ _=>rfl
theorem y80:EqR y59 [⟨.mv (.c (.bool false)),some 8,none,[],[]⟩] []:=fun _ _ _=>rfl
theorem fn_lrf {args:List AV} {r:AV} (ha:args.length.ble Tryz.f7.ntmps = true) (h:run (AFn Tryz.prog) ir_lrf (endQ y0z r) (z0b args)):AFn Tryz.prog 7 args r :=
 AFn.of_code (pv:=false) (hint:=fun _=>[]) (c:=Tryz.f7.body.getD .skip) (by kernel_rfl) (by kernel_rfl) Tryz.func7 (by kernel_rfl) (by kernel_rfl) (by kernel_rfl) (of_decide_eq_true (by kernel_rfl)) (Nat.le_of_ble_eq_true ha) (Nat.le_of_ble_eq_true (by kernel_rfl)) (z09 h)
attribute [local go_sem ↓] ir_lif
attribute [local go_sem] res_lif e_lif_0 e_lif_1 zzw e_lif_2 e_lif_3 e_lif_4 zzv e_lif_5 e_lif_6 e_lif_8
attribute [local go_sem ↓] ir_lcf
attribute [local go_sem] res_lcf e_lcf_0 e_lcf_1 zzy
attribute [local go_sem ↓] ir_lft1
attribute [local go_sem] y4e e_lft1_0 e_lft1_1 zs5 y5i
attribute [local go_sem ↓] ir_lrf
attribute [local go_sem] y0z e_lrf_0 e_lrf_1 zqu e_lrf_2 zqt e_lrf_3 e_lrf_4 zqs zs4 e_lrf_5 e_lrf_6 zqr e_lrf_7 e_lrf_8 zqq e_lrf_9 zqp y86 zdf y85 y84 zde y83 zdd y82 y81 y80
def idxL (p:Int->Bool):List Int->Nat->Int
 | [],_=>-1
 | x :: l,j=>if p x then j else idxL p l (j + 1)
theorem y7i (p:Int->Bool):∀ (l:List Int) (j:Nat),decide (0≤idxL p l j) = l.any p
 | [],j=>rfl
 | x :: l,j=>by
  rw [idxL,List.any_cons]
  cases h:p x with
  | true=>rw [if_pos rfl,Bool.true_or]; simp
  | false=>rw [if_neg (by simp),Bool.false_or]; exact y7i p l (j + 1)
def lifI (l:List Int) (c:AV) (r:Int) (p:Int->Bool) (k:Nat) (σ:St):Prop :=
 ∃ j:Nat,j≤l.length∧k = l.length - j∧σ.T 0 = .sl (l.map (AV.int .i64))∧σ.T 1 = c∧σ.T 7 = .int .i64 l.length∧σ.T 8 = .int .i64 j∧idxL p (l.drop j) j = r
theorem lif_ok (l:List Int) (f:FuncId) (fi ca:List AV) (p:Int->Bool) (hl:l.length≤1000000) (hp:∀ m,m ∈ l->AFn Tryz.prog f (fi ++ [.int .i64 m] ++ ca) (.bool (p m))) :
  AFn Tryz.prog 52 [.sl (l.map (AV.int .i64)),.clo f fi ca] (.int .i64 (idxL p l 0)):=by
 refine fn_lif rfl ?_
 simp (maxSteps:=9^7) only [go_sem,Msg.a,Par.a,evM,z07.eq_1,z07.eq_2,ents.eq_1,ents.eq_2,kI.eq_1,mpOk.eq_1,mpR.eq_1,lkV.eq_1,lkV.eq_2,List.length_map]
 refine z06 (lifI l (.clo f fi ca) (idxL p l 0) p) (k:=l.length) ⟨0,by omega,rfl,rfl,rfl,?_,rfl,rfl⟩ ?_
 ·(simp (maxSteps:=9^7) only [go_sem,Msg.a,Par.a,evM,z07.eq_1,z07.eq_2,ents.eq_1,ents.eq_2,kI.eq_1,mpOk.eq_1,mpR.eq_1,lkV.eq_1,lkV.eq_2,List.length_map]) <;> rfl
 rintro k σ ⟨j,hj,rfl,t0,t1,t7,t8,hr⟩
 simp only [y5h]
 by_cases hlt:j < l.length
 ·have hlt':(j:Int) < (l.length:Int):=by omega
  obtain ⟨x,hx⟩:=z0f hlt
  have hg:=z0k (f:=AV.int .i64) hx
  have hw:=z1a (j:=j) (by omega)
  simp (maxSteps:=9^7) only [go_sem,Msg.a,Par.a,evM,z07.eq_1,z07.eq_2,ents.eq_1,ents.eq_2,kI.eq_1,mpOk.eq_1,mpR.eq_1,lkV.eq_1,lkV.eq_2,t0,t1,t7,t8,hlt',hg,hlt,List.length_map,Int.toNat_natCast]
  refine ⟨by omega,z01 (hp x (List.mem_of_getElem? hx)) ?_⟩
  rw [z0d hx,idxL] at hr
  cases hpx:p x with
  | true =>
   rw [hpx,if_pos rfl] at hr
   simp (maxSteps:=9^7) only [go_sem,Msg.a,Par.a,evM,z07.eq_1,z07.eq_2,ents.eq_1,ents.eq_2,kI.eq_1,mpOk.eq_1,mpR.eq_1,lkV.eq_1,lkV.eq_2,t0,t1,t7,t8,hr]
  | false =>
   rw [hpx,if_neg (by simp)] at hr
   simp (maxSteps:=9^7) only [go_sem,Msg.a,Par.a,evM,z07.eq_1,z07.eq_2,ents.eq_1,ents.eq_2,kI.eq_1,mpOk.eq_1,mpR.eq_1,lkV.eq_1,lkV.eq_2,t0,t1,t7,t8,hw]
   refine ⟨l.length - (j + 1),by omega,j + 1,by omega,rfl,?_,?_,?_,?_,hr⟩ <;> (simp (maxSteps:=9^7) only [go_sem,Msg.a,Par.a,evM,z07.eq_1,z07.eq_2,ents.eq_1,ents.eq_2,kI.eq_1,mpOk.eq_1,mpR.eq_1,lkV.eq_1,lkV.eq_2,t0,t1,t7,t8,hw])
 ·have hlt':¬ (j:Int) < (l.length:Int):=by omega
  have hr':idxL p l 0 = -1:=by rw [← hr,List.drop_eq_nil_of_le (by omega)]; rfl
  simp (maxSteps:=9^7) only [go_sem,Msg.a,Par.a,evM,z07.eq_1,z07.eq_2,ents.eq_1,ents.eq_2,kI.eq_1,mpOk.eq_1,mpR.eq_1,lkV.eq_1,lkV.eq_2,t0,t1,t7,t8,hlt',hr',List.length_map]
theorem lcf_ok (l:List Int) (f:FuncId) (fi ca:List AV) (p:Int->Bool) (hl:l.length≤1000000) (hp:∀ m,m ∈ l->AFn Tryz.prog f (fi ++ [.int .i64 m] ++ ca) (.bool (p m))) :
  AFn Tryz.prog 47 [.sl (l.map (AV.int .i64)),.clo f fi ca] (.bool (l.any p)):=by
 refine fn_lcf rfl ?_
 have c:=lif_ok l f fi ca p hl hp
 rw [← y7i p l 0]
 (repeat (first | simp (maxSteps:=9^7) only [go_sem,Msg.a,Par.a,evM,z07.eq_1,z07.eq_2,ents.eq_1,ents.eq_2,kI.eq_1,mpOk.eq_1,mpR.eq_1,lkV.eq_1,lkV.eq_2] | refine z01 (c) ?_ | refine z00 (c) ?_ | refine And.intro (by omega) ?_ | refine And.intro (fun d hd=>by (repeat (rcases hd with rfl | hd; · exact ⟨rfl,rfl⟩)); cases hd) ?_))
theorem y6s (m:List Int) (k:Int):lkV false (.bool false) (lkp (metM m) k) = .bool (m.contains k):=by
 rw [zbs]
 cases m.contains k <;> rfl
theorem fault1_ok (l:List Nd) (h:Lad l) (slot w:Int) (r:List Int):AFn Tryz.prog 48 [.int .i64 slot,.rp [.mv (z29 l)],.rp [.sl ((w :: r).map (AV.int .i64))]] (.bool (!bwL l slot w)):=by
 refine fn_lft1 rfl ?_
 have c:=zsj l h slot
 have hm:=y6s (belowL l slot) w
 have tn0:Int.toNat 0 = 0:=rfl
 have hl1:(0:Int) < ((r.length + 1:Nat):Int):=by omega
 unfold bwL
 (repeat (first | simp (maxSteps:=9^7) only [go_sem,Msg.a,Par.a,evM,z07.eq_1,z07.eq_2,ents.eq_1,ents.eq_2,kI.eq_1,mpOk.eq_1,mpR.eq_1,lkV.eq_1,lkV.eq_2,hm,tn0,hl1,List.length_map] | refine z01 (c) ?_ | refine z00 (c) ?_ | refine And.intro (by omega) ?_ | refine And.intro (fun d hd=>by (repeat (rcases hd with rfl | hd; · exact ⟨rfl,rfl⟩)); cases hd) ?_))
end
section
open Go.RowKit
attribute [local go_sem ↓] z18 z0h
attribute [local go_sem ↓] ir_lrf
attribute [local go_sem] y0z e_lrf_0 e_lrf_1 zqu e_lrf_2 zqt e_lrf_3 e_lrf_4 zqs zs4 e_lrf_5 e_lrf_6 zqr e_lrf_7 e_lrf_8 zqq e_lrf_9 zqp y86 zdf y85 y84 zde y83 zdd y82 y81 y80
theorem z5v (l:List Nd) (h:Lad l) (a b:Int):AFn Tryz.prog 24 [.sl (l.map Nd.a),.int .i64 a,.int .i64 b] (.bool (bwL l a b)):=by
 have:=r55b_ok l h a b
 rw [← below_same h a b] at this
 exact this
def lrfI (l:List Nd) (A:List Int) (w:Int) (R:Bool) (k:Nat) (σ:St):Prop :=
 ∃ i:Nat,i≤A.length∧k = A.length - i∧σ.T 0 = .sl (l.map Nd.a)∧σ.T 10 = .rs 18 0 1∧σ.H 18 = some ⟨1,3,[AV.int .i64 w],0⟩∧σ.T 62 = .rs 15 0 A.length∧σ.H 15 = some ⟨1,3,A.map (AV.int .i64),0⟩∧σ.T 63 = .int .i64 A.length∧σ.T 64 = .int .i64 i∧((A.drop i).any fun a=>!bwL l a w) = R
set_option maxHeartbeats 8000000 in
theorem y6u (l:List Nd) (h:Lad l) (A:List Int) (hA:A.length≤10) (w:Int) (R:Bool) (Q:XK->St->Prop) (hEnd:∀ σ,R = false->Q (.exit 0) σ) (hRet:∀ σ,R = true->σ.T 8 = .bool true->Q .ret σ) (k:Nat) (σ:St) (hI:lrfI l A w R k σ) :
  run (AFn Tryz.prog) zhw (z2h (fun σ'=>∃ m,m < k∧lrfI l A w R m σ') Q) σ:=by
 obtain ⟨i,hi,rfl,t0,t10,h18,t62,h15,t63,t64,hr⟩:=hI
 simp only [zhw]
 have tn0:Int.toNat 0 = 0:=rfl
 by_cases hlt:i < A.length
 ·have hlt':(i:Int) < (A.length:Int):=by omega
  obtain ⟨x,hx⟩:=z0f hlt
  have hg:=z0k (f:=AV.int .i64) hx
  have hwr:=z1a (j:=i) (by omega)
  have c1:=z5v l h x w
  rw [z0d hx,List.any_cons] at hr
  cases e:bwL l x w with
  | true =>
   rw [e] at c1 hr
   simp only [Bool.not_true,Bool.false_or] at hr
   (repeat (first | simp (maxSteps:=9^7) only [go_sem,Msg.a,Par.a,evM,t0,t10,h18,t62,h15,t63,t64,hlt',hlt,hg,tn0,List.length_map,List.length_cons,List.length_nil,Int.toNat_natCast] | refine z01 (c1) ?_ | refine z00 (c1) ?_ | refine And.intro (by omega) ?_ | refine And.intro (fun d hd=>by (repeat (rcases hd with rfl | hd; · exact ⟨rfl,rfl⟩)); cases hd) ?_))
   refine ⟨A.length - (i + 1),by omega,i + 1,by omega,rfl,?_,?_,?_,?_,?_,?_,?_,hr⟩ <;> (simp (maxSteps:=9^7) only [go_sem,Msg.a,Par.a,evM,t0,t10,h18,t62,h15,t63,t64,hwr])
  | false =>
   rw [e] at c1 hr
   simp only [Bool.not_false,Bool.true_or] at hr
   (repeat (first | simp (maxSteps:=9^7) only [go_sem,Msg.a,Par.a,evM,t0,t10,h18,t62,h15,t63,t64,hlt',hlt,hg,tn0,List.length_map,List.length_cons,List.length_nil,Int.toNat_natCast] | refine z01 (c1) ?_ | refine z00 (c1) ?_ | refine And.intro (by omega) ?_ | refine And.intro (fun d hd=>by (repeat (rcases hd with rfl | hd; · exact ⟨rfl,rfl⟩)); cases hd) ?_))
   exact hRet _ hr.symm (by simp (maxSteps:=9^7) only [go_sem,Msg.a,Par.a,evM])
 ·have hlt':¬ (i:Int) < (A.length:Int):=by omega
  rw [List.drop_eq_nil_of_le (by omega)] at hr
  simp (maxSteps:=9^7) only [go_sem,Msg.a,Par.a,evM,t63,t64,hlt']
  exact hEnd _ hr.symm
set_option maxHeartbeats 8000000 in
theorem rFault_ok (l:List Nd) (h:Lad l) (hs ws:List Hld) (hh:hs.length≤1000) (hw:ws.length≤1000) (t:Int):AFn Tryz.prog 7 [.sl (l.map Nd.a),.sl (hs.map Hld.a),.sl (ws.map Hld.a),.int .i64 t] (.bool (fltB l hs ws t)):=by
 refine fn_lrf rfl ?_
 have cA:=zxh hs hh t
 have cB:=zxh ws hw t
 unfold fltB
 generalize z1d hs t = A at *
 generalize z1d ws t = B at *
 by_cases h1:2 < A.length
 ·have h1':(2:Int) < (A.length:Int):=by omega
  have e:z0m (bwL l) A B = true:=by
   match A,h1 with
   | a :: b :: c :: r,_=>cases B <;> rfl
  rw [e]
  (repeat (first | simp (maxSteps:=9^7) only [go_sem,Msg.a,Par.a,evM,List.length_map,h1'] | refine z01 (cA) ?_ | refine z00 (cA) ?_ | refine z01 (cB) ?_ | refine z00 (cB) ?_ | refine And.intro (by omega) ?_ | refine And.intro (fun d hd=>by (repeat (rcases hd with rfl | hd; · exact ⟨rfl,rfl⟩)); cases hd) ?_))
 have h1':¬ (2:Int) < (A.length:Int):=by omega
 by_cases h2:1 < B.length
 ·have h2':(1:Int) < (B.length:Int):=by omega
  have e:z0m (bwL l) A B = true:=by
   match A,B,h1,h2 with
   | [],x :: y :: r,_,_=>rfl
   | [a],x :: y :: r,_,_=>rfl
   | [a,b],x :: y :: r,_,_=>rfl
   | a :: b :: c :: r,x :: y :: r',h1,_=>exact absurd (by simp) h1
  rw [e]
  (repeat (first | simp (maxSteps:=9^7) only [go_sem,Msg.a,Par.a,evM,List.length_map,h1',h2'] | refine z01 (cA) ?_ | refine z00 (cA) ?_ | refine z01 (cB) ?_ | refine z00 (cB) ?_ | refine And.intro (by omega) ?_ | refine And.intro (fun d hd=>by (repeat (rcases hd with rfl | hd; · exact ⟨rfl,rfl⟩)); cases hd) ?_))
 have n0:((0:Nat):Int) = 0:=rfl
 have n1:((1:Nat):Int) = 1:=rfl
 have n2:((2:Nat):Int) = 2:=rfl
 have tn0:Int.toNat 0 = 0:=rfl
 have tn1:Int.toNat 1 = 1:=rfl
 match A,B,h1,h2 with
 | a :: b :: c :: r,_,h1,_=>exact absurd (by simp) h1
 | [],x :: y :: r,_,h2=>exact absurd (by simp) h2
 | [a],x :: y :: r,_,h2=>exact absurd (by simp) h2
 | [a,b],x :: y :: r,_,h2=>exact absurd (by simp) h2
 | [],[],_,_ =>
  simp only [List.map_nil] at cA cB
  (repeat (first | simp (maxSteps:=9^7) only [go_sem,Msg.a,Par.a,evM,List.length_map,List.length_cons,List.length_nil,n0,n1,n2,tn0,tn1] | refine z01 (cA) ?_ | refine z00 (cA) ?_ | refine z01 (cB) ?_ | refine z00 (cB) ?_ | refine And.intro (by omega) ?_ | refine And.intro (fun d hd=>by (repeat (rcases hd with rfl | hd; · exact ⟨rfl,rfl⟩)); cases hd) ?_))
  simp only [z0m]
 | [],[w],_,_ =>
  simp only [List.map_nil,List.map_cons] at cA cB
  (repeat (first | simp (maxSteps:=9^7) only [go_sem,Msg.a,Par.a,evM,List.length_map,List.length_cons,List.length_nil,n0,n1,n2,tn0,tn1] | refine z01 (cA) ?_ | refine z00 (cA) ?_ | refine z01 (cB) ?_ | refine z00 (cB) ?_ | refine And.intro (by omega) ?_ | refine And.intro (fun d hd=>by (repeat (rcases hd with rfl | hd; · exact ⟨rfl,rfl⟩)); cases hd) ?_))
  simp only [z0m]
 | [a],[],_,_ =>
  simp only [List.map_nil,List.map_cons] at cA cB
  (repeat (first | simp (maxSteps:=9^7) only [go_sem,Msg.a,Par.a,evM,List.length_map,List.length_cons,List.length_nil,n0,n1,n2,tn0,tn1] | refine z01 (cA) ?_ | refine z00 (cA) ?_ | refine z01 (cB) ?_ | refine z00 (cB) ?_ | refine And.intro (by omega) ?_ | refine And.intro (fun d hd=>by (repeat (rcases hd with rfl | hd; · exact ⟨rfl,rfl⟩)); cases hd) ?_))
  simp only [z0m]
 | [a],[w],_,_ =>
  simp only [List.map_nil,List.map_cons] at cA cB
  (repeat (first | simp (maxSteps:=9^7) only [go_sem,Msg.a,Par.a,evM,List.length_map,List.length_cons,List.length_nil,n0,n1,n2,tn0,tn1] | refine z01 (cA) ?_ | refine z00 (cA) ?_ | refine z01 (cB) ?_ | refine z00 (cB) ?_ | refine And.intro (by omega) ?_ | refine And.intro (fun d hd=>by (repeat (rcases hd with rfl | hd; · exact ⟨rfl,rfl⟩)); cases hd) ?_))
  have hz:([a].any fun a=>!bwL l a w) = !bwL l a w:=by simp
  refine z06 (lrfI l [a] w (!bwL l a w)) (k:=1) ⟨0,Nat.zero_le _,rfl,?_,?_,?_,?_,?_,?_,?_,hz⟩ (y6u l h [a] (by simp) w _ _ ?_ ?_) <;> try (simp (maxSteps:=9^7) only [go_sem,Msg.a,Par.a,evM,List.length_map,List.length_cons,List.length_nil,n0,n1,n2,tn0,tn1])
  ·intro σ e
   simp only [z0m,e]; rfl
  ·intro σ e t8
   rw [t8]
   simp only [z0m,e]; rfl
 | [a,b],[],_,_ =>
  simp only [List.map_nil,List.map_cons] at cA cB
  have c1:=z5v l h a b
  have c2:=z5v l h b a
  cases e1:bwL l a b with
  | true =>
   rw [e1] at c1
   (repeat (first | simp (maxSteps:=9^7) only [go_sem,Msg.a,Par.a,evM,List.length_map,List.length_cons,List.length_nil,n0,n1,n2,tn0,tn1] | refine z01 (cA) ?_ | refine z00 (cA) ?_ | refine z01 (cB) ?_ | refine z00 (cB) ?_ | refine z01 (c1) ?_ | refine z00 (c1) ?_ | refine And.intro (by omega) ?_ | refine And.intro (fun d hd=>by (repeat (rcases hd with rfl | hd; · exact ⟨rfl,rfl⟩)); cases hd) ?_))
   simp only [z0m,e1,Bool.not_true,Bool.false_and]
  | false =>
   rw [e1] at c1
   cases e2:bwL l b a with
   | true =>
    rw [e2] at c2
    (repeat (first | simp (maxSteps:=9^7) only [go_sem,Msg.a,Par.a,evM,List.length_map,List.length_cons,List.length_nil,n0,n1,n2,tn0,tn1] | refine z01 (cA) ?_ | refine z00 (cA) ?_ | refine z01 (cB) ?_ | refine z00 (cB) ?_ | refine z01 (c1) ?_ | refine z00 (c1) ?_ | refine z01 (c2) ?_ | refine z00 (c2) ?_ | refine And.intro (by omega) ?_ | refine And.intro (fun d hd=>by (repeat (rcases hd with rfl | hd; · exact ⟨rfl,rfl⟩)); cases hd) ?_))
    simp only [z0m,e1,e2,Bool.not_true,Bool.and_false]
   | false =>
    rw [e2] at c2
    (repeat (first | simp (maxSteps:=9^7) only [go_sem,Msg.a,Par.a,evM,List.length_map,List.length_cons,List.length_nil,n0,n1,n2,tn0,tn1] | refine z01 (cA) ?_ | refine z00 (cA) ?_ | refine z01 (cB) ?_ | refine z00 (cB) ?_ | refine z01 (c1) ?_ | refine z00 (c1) ?_ | refine z01 (c2) ?_ | refine z00 (c2) ?_ | refine And.intro (by omega) ?_ | refine And.intro (fun d hd=>by (repeat (rcases hd with rfl | hd; · exact ⟨rfl,rfl⟩)); cases hd) ?_))
    simp only [z0m,e1,e2,Bool.not_false,Bool.and_true]
 | [a,b],[w],_,_ =>
  simp only [List.map_nil,List.map_cons] at cA cB
  have c1:=z5v l h a b
  have c2:=z5v l h b a
  have hz:([a,b].any fun a=>!bwL l a w) = (!bwL l a w || !bwL l b w):=by simp
  have lp:=fun (Q:XK->St->Prop) hE hR=>y6u l h [a,b] (by simp) w (!bwL l a w || !bwL l b w) Q hE hR
  cases e1:bwL l a b with
  | true =>
   rw [e1] at c1
   (repeat (first | simp (maxSteps:=9^7) only [go_sem,Msg.a,Par.a,evM,List.length_map,List.length_cons,List.length_nil,n0,n1,n2,tn0,tn1] | refine z01 (cA) ?_ | refine z00 (cA) ?_ | refine z01 (cB) ?_ | refine z00 (cB) ?_ | refine z01 (c1) ?_ | refine z00 (c1) ?_ | refine And.intro (by omega) ?_ | refine And.intro (fun d hd=>by (repeat (rcases hd with rfl | hd; · exact ⟨rfl,rfl⟩)); cases hd) ?_))
   refine z06 (lrfI l [a,b] w (!bwL l a w || !bwL l b w)) (k:=2) ⟨0,Nat.zero_le _,rfl,?_,?_,?_,?_,?_,?_,?_,hz⟩ (lp _ ?_ ?_) <;> try (simp (maxSteps:=9^7) only [go_sem,Msg.a,Par.a,evM,List.length_map,List.length_cons,List.length_nil,n0,n1,n2,tn0,tn1])
   ·intro σ e
    simp only [z0m,e1,e,Bool.not_true,Bool.false_and]; rfl
   ·intro σ e t8
    rw [t8]
    simp only [z0m,e1,e,Bool.not_true,Bool.false_and]; rfl
  | false =>
   rw [e1] at c1
   cases e2:bwL l b a with
   | true =>
    rw [e2] at c2
    (repeat (first | simp (maxSteps:=9^7) only [go_sem,Msg.a,Par.a,evM,List.length_map,List.length_cons,List.length_nil,n0,n1,n2,tn0,tn1] | refine z01 (cA) ?_ | refine z00 (cA) ?_ | refine z01 (cB) ?_ | refine z00 (cB) ?_ | refine z01 (c1) ?_ | refine z00 (c1) ?_ | refine z01 (c2) ?_ | refine z00 (c2) ?_ | refine And.intro (by omega) ?_ | refine And.intro (fun d hd=>by (repeat (rcases hd with rfl | hd; · exact ⟨rfl,rfl⟩)); cases hd) ?_))
    refine z06 (lrfI l [a,b] w (!bwL l a w || !bwL l b w)) (k:=2) ⟨0,Nat.zero_le _,rfl,?_,?_,?_,?_,?_,?_,?_,hz⟩ (lp _ ?_ ?_) <;> try (simp (maxSteps:=9^7) only [go_sem,Msg.a,Par.a,evM,List.length_map,List.length_cons,List.length_nil,n0,n1,n2,tn0,tn1])
    ·intro σ e
     simp only [z0m,e1,e2,e,Bool.not_true,Bool.and_false]; rfl
    ·intro σ e t8
     rw [t8]
     simp only [z0m,e1,e2,e,Bool.not_true,Bool.and_false]; rfl
   | false =>
    rw [e2] at c2
    (repeat (first | simp (maxSteps:=9^7) only [go_sem,Msg.a,Par.a,evM,List.length_map,List.length_cons,List.length_nil,n0,n1,n2,tn0,tn1] | refine z01 (cA) ?_ | refine z00 (cA) ?_ | refine z01 (cB) ?_ | refine z00 (cB) ?_ | refine z01 (c1) ?_ | refine z00 (c1) ?_ | refine z01 (c2) ?_ | refine z00 (c2) ?_ | refine And.intro (by omega) ?_ | refine And.intro (fun d hd=>by (repeat (rcases hd with rfl | hd; · exact ⟨rfl,rfl⟩)); cases hd) ?_))
    simp only [z0m,e1,e2]; rfl
end
end Go.Proofs.YtlhblpbfhfhlpaaGreat
