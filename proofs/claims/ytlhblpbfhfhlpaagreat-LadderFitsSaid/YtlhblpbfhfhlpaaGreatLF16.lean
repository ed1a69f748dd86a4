/-
  Part 16 of a proof: LoE, LoG, LfE, WbA, WaB, WaC, WaD.
-/
import Derived.Maps.AppendAt
import Derived.Test.YtlhblpbfhfhlpaaGreatLF15
set_option linter.unusedVariables false
set_option linter.unusedSimpArgs false
set_option maxRecDepth 100000
attribute [local go_sem] reduceCtorEq Nat.reduceEqDiff Nat.reduceBEq Nat.reduceAdd Nat.reduceSub Nat.reduceMul Nat.reduceLT Nat.reduceLeDiff Nat.reduceBNe Int.reduceBEq Int.reduceBNe Int.reduceLT Int.reduceLE
attribute [local go_sem ↓] reduceIte
namespace Go.Proofs.YtlhblpbfhfhlpaaGreat
section
open Go.RowKit
attribute [local go_sem ↓] z18 z0h
def zou:Reg:=⟨[],[⟨.mknil 1 3,some 2,none,[],[]⟩],[2],[],false⟩
def zax:List ROp:=[⟨.mv (.t 0),some 12,none,[13],[]⟩,⟨.callv (.c (.clo 18 [] [])) [(.t 12)],some 13,none,[],[]⟩,⟨.mv (.t 13),some 3,none,[],[]⟩]
def zot:Reg:=⟨[],zax,[13],[],false⟩
def zos:Reg:=⟨[],[⟨.mknil 1 3,some 4,none,[],[]⟩],[4],[],false⟩
def zor:List XOp:=[(.mkmap 14 52),(.op [] ⟨.mv (.t 14),some 5,none,[],[]⟩)]
def zoq:Reg:=⟨[],[⟨.bsl 1 3 [(.c (.int .i64 0))],some 15,none,[],[]⟩,⟨.mv (.t 15),some 6,none,[],[]⟩],[15],[],false⟩
def zaw:List ROp:=[⟨.mv (.t 6),some 16,none,[],[]⟩,⟨.len false (.t 16),some 17,none,[],[]⟩,⟨.bin .gtr (.t 17) (.c (.int .i64 0)),some 18,none,[],[]⟩]
def zop:Reg:=⟨[],zaw,[],[],false⟩
def zoo:Reg:=⟨[],[⟨.mknil 1 3,some 7,none,[],[]⟩],[7],[],false⟩
def zav:List ROp:=[⟨.mv (.t 6),some 19,none,[],[]⟩,⟨.len false (.t 19),some 20,none,[],[]⟩,⟨.mv (.c (.int .i64 0)),some 21,none,[],[]⟩]
def zon:Reg:=⟨[],zav,[],[],false⟩
def zom:Reg:=⟨[],[⟨.bin .lss (.t 21) (.t 20),some 22,none,[],[]⟩],[],[],false⟩
def zau:List ROp:=[⟨.iaddr 1 (.t 19) (.t 21),some 23,none,[],[]⟩,⟨.load 1 false (.t 23),some 24,none,[],[]⟩,⟨.mv (.t 24),some 9,none,[],[]⟩]
def zol:Reg:=⟨[],zau,[],[],false⟩
def zia:List XOp:=[(.op [] ⟨.mv (.t 3),some 26,none,[],[]⟩),(.op [] ⟨.mv (.t 9),some 27,none,[],[]⟩),(.mlook 28 true (.t 26) (.t 27) (.agg [(.int .i64 0),(.int .i64 0),(.sl []),(.sl []),(.str ⟨#[]⟩),(.bool false),(.int .i64 0),(.int .i64 0),(.sl []),(.sl [])]) none),(.op [] ⟨.mv (.t 28),some 25,none,[],[]⟩),(.op [] ⟨.ext 0 (.t 25),some 29,none,[],[]⟩),(.op [] ⟨.ext 1 (.t 25),some 30,none,[],[]⟩),(.op [10] ⟨.alloc 10 45 (.agg [(.int .i64 0),(.int .i64 0),(.sl []),(.sl []),(.str ⟨#[]⟩),(.bool false),(.int .i64 0),(.int .i64 0),(.sl []),(.sl [])]),some 10,none,[],[]⟩),(.op [] ⟨.store 10 (.t 10) (.t 29),none,none,[],[]⟩),(.op [] ⟨.mv (.t 30),some 11,none,[],[]⟩)]
def zi9:List XOp:=[(.op [] ⟨.mv (.t 11),some 31,none,[],[]⟩),(.op [] ⟨.mv (.t 31),some 32,none,[],[]⟩),(.op [] ⟨.mv (.t 5),some 33,(some (32,true)),[],[]⟩),(.op [] ⟨.mv (.t 9),some 34,(some (32,true)),[],[]⟩),(.mlook 35 false (.t 33) (.t 34) (.bool false) (some (32,true))),(.op [] ⟨.un .not (.t 35),some 36,(some (32,true)),[],[]⟩),(.op [] ⟨.pick (.t 32) (.t 36) (.c (.bool false)),some 37,none,[],[]⟩)]
def zi8:List XOp:=[(.op [] ⟨.mv (.t 5),some 38,none,[],[]⟩),(.op [] ⟨.mv (.t 9),some 39,none,[],[]⟩),(.mupd (.t 38) (.t 39) (.c (.bool true)))]
def z7o:List ROp:=[⟨.mv (.t 4),some 40,none,[42],[]⟩,⟨.mv (.t 9),some 41,none,[42],[]⟩,⟨.bsl 1 3 [(.t 41)],some 42,none,[],[]⟩,⟨.append 1 3 8 (.t 40) (.t 42),some 43,none,[],[]⟩,⟨.mv (.t 43),some 4,none,[],[]⟩]
def zi7:Reg:=⟨[],z7o,[42],[],false⟩
def z7n:List ROp:=[⟨.mv (.t 7),some 44,none,[],[]⟩,⟨.faddr 3 (.t 10),some 45,none,[],[]⟩,⟨.load 1 false (.t 45),some 46,none,[],[]⟩,⟨.append 1 3 8 (.t 44) (.t 46),some 47,none,[],[]⟩,⟨.mv (.t 47),some 7,none,[],[]⟩]
def zi6:Reg:=⟨[],z7n,[],[],false⟩
def zi5:Reg:=⟨[],[⟨.bin .add (.t 21) (.c (.int .i64 1)),some 48,none,[],[]⟩,⟨.mv (.t 48),some 21,none,[],[]⟩],[],[],false⟩
def z5t (P:Program):IR:=(.seq (.reg zom)
 (.seq (.cond (.t 22) .skip
 (.exit 2))
 (.seq (.block 3 (.seq (.reg zol)
 (.seq (.regx P zia)
 (.seq (.regx P zi9)
 (.cond (.t 37) (.seq (.regx P zi8)
 (.seq (.reg zi7)
 (.reg zi6)))
 .skip)))))
 (.reg zi5))))
def zi4:Reg:=⟨[],[⟨.mv (.t 7),some 49,none,[],[]⟩,⟨.mv (.t 49),some 6,none,[],[]⟩],[],[],false⟩
def zcq (P:Program):IR:=(.seq (.seq (.reg zop)
 (.cond (.t 18) .skip
 (.exit 0)))
 (.block 1 (.seq (.reg zoo)
 (.seq (.seq (.reg zon)
 (.block 2 (.loop (z5t P))))
 (.reg zi4)))))
def zi3:Reg:=⟨[],[⟨.mv (.t 4),some 50,none,[],[]⟩,⟨.mv (.t 50),some 2,none,[],[]⟩],[],[],false⟩
def zyd (P:Program):IR:=(.seq (.reg zou)
 (.seq (.reg zot)
 (.seq (.reg zos)
 (.seq (.regx P zor)
 (.seq (.seq (.reg zoq)
 (.block 0 (.loop (zcq P))))
 (.seq (.reg zi3)
 .ret))))))
def zlb:List RDesc:=[(.tmp 2)]
theorem e_lOrder_0:EqR zou [⟨.mknil 1 3,some 2,none,[],[]⟩] [2]:=fun _ _ _=>rfl
theorem e_lOrder_1:EqR zot zax [13]:=fun _ _ _=>rfl
theorem e_lOrder_2:EqR zos [⟨.mknil 1 3,some 4,none,[],[]⟩] [4]:=fun _ _ _=>rfl
theorem e_lOrder_4:EqR zoq [⟨.bsl 1 3 [(.c (.int .i64 0))],some 15,none,[],[]⟩,⟨.mv (.t 15),some 6,none,[],[]⟩] [15]:=fun _ _ _=>rfl
theorem e_lOrder_5:EqR zop zaw []:=fun _ _ _=>rfl
theorem e_lOrder_6:EqR zoo [⟨.mknil 1 3,some 7,none,[],[]⟩] [7]:=fun _ _ _=>rfl
theorem e_lOrder_7:EqR zon zav []:=fun _ _ _=>rfl
theorem e_lOrder_8:EqR zom [⟨.bin .lss (.t 21) (.t 20),some 22,none,[],[]⟩] []:=fun _ _ _=>rfl
theorem e_lOrder_9:EqR zol zau []:=fun _ _ _=>rfl
theorem y3c:EqR zi7 z7o [42]:=fun _ _ _=>rfl
theorem y3b:EqR zi6 z7n []:=fun _ _ _=>rfl
theorem y3a:EqR zi5 [⟨.bin .add (.t 21) (.c (.int .i64 1)),some 48,none,[],[]⟩,⟨.mv (.t 48),some 21,none,[],[]⟩] []:=fun _ _ _=>rfl
theorem y39:EqR zi4 [⟨.mv (.t 7),some 49,none,[],[]⟩,⟨.mv (.t 49),some 6,none,[],[]⟩] []:=fun _ _ _=>rfl
theorem y38:EqR zi3 [⟨.mv (.t 4),some 50,none,[],[]⟩,⟨.mv (.t 50),some 2,none,[],[]⟩] []:=fun _ _ _=>rfl
theorem fn_lOrder {args:List AV} {r:AV} (ha:args.length.ble Tryz.f17.ntmps = true) (h:run (AFn Tryz.prog) (zyd Tryz.prog) (endQ zlb r) (z0b args)):AFn Tryz.prog 17 args r :=
 AFn.of_code (pv:=false) (hint:=fun _=>[]) (c:=Tryz.f17.body.getD .skip) (by kernel_rfl) (by kernel_rfl) Tryz.func17 (by kernel_rfl) (by kernel_rfl) (by kernel_rfl) (of_decide_eq_true (by kernel_rfl)) (Nat.le_of_ble_eq_true ha) (Nat.le_of_ble_eq_true (by kernel_rfl)) (z09 h)
attribute [local go_sem ↓] zyd
attribute [local go_sem] zlb e_lOrder_0 e_lOrder_1 zax e_lOrder_2 e_lOrder_4 e_lOrder_5 zaw e_lOrder_6 e_lOrder_7 zav e_lOrder_8 e_lOrder_9 zau y3c z7o y3b z7n y3a y39 y38 zor zia zi9 zi8
theorem flat_le {f:Int->List Int}:∀ (r:List Int),(∀ x,x ∈ r->(f x).length≤2000)->(r.flatMap f).length≤r.length * 2000
 | [],_=>Nat.zero_le _
 | x :: r,h=>by
  have h1:=h x (List.mem_cons_self ..)
  have h2:=flat_le r fun y hy=>h y (List.mem_cons_of_mem _ hy)
  rw [List.flatMap_cons,List.length_append,List.length_cons]
  omega
theorem kidsAt_len {l:List Nd} (h:Lad l) (s:Int):(z0t l s).length≤2000:=by
 unfold z0t
 cases e:ndAt l s with
 | none=>exact Nat.zero_le _
 | some n=>exact h.nk n (z1r h.ord e).2.1
def RowAt (σ:St) (row:List Int):Prop:=σ.T 19 = .sl (row.map (AV.int .i64))∨(σ.T 19 = .rs 15 0 row.length∧σ.H 15 = some ⟨1,3,row.map (AV.int .i64),0⟩)
def oInv (l:List Nd) (out row:List Int) (k:Nat) (σ:St):Prop :=
 ∃ (i:Nat) (o nx:List Int),i≤row.length∧k = row.length - i∧o = out ++ row.take i∧nx = (row.take i).flatMap (z0t l)∧RowAt σ row∧σ.T 20 = .int .i64 row.length∧σ.T 21 = .int .i64 i∧σ.T 3 = .mv (z29 l) ∧
  σ.T 4 = .rs 4 0 o.length∧σ.H 4 = some ⟨1,3,o.map (AV.int .i64),0⟩∧σ.T 5 = .mp 14 (metM o)∧σ.H 14 = some ⟨1,52,[],0⟩∧σ.T 7 = .rs 7 0 nx.length∧σ.H 7 = some ⟨1,3,nx.map (AV.int .i64),0⟩
set_option maxHeartbeats 8000000 in
theorem y49 (l:List Nd) (h:Lad l) (out row:List Int) (hlo:out.length + row.length≤200) (hin:∀ s,s ∈ row->0≤s∧s < l.length) (hfresh:∀ (i:Nat) (s:Int),row[i]? = some s->(out ++ row.take i).contains s = false) (Q:XK->St->Prop)
  (hEnd:∀ σ,σ.T 3 = .mv (z29 l)->σ.T 4 = .rs 4 0 (out ++ row).length->σ.H 4 = some ⟨1,3,(out ++ row).map (AV.int .i64),0⟩->σ.T 5 = .mp 14 (metM (out ++ row))->σ.H 14 = some ⟨1,52,[],0⟩ ->
   σ.T 7 = .rs 7 0 (row.flatMap (z0t l)).length->σ.H 7 = some ⟨1,3,(row.flatMap (z0t l)).map (AV.int .i64),0⟩->Q (.exit 2) σ) (k:Nat) (σ:St) (hI:oInv l out row k σ) :
  run (AFn Tryz.prog) (z5t Tryz.prog) (z2h (fun σ'=>∃ m,m < k∧oInv l out row m σ') Q) σ:=by
 obtain ⟨i,o,nx,hi,rfl,ho,hnx,t19,t20,t21,t3,t4,h4,t5,h14,t7,h7⟩:=hI
 simp only [z5t]
 by_cases hlt:i < row.length
 case neg =>
  have hlt':¬ (i:Int) < (row.length:Int):=by omega
  rw [List.take_of_length_le (by omega)] at ho hnx
  subst ho hnx
  simp (maxSteps:=9^7) only [go_sem,evM,z07.eq_1,z07.eq_2,ents.eq_1,ents.eq_2,kI.eq_1,mpOk.eq_1,mpR.eq_1,lkV.eq_1,lkV.eq_2,t20,t21,hlt']
  refine hEnd _ ?_ ?_ ?_ ?_ ?_ ?_ ?_
  iterate 7 focus ((simp (maxSteps:=9^7) only [go_sem,evM,z07.eq_1,z07.eq_2,ents.eq_1,ents.eq_2,kI.eq_1,mpOk.eq_1,mpR.eq_1,lkV.eq_1,lkV.eq_2,t3,t4,h4,t5,h14,t7,h7]) <;> rfl)
 have hlt':(i:Int) < (row.length:Int):=by omega
 obtain ⟨s,hs⟩:=z0f hlt
 have hgs:=z0k (f:=AV.int .i64) hs
 have hsm:=List.mem_of_getElem? hs
 obtain ⟨n,en⟩:=ziv (hin s hsm).1 (hin s hsm).2
 have hlk:lkp (z29 l) s = some n.a:=by rw [zrx h.ord,en]; rfl
 simp only [Nd.a] at hlk
 have hfr:=hfresh i s hs
 rw [← ho] at hfr
 have hlm:lkp (metM o) s = none:=by rw [zbs,hfr]; rfl
 have hup:=upk_met hfr
 have hw:=z1a (j:=i) (by omega)
 have hol:o.length = out.length + i:=by rw [ho,List.length_append,List.length_take]; omega
 have hnl:nx.length≤400000:=by
  have:=flat_le (f:=z0t l) (row.take i) (fun x _=>kidsAt_len h x)
  rw [← hnx,List.length_take] at this
  have h2:min i row.length * 2000≤200 * 2000:=Nat.mul_le_mul_right _ (by omega)
  omega
 have hnk:=h.nk n (z1r h.ord en).2.1
 have ht1:row.take (i + 1) = row.take i ++ [s]:=by rw [List.take_add_one,hs]; rfl
 have ho':o ++ [s] = out ++ row.take (i + 1):=by rw [ht1,ho,List.append_assoc]
 have hn':nx ++ n.kids = (row.take (i + 1)).flatMap (z0t l):=by
  rw [ht1,List.flatMap_append,← hnx]
  have:z0t l s = n.kids:=by unfold z0t; rw [en]; rfl
  simp [this]
 have tk1:List.take o.length (o.map (AV.int .i64)) = o.map (AV.int .i64):=List.take_of_length_le (by simp)
 have tk2:List.take nx.length (nx.map (AV.int .i64)) = nx.map (AV.int .i64):=List.take_of_length_le (by simp)
 have fin:∀ σ',RowAt σ' row->σ'.T 20 = .int .i64 row.length->σ'.T 21 = .int .i64 ((i + 1:Nat):Int)->σ'.T 3 = .mv (z29 l)->σ'.T 4 = .rs 4 0 (o.length + 1)->σ'.H 4 = some ⟨1,3,o.map (AV.int .i64) ++ [.int .i64 s],0⟩->σ'.T 5 = .mp 14 (metM (o ++ [s]))->σ'.H 14 = some ⟨1,52,[],0⟩ ->
   σ'.T 7 = .rs 7 0 (nx.length + n.kids.length)->σ'.H 7 = some ⟨1,3,nx.map (AV.int .i64) ++ n.kids.map (AV.int .i64),0⟩->∃ m,m < row.length - i∧oInv l out row m σ':=by
  intro σ' a1 a2 a3 a4 a5 a6 a7 a8 a9 a10
  refine ⟨row.length - (i + 1),by omega,i + 1,o ++ [s],nx ++ n.kids,by omega,rfl,ho',hn',a1,a2,a3,a4,?_,?_,a7,a8,?_,?_⟩
  ·rw [a5,List.length_append]; rfl
  ·rw [a6,List.map_append]; rfl
  ·rw [a9,List.length_append]
  ·rw [a10,List.map_append]
 rcases t19 with t19 | ⟨t19,h15⟩
 ·simp (maxSteps:=9^7) only [go_sem,evM,z07.eq_1,z07.eq_2,ents.eq_1,ents.eq_2,kI.eq_1,mpOk.eq_1,mpR.eq_1,lkV.eq_1,lkV.eq_2,t19,t20,t21,t3,t4,h4,t5,h14,t7,h7,hlt',hgs,hlk,hlm,hup,tk1,tk2,Int.toNat_natCast,List.length_map]
  refine ⟨by omega,⟨⟨by omega,by omega⟩,fun d hd=>?_⟩,⟨⟨by omega,by omega⟩,zdm _⟩,fin _ ?_ ?_ ?_ ?_ ?_ ?_ ?_ ?_ ?_ ?_⟩
  ·rcases hd with rfl | hd
   ·exact ⟨rfl,rfl⟩
   ·cases hd
  ·refine .inl ?_
   simp (maxSteps:=9^7) only [go_sem,evM,z07.eq_1,z07.eq_2,ents.eq_1,ents.eq_2,kI.eq_1,mpOk.eq_1,mpR.eq_1,lkV.eq_1,lkV.eq_2,t19]
  iterate 9 focus ((simp (maxSteps:=9^7) only [go_sem,evM,z07.eq_1,z07.eq_2,ents.eq_1,ents.eq_2,kI.eq_1,mpOk.eq_1,mpR.eq_1,lkV.eq_1,lkV.eq_2,t20,hw,t3,h4,tk1,t5,hup,h14,List.length_map,h7,tk2]) <;> rfl)
 ·simp (maxSteps:=9^7) only [go_sem,evM,z07.eq_1,z07.eq_2,ents.eq_1,ents.eq_2,kI.eq_1,mpOk.eq_1,mpR.eq_1,lkV.eq_1,lkV.eq_2,t19,h15,t20,t21,t3,t4,h4,t5,h14,t7,h7,hlt',hgs,hlk,hlm,hup,tk1,tk2,Int.toNat_natCast,List.length_map]
  refine ⟨by omega,hlt,⟨⟨by omega,by omega⟩,fun d hd=>?_⟩,⟨⟨by omega,by omega⟩,zdm _⟩,fin _ ?_ ?_ ?_ ?_ ?_ ?_ ?_ ?_ ?_ ?_⟩
  ·rcases hd with rfl | hd
   ·exact ⟨rfl,rfl⟩
   ·cases hd
  ·refine .inr ⟨?_,?_⟩
   iterate 2 focus ((simp (maxSteps:=9^7) only [go_sem,evM,z07.eq_1,z07.eq_2,ents.eq_1,ents.eq_2,kI.eq_1,mpOk.eq_1,mpR.eq_1,lkV.eq_1,lkV.eq_2,t19,h15]) <;> rfl)
  iterate 9 focus ((simp (maxSteps:=9^7) only [go_sem,evM,z07.eq_1,z07.eq_2,ents.eq_1,ents.eq_2,kI.eq_1,mpOk.eq_1,mpR.eq_1,lkV.eq_1,lkV.eq_2,t20,hw,t3,h4,tk1,t5,hup,h14,List.length_map,h7,tk2]) <;> rfl)
def ooInv (l:List Nd) (q:List Int) (k:Nat) (σ:St):Prop :=
 ∃ (out row t:List Int) (x:Nat),q = out ++ row ++ t∧out ++ row = 0 :: out.flatMap (z0t l)∧k = q.length - out.length∧(x = 15∨x = 7)∧σ.T 3 = .mv (z29 l) ∧
  σ.T 4 = .rs 4 0 out.length∧σ.H 4 = some ⟨1,3,out.map (AV.int .i64),0⟩∧σ.T 5 = .mp 14 (metM out)∧σ.H 14 = some ⟨1,52,[],0⟩∧σ.T 6 = .rs x 0 row.length∧σ.H x = some ⟨1,3,row.map (AV.int .i64),0⟩
set_option maxHeartbeats 8000000 in
theorem order_ok (l:List Nd) (h:Lad l) (q:List Int) (hq:Ords l q) (hql:q.length≤200):AFn Tryz.prog 17 [.sl (l.map Nd.a)] (.own 1 3 (q.map (AV.int .i64))):=by
 refine fn_lOrder rfl ?_
 have c1:=lof_ok l h.ord h.len
 (repeat (first | simp (maxSteps:=9^7) only [go_sem,evM,z07.eq_1,z07.eq_2,ents.eq_1,ents.eq_2,kI.eq_1,mpOk.eq_1,mpR.eq_1,lkV.eq_1,lkV.eq_2] | refine z01 (c1) ?_ | refine z00 (c1) ?_ | refine And.intro (by omega) ?_ | refine And.intro (fun d hd=>by (repeat (rcases hd with rfl | hd; · exact ⟨rfl,rfl⟩)); cases hd) ?_))
 refine z06 (ooInv l q) (k:=q.length) ⟨[],[0],q.flatMap (z0t l),15,hq.eq,rfl,rfl,.inl rfl,?_,?_,?_,?_,?_,?_,?_⟩ ?_
 iterate 7 focus ((simp (maxSteps:=9^7) only [go_sem,evM,z07.eq_1,z07.eq_2,ents.eq_1,ents.eq_2,kI.eq_1,mpOk.eq_1,mpR.eq_1,lkV.eq_1,lkV.eq_2]) <;> rfl)
 clear c1
 rintro k σ ⟨out,row,t,x,hqe,hro,rfl,hx,t3,t4,h4,t5,h14,t6,hX⟩
 simp only [zcq]
 by_cases h0:row = []
 ·subst h0
  have hdone:out = q:=by
   have hpre:q.take out.length = out:=by rw [hqe,List.append_nil,List.take_left]
   have hlo:out.length = 1 + (out.flatMap (z0t l)).length:=by
    have:=congrArg List.length hro
    rw [List.append_nil,List.length_cons] at this
    omega
   rcases Nat.lt_or_ge out.length q.length with hlt | hge
   ·have:=hq.live _ hlt
    rw [hpre] at this
    omega
   ·rw [← hpre,List.take_of_length_le hge]
  subst hdone
  have z:¬ (0:Int) < ((0:Nat):Int):=by decide
  rcases hx with rfl | rfl
  ·simp (maxSteps:=9^7) only [go_sem,evM,z07.eq_1,z07.eq_2,ents.eq_1,ents.eq_2,kI.eq_1,mpOk.eq_1,mpR.eq_1,lkV.eq_1,lkV.eq_2,t3,t4,h4,t5,h14,t6,hX,z,List.length_map]
  ·simp (maxSteps:=9^7) only [go_sem,evM,z07.eq_1,z07.eq_2,ents.eq_1,ents.eq_2,kI.eq_1,mpOk.eq_1,mpR.eq_1,lkV.eq_1,lkV.eq_2,t3,t4,h4,t5,h14,t6,hX,z,List.length_map]
 have hpos:0 < row.length:=List.length_pos_iff.2 h0
 have hpos':(0:Int) < (row.length:Int):=by omega
 have hlenq:out.length + row.length≤q.length:=by rw [hqe,List.length_append,List.length_append]; omega
 have hTr:List.take row.length (row.map (AV.int .i64)) = row.map (AV.int .i64):=List.take_of_length_le (by simp)
 have hsub:∀ s,s ∈ row->s ∈ q:=fun s hs=>by rw [hqe]; exact List.mem_append.2 (.inl (List.mem_append.2 (.inr hs)))
 have hfresh:∀ (i:Nat) (s:Int),row[i]? = some s->(out ++ row.take i).contains s = false:=fun i s hi=>by
  have hil:=(List.getElem?_eq_some_iff.1 hi).1
  have hd:=hq.dup
  rw [hqe,List.append_assoc] at hd
  have hsp:row = row.take i ++ s :: row.drop (i + 1):=by
   have:row[i] = s:=by
    have:=List.getElem?_eq_getElem hil
    rw [hi] at this; cases this; rfl
   rw [← this,List.getElem_cons_drop,List.take_append_drop]
  rw [hsp,List.append_assoc,← List.append_assoc,List.cons_append] at hd
  rw [List.contains_eq_mem,decide_eq_false_iff_not]
  intro hm
  have:=(List.nodup_append.1 hd).2.2 s hm s (List.mem_cons_self ..)
  exact this rfl
 have enter:∀ σ',RowAt σ' row->σ'.T 20 = .int .i64 row.length->σ'.T 21 = .int .i64 0->σ'.T 3 = .mv (z29 l)->σ'.T 4 = .rs 4 0 out.length->σ'.H 4 = some ⟨1,3,out.map (AV.int .i64),0⟩->σ'.T 5 = .mp 14 (metM out)->σ'.H 14 = some ⟨1,52,[],0⟩->σ'.T 7 = .rs 7 0 0->σ'.H 7 = some ⟨1,3,[],0⟩ ->
   oInv l out row row.length σ':=fun σ' a1 a2 a3 a4 a5 a6 a7 a8 a9 a10 =>
  ⟨0,out,[],Nat.zero_le _,rfl,by simp,rfl,a1,a2,a3,a4,a5,a6,a7,a8,a9,a10⟩
 have next:∀ σ',σ'.T 3 = .mv (z29 l)->σ'.T 4 = .rs 4 0 (out ++ row).length->σ'.H 4 = some ⟨1,3,(out ++ row).map (AV.int .i64),0⟩->σ'.T 5 = .mp 14 (metM (out ++ row))->σ'.H 14 = some ⟨1,52,[],0⟩ ->
   σ'.T 6 = .rs 7 0 (row.flatMap (z0t l)).length->σ'.H 7 = some ⟨1,3,(row.flatMap (z0t l)).map (AV.int .i64),0⟩->∃ m,m < q.length - out.length∧ooInv l q m σ':=by
  intro σ' a3 a4 a5 a6 a7 a8 a9
  refine ⟨q.length - (out ++ row).length,by rw [List.length_append]; omega,out ++ row,row.flatMap (z0t l),t.flatMap (z0t l),7,?_,?_,rfl,.inr rfl,a3,a4,a5,a6,a7,a8,a9⟩
  ·have e:=hq.eq
   have e2:q.flatMap (z0t l) = out.flatMap (z0t l) ++ row.flatMap (z0t l) ++ t.flatMap (z0t l):=by
    conv=>lhs; rw [hqe]
    rw [List.flatMap_append,List.flatMap_append]
   rw [e2] at e
   rw [hro]
   exact e
  ·rw [List.flatMap_append,hro]; rfl
 rcases hx with rfl | rfl
 ·simp (maxSteps:=9^7) only [go_sem,evM,z07.eq_1,z07.eq_2,ents.eq_1,ents.eq_2,kI.eq_1,mpOk.eq_1,mpR.eq_1,lkV.eq_1,lkV.eq_2,t3,t4,h4,t5,h14,t6,hX,hpos',hTr,List.length_map]
  refine z06 (oInv l out row) (k:=row.length) (enter _ ?_ ?_ ?_ ?_ ?_ ?_ ?_ ?_ ?_ ?_) (y49 l h out row (by omega) (fun s hs=>hq.mem s (hsub s hs)) hfresh _ ?_)
  ·refine .inr ⟨?_,?_⟩
   iterate 2 focus ((simp (maxSteps:=9^7) only [go_sem,evM,z07.eq_1,z07.eq_2,ents.eq_1,ents.eq_2,kI.eq_1,mpOk.eq_1,mpR.eq_1,lkV.eq_1,lkV.eq_2,t6,hX]) <;> rfl)
  iterate 9 focus ((simp (maxSteps:=9^7) only [go_sem,evM,z07.eq_1,z07.eq_2,ents.eq_1,ents.eq_2,kI.eq_1,mpOk.eq_1,mpR.eq_1,lkV.eq_1,lkV.eq_2,List.length_map,t3,t4,h4,t5,h14]) <;> rfl)
  ·intro σ2 a3 a4 a5 a6 a7 a8 a9
   simp (maxSteps:=9^7) only [go_sem,evM,z07.eq_1,z07.eq_2,ents.eq_1,ents.eq_2,kI.eq_1,mpOk.eq_1,mpR.eq_1,lkV.eq_1,lkV.eq_2,a3,a4,a5,a6,a7,a8,a9]
   refine next _ ?_ ?_ ?_ ?_ ?_ ?_ ?_
   iterate 7 focus ((simp (maxSteps:=9^7) only [go_sem,evM,z07.eq_1,z07.eq_2,ents.eq_1,ents.eq_2,kI.eq_1,mpOk.eq_1,mpR.eq_1,lkV.eq_1,lkV.eq_2,a3,a4,a5,a6,a7,a8,a9]) <;> rfl)
 ·simp (maxSteps:=9^7) only [go_sem,evM,z07.eq_1,z07.eq_2,ents.eq_1,ents.eq_2,kI.eq_1,mpOk.eq_1,mpR.eq_1,lkV.eq_1,lkV.eq_2,t3,t4,h4,t5,h14,t6,hX,hpos',hTr,List.length_map]
  refine z06 (oInv l out row) (k:=row.length) (enter _ ?_ ?_ ?_ ?_ ?_ ?_ ?_ ?_ ?_ ?_) (y49 l h out row (by omega) (fun s hs=>hq.mem s (hsub s hs)) hfresh _ ?_)
  ·refine .inl ?_
   simp (maxSteps:=9^7) only [go_sem,evM,z07.eq_1,z07.eq_2,ents.eq_1,ents.eq_2,kI.eq_1,mpOk.eq_1,mpR.eq_1,lkV.eq_1,lkV.eq_2,t6,hX,hTr]
  iterate 9 focus ((simp (maxSteps:=9^7) only [go_sem,evM,z07.eq_1,z07.eq_2,ents.eq_1,ents.eq_2,kI.eq_1,mpOk.eq_1,mpR.eq_1,lkV.eq_1,lkV.eq_2,List.length_map,t3,t4,h4,t5,h14]) <;> rfl)
  ·intro σ2 a3 a4 a5 a6 a7 a8 a9
   simp (maxSteps:=9^7) only [go_sem,evM,z07.eq_1,z07.eq_2,ents.eq_1,ents.eq_2,kI.eq_1,mpOk.eq_1,mpR.eq_1,lkV.eq_1,lkV.eq_2,a3,a4,a5,a6,a7,a8,a9]
   refine next _ ?_ ?_ ?_ ?_ ?_ ?_ ?_
   iterate 7 focus ((simp (maxSteps:=9^7) only [go_sem,evM,z07.eq_1,z07.eq_2,ents.eq_1,ents.eq_2,kI.eq_1,mpOk.eq_1,mpR.eq_1,lkV.eq_1,lkV.eq_2,a3,a4,a5,a6,a7,a8,a9]) <;> rfl)
end
section
open Go.RowKit
attribute [local go_sem ↓] z18 z0h
def zup:Reg:=⟨[],[⟨.mv (.c (.bool false)),some 4,none,[],[]⟩],[],[],false⟩
def zeg:List ROp:=[⟨.mv (.t 0),some 6,none,[],[]⟩,⟨.len false (.t 6),some 7,none,[],[]⟩,⟨.mv (.t 1),some 8,none,[],[]⟩,⟨.len false (.t 8),some 9,none,[],[]⟩,⟨.bin .neq (.t 7) (.t 9),some 10,none,[],[]⟩]
def zuo:Reg:=⟨[],zeg,[],[],false⟩
def zun:Reg:=⟨[],[⟨.mv (.c (.bool false)),some 4,none,[],[]⟩],[],[],false⟩
def zum:Reg:=⟨[],[⟨.mv (.c (.int .i64 0)),some 5,none,[],[]⟩],[],[],false⟩
def zef:List ROp:=[⟨.mv (.t 5),some 11,none,[],[]⟩,⟨.mv (.t 0),some 12,none,[],[]⟩,⟨.len false (.t 12),some 13,none,[],[]⟩,⟨.bin .lss (.t 11) (.t 13),some 14,none,[],[]⟩]
def zul:Reg:=⟨[],zef,[],[],false⟩
def zji:List ROp:=[⟨.mv (.t 0),some 17,none,[],[]⟩,⟨.mv (.t 5),some 18,none,[],[]⟩,⟨.iaddr 1 (.t 17) (.t 18),some 19,none,[],[]⟩,⟨.load 1 false (.t 19),some 20,none,[],[]⟩,⟨.mv (.t 1),some 21,none,[],[]⟩,⟨.mv (.t 5),some 22,none,[],[]⟩,⟨.iaddr 1 (.t 21) (.t 22),some 23,none,[],[]⟩,⟨.load 1 false (.t 23),some 24,none,[],[]⟩]
def zuk:Reg:=⟨zji,[⟨.bin .neq (.t 20) (.t 24),some 25,none,[],[]⟩],[],[],true⟩
def zuj:Reg:=⟨[],[⟨.mv (.c (.bool false)),some 4,none,[],[]⟩],[],[],false⟩
def zee:List ROp:=[⟨.mv (.t 5),some 15,none,[],[]⟩,⟨.bin .add (.t 15) (.c (.int .i64 1)),some 16,none,[],[]⟩,⟨.mv (.t 16),some 5,none,[],[]⟩]
def zui:Reg:=⟨[],zee,[],[],false⟩
def zme:IR:=(.seq (.seq (.reg zul)
 (.cond (.t 14) .skip
 (.exit 0)))
 (.seq (.block 1 (.seq (.reg zuk)
 (.cond (.t 25) (.seq (.reg zuj)
 .ret)
 .skip)))
 (.reg zui)))
def zuh:Reg:=⟨[],[⟨.mv (.c (.bool true)),some 4,none,[],[]⟩],[],[],false⟩
def y73:IR:=(.seq (.reg zup)
 (.seq (.seq (.reg zuo)
 (.cond (.t 10) (.seq (.reg zun)
 .ret)
 .skip))
 (.seq (.seq (.reg zum)
 (.block 0 (.loop zme)))
 (.seq (.reg zuh)
 .ret))))
def ztg:List RDesc:=[(.tmp 4)]
theorem e_rints_0:EqR zup [⟨.mv (.c (.bool false)),some 4,none,[],[]⟩] []:=fun _ _ _=>rfl
theorem e_rints_1:EqR zuo zeg []:=fun _ _ _=>rfl
theorem e_rints_2:EqR zun [⟨.mv (.c (.bool false)),some 4,none,[],[]⟩] []:=fun _ _ _=>rfl
theorem e_rints_3:EqR zum [⟨.mv (.c (.int .i64 0)),some 5,none,[],[]⟩] []:=fun _ _ _=>rfl
theorem e_rints_4:EqR zul zef []:=fun _ _ _=>rfl
theorem e_rints_5 (C:FuncId->List AV->AV->Prop) (σ:St) (K:St->Prop):z0l C zuk σ K = z08 C [] [⟨.bin .neq (.t 20) (.t 24),some 25,none,[],[]⟩] zji (σ.kills []) K:=rfl
theorem e_rints_6:EqR zuj [⟨.mv (.c (.bool false)),some 4,none,[],[]⟩] []:=fun _ _ _=>rfl
theorem e_rints_7:EqR zui zee []:=fun _ _ _=>rfl
theorem e_rints_9:EqR zuh [⟨.mv (.c (.bool true)),some 4,none,[],[]⟩] []:=fun _ _ _=>rfl
theorem fn_rints {args:List AV} {r:AV} (ha:args.length.ble Tryz.f16.ntmps = true) (h:run (AFn Tryz.prog) y73 (endQ ztg r) (z0b args)):AFn Tryz.prog 16 args r :=
 AFn.of_code (pv:=false) (hint:=fun _=>[]) (c:=Tryz.f16.body.getD .skip) (by kernel_rfl) (by kernel_rfl) Tryz.func16 (by kernel_rfl) (by kernel_rfl) (by kernel_rfl) (of_decide_eq_true (by kernel_rfl)) (Nat.le_of_ble_eq_true ha) (Nat.le_of_ble_eq_true (by kernel_rfl)) (z09 h)
def y6l:Reg:=⟨[],[⟨.mv (.c (.bool false)),some 0,none,[],[]⟩],[],[],false⟩
def zrf:List ROp:=[⟨.bsl 1 9 [(.c (.str ⟨#[109]⟩))],some 2,none,[3,7],[]⟩,⟨.bsl 1 3 [(.c (.int .i64 1)),(.c (.int .i64 2))],some 3,none,[7],[]⟩,⟨.bld [(.int .i64 0),(.int .i64 0),(.sl []),(.sl []),(.str ⟨#[]⟩),(.bool false),(.int .i64 0),(.int .i64 0),(.sl []),(.sl [])] [⟨1,1,(.c (.int .i64 1))⟩,⟨5,1,(.c (.bool true))⟩,⟨6,1,(.c (.int .i64 (-1)))⟩,⟨2,1,(.t 2)⟩,⟨3,1,(.t 3)⟩],some 4,none,[7],[]⟩,⟨.bld [(.int .i64 0),(.int .i64 0),(.sl []),(.sl []),(.str ⟨#[]⟩),(.bool false),(.int .i64 0),(.int .i64 0),(.sl []),(.sl [])] [⟨0,1,(.c (.int .i64 1))⟩,⟨4,1,(.c (.str ⟨#[109]⟩))⟩,⟨6,1,(.c (.int .i64 2))⟩],some 5,none,[7],[]⟩,⟨.bld [(.int .i64 0),(.int .i64 0),(.sl []),(.sl []),(.str ⟨#[]⟩),(.bool false),(.int .i64 0),(.int .i64 0),(.sl []),(.sl [])] [⟨0,1,(.c (.int .i64 2))⟩,⟨5,1,(.c (.bool true))⟩,⟨6,1,(.c (.int .i64 (-1)))⟩],some 6,none,[7],[]⟩,⟨.bsl 10 45 [(.t 4),(.t 5),(.t 6)],some 7,none,[],[]⟩,⟨.mv (.t 7),some 1,none,[],[]⟩]
def y6k:Reg:=⟨[],zrf,[2,3,7],[],false⟩
def zre:List ROp:=[⟨.mv (.t 1),some 8,none,[9,12,16,20,25,26,27],[]⟩,⟨.callv (.c (.clo 15 [] [])) [(.t 8),(.c (.int .i64 0)),(.c (.int .i64 1))],some 9,none,[12,16,20,25,26,27],[]⟩,⟨.mv (.t 9),some 10,none,[12,16,20,25,26,27],[]⟩,⟨.mv (.t 1),some 11,(some (10,true)),[12,16,20,25,26,27],[]⟩,⟨.callv (.c (.clo 15 [] [])) [(.t 11),(.c (.int .i64 0)),(.c (.int .i64 2))],some 12,(some (10,true)),[16,20,25,26,27],[]⟩,⟨.pick (.t 10) (.t 12) (.c (.bool false)),some 13,none,[16,20,25,26,27],[]⟩,⟨.mv (.t 13),some 14,none,[16,20,25,26,27],[]⟩,⟨.mv (.t 1),some 15,(some (14,true)),[16,20,25,26,27],[]⟩,⟨.callv (.c (.clo 15 [] [])) [(.t 15),(.c (.int .i64 1)),(.c (.int .i64 2))],some 16,(some (14,true)),[20,25,26,27],[]⟩,⟨.pick (.t 14) (.t 16) (.c (.bool false)),some 17,none,[20,25,26,27],[]⟩,⟨.mv (.t 17),some 18,none,[20,25,26,27],[]⟩,⟨.mv (.t 1),some 19,(some (18,true)),[20,25,26,27],[]⟩,⟨.callv (.c (.clo 15 [] [])) [(.t 19),(.c (.int .i64 2)),(.c (.int .i64 1))],some 20,(some (18,true)),[25,26,27],[]⟩,⟨.un .not (.t 20),some 21,(some (18,true)),[25,26,27],[]⟩,⟨.pick (.t 18) (.t 21) (.c (.bool false)),some 22,none,[25,26,27],[]⟩,⟨.mv (.t 22),some 23,none,[25,26,27],[]⟩,⟨.mv (.t 1),some 24,(some (23,true)),[25,26,27],[]⟩,⟨.callv (.c (.clo 17 [] [])) [(.t 24)],some 25,(some (23,true)),[26,27],[]⟩,⟨.bsl 1 3 [(.c (.int .i64 0)),(.c (.int .i64 1)),(.c (.int .i64 2))],some 26,(some (23,true)),[27],[]⟩,⟨.callv (.c (.clo 16 [] [])) [(.t 25),(.t 26)],some 27,(some (23,true)),[],[]⟩,⟨.pick (.t 23) (.t 27) (.c (.bool false)),some 28,none,[],[]⟩,⟨.mv (.t 28),some 0,none,[],[]⟩]
def y6j:Reg:=⟨[],zre,[9,12,16,20,25,26,27],[],false⟩
def ir_aw55:IR:=(.seq (.reg y6l)
 (.seq (.reg y6k)
 (.seq (.reg y6j)
 .ret)))
def y4h:List RDesc:=[(.tmp 0)]
theorem e_aw55_0:EqR y6l [⟨.mv (.c (.bool false)),some 0,none,[],[]⟩] []:=fun _ _ _=>rfl
theorem e_aw55_1:EqR y6k zrf [2,3,7]:=fun _ _ _=>rfl
theorem e_aw55_2:EqR y6j zre [9,12,16,20,25,26,27]:=fun _ _ _=>rfl
theorem fn_aw55 {args:List AV} {r:AV} (ha:args.length.ble Tryz.f5.ntmps = true) (h:run (AFn Tryz.prog) ir_aw55 (endQ y4h r) (z0b args)):AFn Tryz.prog 5 args r :=
 AFn.of_code (pv:=false) (hint:=fun _=>[]) (c:=Tryz.f5.body.getD .skip) (by kernel_rfl) (by kernel_rfl) Tryz.func5 (by kernel_rfl) (by kernel_rfl) (by kernel_rfl) (of_decide_eq_true (by kernel_rfl)) (Nat.le_of_ble_eq_true ha) (Nat.le_of_ble_eq_true (by kernel_rfl)) (z09 h)
attribute [local go_sem ↓] y73
attribute [local go_sem] ztg e_rints_0 e_rints_1 zeg e_rints_2 e_rints_3 e_rints_4 zef e_rints_5 zji e_rints_6 e_rints_7 zee e_rints_9
attribute [local go_sem ↓] ir_aw55
attribute [local go_sem] y4h e_aw55_0 e_aw55_1 zrf e_aw55_2 zre
def eqI:List Int->List Int->Bool
 | [],[]=>true
 | x :: a,y :: b=>(x == y) && eqI a b
 | _,_=>false
theorem y7w:∀ l:List Int,eqI l l = true
 | []=>rfl
 | x :: l=>by rw [eqI,y7w l,beq_self_eq_true]; rfl
theorem eqI_len:∀ (a b:List Int),a.length ≠ b.length->eqI a b = false
 | [],[],h=>absurd rfl h
 | [],y :: b,_=>rfl
 | x :: a,[],_=>rfl
 | x :: a,y :: b,h=>by
  rw [eqI,eqI_len a b (fun e=>h (by rw [List.length_cons,List.length_cons,e])),Bool.and_false]
def rintsInv (a b:List Int) (R:Bool) (k:Nat) (σ:St):Prop :=
 ∃ j:Nat,j≤a.length∧k = a.length - j∧σ.T 0 = .sl (a.map (AV.int .i64))∧σ.T 1 = .sl (b.map (AV.int .i64))∧σ.T 5 = .int .i64 j∧eqI (a.drop j) (b.drop j) = R
set_option maxHeartbeats 1000000 in
theorem rints_ok (a b:List Int) (ha:a.length≤1000000) (hb:b.length≤1000000):AFn Tryz.prog 16 [.sl (a.map (AV.int .i64)),.sl (b.map (AV.int .i64))] (.bool (eqI a b)):=by
 refine fn_rints rfl ?_
 by_cases hl:a.length = b.length
 case neg =>
  have hl':(((a.length:Nat):Int) != ((b.length:Nat):Int)) = true:=by simp; omega
  rw [eqI_len a b hl]
  simp (maxSteps:=9^7) only [go_sem,Msg.a,Par.a,hl',List.length_map]
 have hl':(((a.length:Nat):Int) != ((b.length:Nat):Int)) = false:=by simp; omega
 obtain ⟨R,hR⟩:∃ R,eqI a b = R:=⟨_,rfl⟩
 rw [hR]
 simp (maxSteps:=9^7) only [go_sem,Msg.a,Par.a,hl',List.length_map]
 refine z06 (rintsInv a b R) (k:=a.length) ⟨0,by omega,rfl,?_,?_,?_,hR⟩ ?_
 iterate 3 focus ((simp (maxSteps:=9^7) only [go_sem,Msg.a,Par.a]) <;> rfl)
 clear hR
 rintro k σ ⟨j,hj,rfl,t0,t1,t5,hr⟩
 simp only [zme]
 by_cases hlt:j < a.length
 case neg =>
  have hlt':¬ (j:Int) < (a.length:Int):=by omega
  rw [List.drop_eq_nil_of_le (by omega),List.drop_eq_nil_of_le (by omega),eqI] at hr
  subst hr
  simp (maxSteps:=9^7) only [go_sem,Msg.a,Par.a,t0,t1,t5,hlt',List.length_map]
 have hlt':(j:Int) < (a.length:Int):=by omega
 have hlt2:j < b.length:=by omega
 obtain ⟨x,hx⟩:=z0f hlt
 obtain ⟨y,hy⟩:=z0f hlt2
 have hgx:=z0k (f:=AV.int .i64) hx
 have hgy:=z0k (f:=AV.int .i64) hy
 have hw:=z1a (j:=j) (by omega)
 rw [z0d hx,z0d hy,eqI] at hr
 by_cases hs:x = y
 ·have hs':(x != y) = false:=by simp [hs]
  rw [show (x == y) = true by simp [hs],Bool.true_and] at hr
  simp (maxSteps:=9^7) only [go_sem,Msg.a,Par.a,t0,t1,t5,hlt',hgx,hgy,hs',hw,hlt,hlt2,List.length_map,Int.toNat_natCast]
  (repeat refine And.intro (by omega) ?_)
  refine ⟨a.length - (j + 1),by omega,j + 1,by omega,rfl,?_,?_,?_,hr⟩
  iterate 3 focus ((simp (maxSteps:=9^7) only [go_sem,Msg.a,Par.a,t0,t1,hw]) <;> rfl)
 ·have hs':(x != y) = true:=by simp [hs]
  rw [show (x == y) = false by simp [hs],Bool.false_and] at hr
  subst hr
  simp (maxSteps:=9^7) only [go_sem,Msg.a,Par.a,t0,t1,t5,hlt',hgx,hgy,hs',hlt,hlt2,List.length_map,Int.toNat_natCast]
  all_goals omega
def lE:List Nd:=[⟨0,1,[⟨#[109]⟩],[1,2],⟨#[]⟩,true,-1,0,[],[]⟩,⟨1,0,[],[],⟨#[109]⟩,false,2,0,[],[]⟩,⟨2,0,[],[],⟨#[]⟩,true,-1,0,[],[]⟩]
theorem zdl {p:Nd->Prop} (h0:p (lE[0]'(by decide))) (h1:p (lE[1]'(by decide))) (h2:p (lE[2]'(by decide))):∀ n,n ∈ lE->p n:=by
 intro n hn
 rcases List.mem_cons.1 hn with e | hn
 ·rw [e]; exact h0
 rcases List.mem_cons.1 hn with e | hn
 ·rw [e]; exact h1
 rw [List.mem_singleton.1 hn]; exact h2
theorem zy1:Lad lE:=by
 refine ⟨fun j n e=>?_,by decide,zdl (by decide) (by decide) (by decide),zdl (by decide) (by decide) (by decide),zdl (by decide) (by decide) (by decide),zdl (by decide) (by decide) (by decide)⟩
 match j,e with
 | 0,e=>cases e; rfl
 | 1,e=>cases e; rfl
 | 2,e=>cases e; rfl
 | j + 3,e=>simp [lE] at e
theorem lE_ords:Ords lE [0,1,2]:=by
 refine ⟨by decide +kernel,by decide,fun s hs=>?_,fun j hj=>?_⟩
 ·simp only [List.mem_cons,List.not_mem_nil,or_false] at hs
  rcases hs with rfl | rfl | rfl <;> decide
 ·match j,hj with
  | 0,_=>decide +kernel
  | 1,_=>decide +kernel
  | 2,_=>decide +kernel
  | j + 3,hj=>exact absurd hj (by simp)
set_option maxHeartbeats 2000000 in
theorem zq6:AFn Tryz.prog 5 [] (.bool true):=by
 refine fn_aw55 rfl ?_
 have c1:=zdw lE zy1 0 1
 have c2:=zdw lE zy1 0 2
 have c3:=zdw lE zy1 1 2
 have c4:=zdw lE zy1 2 1
 have c5:=order_ok lE zy1 [0,1,2] lE_ords (by decide)
 have c6:=rints_ok [0,1,2] [0,1,2] (by decide) (by decide)
 rw [show (belowL lE 0).contains 1 = true by decide +kernel] at c1
 rw [show (belowL lE 0).contains 2 = true by decide +kernel] at c2
 rw [show (belowL lE 1).contains 2 = true by decide +kernel] at c3
 rw [show (belowL lE 2).contains 1 = false by decide +kernel] at c4
 rw [y7w] at c6
 simp only [lE,Nd.a,List.map_cons,List.map_nil] at c1 c2 c3 c4 c5 c6
 (repeat (first | simp (maxSteps:=9^7) only [go_sem,Msg.a,Par.a] | refine z01 (c1) ?_ | refine z00 (c1) ?_ | refine z01 (c2) ?_ | refine z00 (c2) ?_ | refine z01 (c3) ?_ | refine z00 (c3) ?_ | refine z01 (c4) ?_ | refine z00 (c4) ?_ | refine z01 (c5) ?_ | refine z00 (c5) ?_ | refine z01 (c6) ?_ | refine z00 (c6) ?_ | refine And.intro (by omega) ?_ | refine And.intro (fun d hd=>by (repeat (rcases hd with rfl | hd; · exact ⟨rfl,rfl⟩)); cases hd) ?_))
end
section
open Go.RowKit
attribute [local go_sem ↓] z18 z0h
def r_lfi_0:Reg:=⟨[],[⟨.mv (.c (.bool false)),some 6,none,[],[]⟩],[],[],false⟩
def zzx:List ROp:=[⟨.mv (.t 0),some 7,none,[10],[]⟩,⟨.mv (.t 1),some 8,none,[10],[]⟩,⟨.mv (.t 2),some 9,none,[10],[]⟩,⟨.callv (.c (.clo 6 [] [])) [(.t 7),(.t 8),(.t 9)],some 10,none,[],[]⟩,⟨.len false (.t 10),some 11,none,[],[]⟩,⟨.bin .eql (.t 11) (.c (.int .i64 0)),some 12,none,[],[]⟩,⟨.mv (.t 12),some 6,none,[],[]⟩]
def r_lfi_1:Reg:=⟨[],zzx,[10],[],false⟩
def ir_lfi:IR:=(.seq (.reg r_lfi_0)
 (.seq (.reg r_lfi_1)
 .ret))
def res_lfi:List RDesc:=[(.tmp 6)]
theorem e_lfi_0:EqR r_lfi_0 [⟨.mv (.c (.bool false)),some 6,none,[],[]⟩] []:=fun _ _ _=>rfl
theorem e_lfi_1:EqR r_lfi_1 zzx [10]:=fun _ _ _=>rfl
theorem fn_lfi {args:List AV} {r:AV} (ha:args.length.ble Tryz.f9.ntmps = true) (h:run (AFn Tryz.prog) ir_lfi (endQ res_lfi r) (z0b args)):AFn Tryz.prog 9 args r :=
 AFn.of_code (pv:=false) (hint:=fun _=>[]) (c:=Tryz.f9.body.getD .skip) (by kernel_rfl) (by kernel_rfl) Tryz.func9 (by kernel_rfl) (by kernel_rfl) (by kernel_rfl) (of_decide_eq_true (by kernel_rfl)) (Nat.le_of_ble_eq_true ha) (Nat.le_of_ble_eq_true (by kernel_rfl)) (z09 h)
def r_lal_0:Reg:=⟨[],[⟨.box 5 23 (.t 0),some 4,none,[],[]⟩,⟨.mv (.c (.bool false)),some 8,none,[],[]⟩],[4],[],false⟩
def y02:List ROp:=[⟨.load 5 true (.t 4),some 13,none,[15],[]⟩,⟨.mv (.t 1),some 14,none,[15],[]⟩,⟨.callv (.c (.clo 4 [] [])) [(.t 13),(.t 14),(.c (.int .i64 30))],some 15,none,[],[]⟩,⟨.un .not (.t 15),some 16,none,[],[]⟩,⟨.mv (.t 16),some 17,none,[],[]⟩,⟨.mv (.t 2),some 18,(some (17,false)),[],[]⟩,⟨.len false (.t 18),some 19,(some (17,false)),[],[]⟩,⟨.bin .gtr (.t 19) (.c (.int .i64 20)),some 20,(some (17,false)),[],[]⟩,⟨.pick (.t 17) (.c (.bool true)) (.t 20),some 21,none,[],[]⟩,⟨.mv (.t 21),some 22,none,[],[]⟩,⟨.mv (.t 3),some 23,(some (22,false)),[],[]⟩,⟨.len false (.t 23),some 24,(some (22,false)),[],[]⟩,⟨.bin .gtr (.t 24) (.c (.int .i64 20)),some 25,(some (22,false)),[],[]⟩,⟨.pick (.t 22) (.c (.bool true)) (.t 25),some 26,none,[],[]⟩]
def r_lal_1:Reg:=⟨[],y02,[15],[],false⟩
def r_lal_2:Reg:=⟨[],[⟨.callv (.c (.clo 5 [] [])) [],some 27,none,[],[]⟩,⟨.mv (.t 27),some 8,none,[],[]⟩],[27],[],false⟩
def y01:List ROp:=[⟨.mv (.t 1),some 28,none,[31],[]⟩,⟨.mv (.t 2),some 29,none,[31],[]⟩,⟨.mv (.t 3),some 30,none,[31],[]⟩,⟨.callv (.c (.clo 6 [] [])) [(.t 28),(.t 29),(.t 30)],some 31,none,[],[]⟩,⟨.mv (.t 31),some 9,none,[],[]⟩]
def r_lal_3:Reg:=⟨[],y01,[31],[],false⟩
def y00:List ROp:=[⟨.mv (.t 9),some 32,none,[],[]⟩,⟨.len false (.t 32),some 33,none,[],[]⟩,⟨.mv (.c (.int .i64 0)),some 34,none,[],[]⟩]
def r_lal_4:Reg:=⟨[],y00,[],[],false⟩
def r_lal_5:Reg:=⟨[],[⟨.bin .lss (.t 34) (.t 33),some 35,none,[],[]⟩],[],[],false⟩
def r_lal_6:Reg:=⟨[],[⟨.mv (.t 34),some 36,none,[],[]⟩,⟨.mv (.t 36),some 10,none,[],[]⟩],[],[],false⟩
def zzz:List ROp:=[⟨.callv (.c (.clo 7 [] [])) [(.t 52),(.t 53),(.t 54),(.t 58)],some 59,(some (51,false)),[],[]⟩,⟨.un .not (.t 59),some 60,(some (51,false)),[],[]⟩,⟨.pick (.t 51) (.c (.bool true)) (.t 60),some 61,none,[],[]⟩]
def y1r:List ROp:=[⟨.mv (.t 10),some 37,none,[59],[]⟩,⟨.bin .gtr (.t 37) (.c (.int .i64 0)),some 38,none,[59],[]⟩,⟨.mv (.t 38),some 39,none,[59],[]⟩,⟨.mv (.t 9),some 40,(some (39,true)),[59],[]⟩,⟨.mv (.t 10),some 41,(some (39,true)),[59],[]⟩,⟨.bin .sub (.t 41) (.c (.int .i64 1)),some 42,(some (39,true)),[59],[]⟩,⟨.iaddr 1 (.t 40) (.t 42),some 43,(some (39,true)),[59],[]⟩,⟨.load 1 false (.t 43),some 44,(some (39,true)),[59],[]⟩,⟨.mv (.t 9),some 45,(some (39,true)),[59],[]⟩,⟨.mv (.t 10),some 46,(some (39,true)),[59],[]⟩,⟨.iaddr 1 (.t 45) (.t 46),some 47,(some (39,true)),[59],[]⟩,⟨.load 1 false (.t 47),some 48,(some (39,true)),[59],[]⟩,⟨.bin .geq (.t 44) (.t 48),some 49,(some (39,true)),[59],[]⟩,⟨.pick (.t 39) (.t 49) (.c (.bool false)),some 50,none,[59],[]⟩,⟨.mv (.t 50),some 51,none,[59],[]⟩,⟨.mv (.t 1),some 52,(some (51,false)),[59],[]⟩,⟨.mv (.t 2),some 53,(some (51,false)),[59],[]⟩,⟨.mv (.t 3),some 54,(some (51,false)),[59],[]⟩,⟨.mv (.t 9),some 55,(some (51,false)),[59],[]⟩,⟨.mv (.t 10),some 56,(some (51,false)),[59],[]⟩,⟨.iaddr 1 (.t 55) (.t 56),some 57,(some (51,false)),[59],[]⟩,⟨.load 1 false (.t 57),some 58,(some (51,false)),[59],[]⟩]
def r_lal_7:Reg:=⟨y1r,zzz,[59],[],true⟩
def r_lal_8:Reg:=⟨[],[⟨.mv (.c (.bool false)),some 8,none,[],[]⟩],[],[],false⟩
def r_lal_9:Reg:=⟨[],[⟨.bin .add (.t 34) (.c (.int .i64 1)),some 62,none,[],[]⟩,⟨.mv (.t 62),some 34,none,[],[]⟩],[],[],false⟩
def zx0:IR:=(.seq (.reg r_lal_5)
 (.seq (.cond (.t 35) .skip
 (.exit 0))
 (.seq (.block 1 (.seq (.reg r_lal_6)
 (.seq (.reg r_lal_7)
 (.cond (.t 61) (.seq (.reg r_lal_8)
 .ret)
 .skip))))
 (.reg r_lal_9))))
def zqz:List ROp:=[⟨.bsl 3 32 [],some 63,none,[],[]⟩,⟨.mv (.t 2),some 64,none,[],[]⟩,⟨.append 3 32 24 (.t 63) (.t 64),some 65,none,[],[]⟩,⟨.mv (.t 3),some 66,none,[],[]⟩,⟨.append 3 32 24 (.t 65) (.t 66),some 67,none,[],[]⟩,⟨.len false (.t 67),some 68,none,[],[]⟩,⟨.mv (.c (.int .i64 0)),some 69,none,[],[]⟩]
def y5t:Reg:=⟨[],zqz,[63],[],false⟩
def y5s:Reg:=⟨[],[⟨.bin .lss (.t 69) (.t 68),some 70,none,[],[]⟩],[],[],false⟩
def zqy:List ROp:=[⟨.iaddr 3 (.t 67) (.t 69),some 71,none,[12],[]⟩,⟨.load 3 true (.t 71),some 72,none,[12],[]⟩,⟨.alloc 3 32 (.agg [(.int .i64 0),(.int .i64 0),(.bool false)]),some 12,none,[],[]⟩,⟨.store 3 (.t 12) (.t 72),none,none,[],[]⟩]
def y5r:Reg:=⟨[],zqy,[12],[],false⟩
def zqx:List ROp:=[⟨.callv (.c (.clo 8 [] [])) [(.t 79),(.t 81)],some 82,none,[],[]⟩,⟨.beq true (.t 78) (.t 82),some 83,none,[],[]⟩]
def zs6:List ROp:=[⟨.mv (.t 1),some 73,none,[78,82],[]⟩,⟨.mv (.t 2),some 74,none,[78,82],[]⟩,⟨.mv (.t 3),some 75,none,[78,82],[]⟩,⟨.faddr 0 (.t 12),some 76,none,[78,82],[]⟩,⟨.load 1 false (.t 76),some 77,none,[78,82],[]⟩,⟨.callv (.c (.clo 7 [] [])) [(.t 73),(.t 74),(.t 75),(.t 77)],some 78,none,[82],[]⟩,⟨.mv (.t 9),some 79,none,[78,82],[]⟩,⟨.faddr 0 (.t 12),some 80,none,[78,82],[]⟩,⟨.load 1 false (.t 80),some 81,none,[78,82],[]⟩]
def y5q:Reg:=⟨zs6,zqx,[78,82],[],true⟩
def y5p:Reg:=⟨[],[⟨.mv (.c (.bool false)),some 8,none,[],[]⟩],[],[],false⟩
def y5o:Reg:=⟨[],[⟨.bin .add (.t 69) (.c (.int .i64 1)),some 84,none,[],[]⟩,⟨.mv (.t 84),some 69,none,[],[]⟩],[],[],false⟩
def zwz:IR:=(.seq (.reg y5s)
 (.seq (.cond (.t 70) .skip
 (.exit 2))
 (.seq (.block 3 (.seq (.reg y5r)
 (.seq (.reg y5q)
 (.cond (.t 83) (.seq (.reg y5p)
 .ret)
 .skip))))
 (.reg y5o))))
def zqw:List ROp:=[⟨.mv (.t 1),some 85,none,[88],[]⟩,⟨.mv (.t 2),some 86,none,[88],[]⟩,⟨.mv (.t 3),some 87,none,[88],[]⟩,⟨.callv (.c (.clo 9 [] [])) [(.t 85),(.t 86),(.t 87)],some 88,none,[],[]⟩,⟨.mv (.t 9),some 89,none,[],[]⟩,⟨.len false (.t 89),some 90,none,[],[]⟩,⟨.bin .eql (.t 90) (.c (.int .i64 0)),some 91,none,[],[]⟩,⟨.beq true (.t 88) (.t 91),some 92,none,[],[]⟩]
def y5n:Reg:=⟨[],zqw,[88],[],false⟩
def y5m:Reg:=⟨[],[⟨.mv (.c (.bool false)),some 8,none,[],[]⟩],[],[],false⟩
def zqv:List ROp:=[⟨.mv (.t 9),some 93,none,[99,100,105],[]⟩,⟨.len false (.t 93),some 94,none,[99,100,105],[]⟩,⟨.bin .gtr (.t 94) (.c (.int .i64 0)),some 95,none,[99,100,105],[]⟩,⟨.mv (.t 95),some 96,none,[99,100,105],[]⟩,⟨.mv (.t 2),some 97,(some (96,false)),[99,100,105],[]⟩,⟨.mv (.t 3),some 98,(some (96,false)),[99,100,105],[]⟩,⟨.callv (.c (.clo 11 [] [])) [(.t 97),(.t 98)],some 99,(some (96,false)),[100,105],[]⟩,⟨.callv (.c (.clo 10 [] [])) [(.t 99)],some 100,(some (96,false)),[105],[]⟩,⟨.len false (.t 100),some 101,(some (96,false)),[105],[]⟩,⟨.bin .eql (.t 101) (.c (.int .i64 0)),some 102,(some (96,false)),[105],[]⟩,⟨.pick (.t 96) (.c (.bool true)) (.t 102),some 103,none,[105],[]⟩,⟨.mv (.t 103),some 104,none,[105],[]⟩,⟨.callv (.c (.clo 5 [] [])) [],some 105,(some (104,true)),[],[]⟩,⟨.pick (.t 104) (.t 105) (.c (.bool false)),some 106,none,[],[]⟩,⟨.mv (.t 106),some 8,none,[],[]⟩]
def y5l:Reg:=⟨[],zqv,[99,100,105],[],false⟩
def ir_lal:IR:=(.seq (.reg r_lal_0)
 (.seq (.seq (.reg r_lal_1)
 (.cond (.t 26) (.seq (.reg r_lal_2)
 .ret)
 .skip))
 (.seq (.reg r_lal_3)
 (.seq (.seq (.reg r_lal_4)
 (.block 0 (.loop zx0)))
 (.seq (.seq (.reg y5t)
 (.block 2 (.loop zwz)))
 (.seq (.seq (.reg y5n)
 (.cond (.t 92) (.seq (.reg y5m)
 .ret)
 .skip))
 (.seq (.reg y5l)
 .ret)))))))
def res_lal:List RDesc:=[(.tmp 8)]
theorem e_lal_0:EqR r_lal_0 [⟨.box 5 23 (.t 0),some 4,none,[],[]⟩,⟨.mv (.c (.bool false)),some 8,none,[],[]⟩] [4]:=fun _ _ _=>rfl
theorem e_lal_1:EqR r_lal_1 y02 [15]:=fun _ _ _=>rfl
theorem e_lal_2:EqR r_lal_2 [⟨.callv (.c (.clo 5 [] [])) [],some 27,none,[],[]⟩,⟨.mv (.t 27),some 8,none,[],[]⟩] [27]:=fun _ _ _=>rfl
theorem e_lal_3:EqR r_lal_3 y01 [31]:=fun _ _ _=>rfl
theorem e_lal_4:EqR r_lal_4 y00 []:=fun _ _ _=>rfl
theorem e_lal_5:EqR r_lal_5 [⟨.bin .lss (.t 34) (.t 33),some 35,none,[],[]⟩] []:=fun _ _ _=>rfl
theorem e_lal_6:EqR r_lal_6 [⟨.mv (.t 34),some 36,none,[],[]⟩,⟨.mv (.t 36),some 10,none,[],[]⟩] []:=fun _ _ _=>rfl
theorem e_lal_7 (C:FuncId->List AV->AV->Prop) (σ:St) (K:St->Prop):z0l C r_lal_7 σ K = z08 C [] zzz y1r (σ.kills [59]) K:=rfl
theorem e_lal_8:EqR r_lal_8 [⟨.mv (.c (.bool false)),some 8,none,[],[]⟩] []:=fun _ _ _=>rfl
theorem e_lal_9:EqR r_lal_9 [⟨.bin .add (.t 34) (.c (.int .i64 1)),some 62,none,[],[]⟩,⟨.mv (.t 62),some 34,none,[],[]⟩] []:=fun _ _ _=>rfl
theorem e_lal_11:EqR y5t zqz [63]:=fun _ _ _=>rfl
theorem e_lal_12:EqR y5s [⟨.bin .lss (.t 69) (.t 68),some 70,none,[],[]⟩] []:=fun _ _ _=>rfl
theorem e_lal_13:EqR y5r zqy [12]:=fun _ _ _=>rfl
theorem e_lal_14 (C:FuncId->List AV->AV->Prop) (σ:St) (K:St->Prop):z0l C y5q σ K = z08 C [] zqx zs6 (σ.kills [78,82]) K:=rfl
theorem e_lal_15:EqR y5p [⟨.mv (.c (.bool false)),some 8,none,[],[]⟩] []:=fun _ _ _=>rfl
theorem e_lal_16:EqR y5o [⟨.bin .add (.t 69) (.c (.int .i64 1)),some 84,none,[],[]⟩,⟨.mv (.t 84),some 69,none,[],[]⟩] []:=fun _ _ _=>rfl
theorem e_lal_18:EqR y5n zqw [88]:=fun _ _ _=>rfl
theorem e_lal_19:EqR y5m [⟨.mv (.c (.bool false)),some 8,none,[],[]⟩] []:=fun _ _ _=>rfl
theorem e_lal_20:EqR y5l zqv [99,100,105]:=fun _ _ _=>rfl
theorem fn_lal {args:List AV} {r:AV} (ha:args.length.ble Tryz.f3.ntmps = true) (h:run (AFn Tryz.prog) ir_lal (endQ res_lal r) (z0b args)):AFn Tryz.prog 3 args r :=
 AFn.of_code (pv:=false) (hint:=fun _=>[]) (c:=Tryz.f3.body.getD .skip) (by kernel_rfl) (by kernel_rfl) Tryz.func3 (by kernel_rfl) (by kernel_rfl) (by kernel_rfl) (of_decide_eq_true (by kernel_rfl)) (Nat.le_of_ble_eq_true ha) (Nat.le_of_ble_eq_true (by kernel_rfl)) (z09 h)
attribute [local go_sem ↓] ir_lfi
attribute [local go_sem] res_lfi e_lfi_0 e_lfi_1 zzx
attribute [local go_sem ↓] ir_lal
attribute [local go_sem] res_lal e_lal_0 e_lal_1 y02 e_lal_2 e_lal_3 y01 e_lal_4 y00 e_lal_5 e_lal_6 e_lal_7 zzz y1r e_lal_8 e_lal_9 e_lal_11 zqz e_lal_12 e_lal_13 zqy e_lal_14 zqx zs6 e_lal_15 e_lal_16 e_lal_18 zqw e_lal_19 e_lal_20 zqv
theorem fits_ok (l:List Nd) (hs ws:List Hld) (F:List Int) (cF:AFn Tryz.prog 6 [.sl (l.map Nd.a),.sl (hs.map Hld.a),.sl (ws.map Hld.a)] (.own 1 3 (F.map (AV.int .i64)))) :
  AFn Tryz.prog 9 [.sl (l.map Nd.a),.sl (hs.map Hld.a),.sl (ws.map Hld.a)] (.bool (decide (F = []))):=by
 refine fn_lfi rfl ?_
 have e:((F.length:Int) == 0) = decide (F = []):=by
  cases F with
  | nil=>rfl
  | cons x r=>simp; omega
 (repeat (first | simp (maxSteps:=9^7) only [go_sem,Msg.a,Par.a,Cfg.a,evM,List.length_map,e] | refine z01 (cF) ?_ | refine z00 (cF) ?_ | refine And.intro (by omega) ?_ | refine And.intro (fun d hd=>by (repeat (rcases hd with rfl | hd; · exact ⟨rfl,rfl⟩)); cases hd) ?_))
def la1I (l:List Nd) (hs ws:List Hld) (F:List Int) (k:Nat) (σ:St):Prop :=
 ∃ i:Nat,i≤F.length∧k = F.length - i∧σ.T 1 = .sl (l.map Nd.a)∧σ.T 2 = .sl (hs.map Hld.a)∧σ.T 3 = .sl (ws.map Hld.a)∧σ.T 9 = .rs 31 0 F.length∧σ.H 31 = some ⟨1,3,F.map (AV.int .i64),0⟩∧σ.T 33 = .int .i64 F.length∧σ.T 34 = .int .i64 i
def la2I (l:List Nd) (hs ws L:List Hld) (F:List Int) (k:Nat) (σ:St):Prop :=
 ∃ i:Nat,i≤L.length∧k = L.length - i∧σ.T 1 = .sl (l.map Nd.a)∧σ.T 2 = .sl (hs.map Hld.a)∧σ.T 3 = .sl (ws.map Hld.a)∧(∃ pr,σ.T 9 = .rs 31 0 F.length∧σ.H 31 = some ⟨1,3,F.map (AV.int .i64),pr⟩)∧σ.T 67 = .rs 63 0 L.length∧σ.H 63 = some ⟨3,32,L.map Hld.a,0⟩∧σ.T 68 = .int .i64 L.length∧σ.T 69 = .int .i64 i
set_option maxHeartbeats 8000000 in
theorem zym (c:Cfg) (l:List Nd) (hs ws:List Hld) (B:Bool) (F:List Int) (G:Int->Bool)
  (aw:AFn Tryz.prog 5 [] (.bool true))
  (k1:AFn Tryz.prog 4 [c.a,.sl (l.map Nd.a),.int .i64 30] (.bool B))
  (k2:B = true->hs.length≤20->ws.length≤20->AFn Tryz.prog 6 [.sl (l.map Nd.a),.sl (hs.map Hld.a),.sl (ws.map Hld.a)] (.own 1 3 (F.map (AV.int .i64))))
  (k3:B = true->hs.length≤20->ws.length≤20->∀ t,AFn Tryz.prog 7 [.sl (l.map Nd.a),.sl (hs.map Hld.a),.sl (ws.map Hld.a),.int .i64 t] (.bool (G t)))
  (hF:F.length≤40) (hR:∀ (i:Nat) (x y:Int),F[i]? = some x->F[i + 1]? = some y->x < y) (hG:∀ x,x ∈ F->G x = true) (hI:∀ x,x ∈ hs ++ ws->F.contains x.thread = G x.thread)
  (k6:B = true->hs.length≤20->ws.length≤20->F = []->∃ X:List AV,AFn Tryz.prog 11 [.sl (hs.map Hld.a),.sl (ws.map Hld.a)] (.sl X)∧AFn Tryz.prog 10 [.sl X] (.sl [])) :
  AFn Tryz.prog 3 [c.a,.sl (l.map Nd.a),.sl (hs.map Hld.a),.sl (ws.map Hld.a)] (.bool true):=by
 refine fn_lal rfl ?_
 simp only [Cfg.a] at k1
 cases B with
 | false=>(repeat (first | simp (maxSteps:=9^7) only [go_sem,Msg.a,Par.a,Cfg.a,evM,List.length_map] | refine z01 (k1) ?_ | refine z00 (k1) ?_ | refine z01 (aw) ?_ | refine z00 (aw) ?_ | refine And.intro (by omega) ?_ | refine And.intro (fun d hd=>by (repeat (rcases hd with rfl | hd; · exact ⟨rfl,rfl⟩)); cases hd) ?_))
 | true =>
 by_cases b1:20 < hs.length
 ·have b1':(20:Int) < (hs.length:Int):=by omega
  (repeat (first | simp (maxSteps:=9^7) only [go_sem,Msg.a,Par.a,Cfg.a,evM,List.length_map,b1'] | refine z01 (k1) ?_ | refine z00 (k1) ?_ | refine z01 (aw) ?_ | refine z00 (aw) ?_ | refine And.intro (by omega) ?_ | refine And.intro (fun d hd=>by (repeat (rcases hd with rfl | hd; · exact ⟨rfl,rfl⟩)); cases hd) ?_))
 have b1':¬ (20:Int) < (hs.length:Int):=by omega
 by_cases b2:20 < ws.length
 ·have b2':(20:Int) < (ws.length:Int):=by omega
  (repeat (first | simp (maxSteps:=9^7) only [go_sem,Msg.a,Par.a,Cfg.a,evM,List.length_map,b1',b2'] | refine z01 (k1) ?_ | refine z00 (k1) ?_ | refine z01 (aw) ?_ | refine z00 (aw) ?_ | refine And.intro (by omega) ?_ | refine And.intro (fun d hd=>by (repeat (rcases hd with rfl | hd; · exact ⟨rfl,rfl⟩)); cases hd) ?_))
 have b2':¬ (20:Int) < (ws.length:Int):=by omega
 have k2:=k2 rfl (by omega) (by omega)
 have k3:=k3 rfl (by omega) (by omega)
 have k6:=k6 rfl (by omega) (by omega)
 have k5:=fits_ok l hs ws F k2
 (repeat (first | simp (maxSteps:=9^7) only [go_sem,Msg.a,Par.a,Cfg.a,evM,List.length_map,b1',b2'] | refine z01 (k1) ?_ | refine z00 (k1) ?_ | refine z01 (k2) ?_ | refine z00 (k2) ?_ | refine And.intro (by omega) ?_ | refine And.intro (fun d hd=>by (repeat (rcases hd with rfl | hd; · exact ⟨rfl,rfl⟩)); cases hd) ?_))
 refine z06 (la1I l hs ws F) (k:=F.length) ⟨0,by omega,rfl,?_,?_,?_,?_,?_,?_,?_⟩ ?_ <;> try (simp (maxSteps:=9^7) only [go_sem,Msg.a,Par.a,Cfg.a,evM,List.length_map])
 ·rfl
 rintro k σ ⟨i,hi,rfl,t1,t2,t3,t9,h31,t33,t34⟩
 simp only [zx0]
 by_cases hlt:i < F.length
 ·have hlt':(i:Int) < (F.length:Int):=by omega
  obtain ⟨y,hy⟩:=z0f hlt
  have hgy:=z0k (f:=AV.int .i64) hy
  have hw:=z1a (j:=i) (by omega)
  have c1:=k3 y
  rw [hG y (List.mem_of_getElem? hy)] at c1
  by_cases h0:i = 0
  ·subst h0
   have z0:¬ (0:Int) < ((0:Nat):Int):=by decide
   (repeat (first | simp (maxSteps:=9^7) only [go_sem,Msg.a,Par.a,Cfg.a,evM,t1,t2,t3,t9,h31,t33,t34,hlt',hlt,hgy,z0,List.length_map,Int.toNat_natCast] | refine z01 (c1) ?_ | refine z00 (c1) ?_ | refine And.intro (by omega) ?_ | refine And.intro (fun d hd=>by (repeat (rcases hd with rfl | hd; · exact ⟨rfl,rfl⟩)); cases hd) ?_))
   refine ⟨F.length - (0 + 1),by omega,0 + 1,by omega,rfl,?_,?_,?_,?_,?_,?_,?_⟩ <;> (simp (maxSteps:=9^7) only [go_sem,Msg.a,Par.a,Cfg.a,evM,t1,t2,t3,t9,h31,t33,t34,hw])
  ·have z0:(0:Int) < (i:Int):=by omega
   obtain ⟨x,hx⟩:=z0f (l:=F) (j:=i - 1) (by omega)
   have hgx:=z0k (f:=AV.int .i64) hx
   have hm:IntKind.i64.wrap ((i:Int) - 1) = ((i - 1:Nat):Int):=by rw [IntWalk.i64_in _ (by omega)]; omega
   have hxy:=hR (i - 1) x y hx (by rw [show i - 1 + 1 = i by omega]; exact hy)
   have hge:¬ y≤x:=by omega
   have q0:(0:Int)≤((i - 1:Nat):Int):=by omega
   have q1:((i - 1:Nat):Int) < (F.length:Int):=by omega
   have q2:i - 1 < F.length:=by omega
   (repeat (first | simp (maxSteps:=9^7) only [go_sem,Msg.a,Par.a,Cfg.a,evM,t1,t2,t3,t9,h31,t33,t34,hlt',hlt,hgy,hgx,hm,hge,z0,q0,q1,q2,List.length_map,Int.toNat_natCast] | refine z01 (c1) ?_ | refine z00 (c1) ?_ | refine And.intro (by omega) ?_ | refine And.intro (fun d hd=>by (repeat (rcases hd with rfl | hd; · exact ⟨rfl,rfl⟩)); cases hd) ?_))
   refine ⟨F.length - (i + 1),by omega,i + 1,by omega,rfl,?_,?_,?_,?_,?_,?_,?_⟩ <;> (simp (maxSteps:=9^7) only [go_sem,Msg.a,Par.a,Cfg.a,evM,t1,t2,t3,t9,h31,t33,t34,hw])
 have hlt':¬ (i:Int) < (F.length:Int):=by omega
 clear k1 k2
 simp (maxSteps:=9^7) only [go_sem,Msg.a,Par.a,Cfg.a,evM,t1,t2,t3,t9,h31,t33,t34,hlt',List.length_map,Int.toNat_natCast]
 have hel:∀ (q:List Hld) (d:AV),d ∈ q.map Hld.a->d.cells.length = 3∧d.cells.all AV.one = true:=by
  rintro q d hd
  obtain ⟨h,_,rfl⟩:=List.mem_map.1 hd
  exact ⟨rfl,rfl⟩
 refine ⟨⟨⟨by omega,by omega⟩,hel hs⟩,⟨⟨by omega,by omega⟩,hel ws⟩,?_⟩
 have tk:(hs.map Hld.a).take hs.length = hs.map Hld.a:=List.take_of_length_le (by simp)
 have mp:hs.map Hld.a ++ ws.map Hld.a = (hs ++ ws).map Hld.a:=List.map_append.symm
 have ll:hs.length + ws.length = (hs ++ ws).length:=List.length_append.symm
 have hLl:(hs ++ ws).length≤40:=by rw [← ll]; omega
 obtain ⟨L,hL⟩:∃ L,hs ++ ws = L:=⟨_,rfl⟩
 rw [hL] at mp ll hLl hI
 simp only [tk,mp,ll]
 refine z06 (la2I l hs ws L F) (k:=L.length) ⟨0,by omega,rfl,?_,?_,?_,⟨0,?_,?_⟩,?_,?_,?_,?_⟩ ?_ <;> try (simp (maxSteps:=9^7) only [go_sem,Msg.a,Par.a,Cfg.a,evM,t1,t2,t3,t9,h31])
 ·rfl
 clear t1 t2 t3 t9 h31 t33 t34 tk
 rintro k σ ⟨i,hi,rfl,t1,t2,t3,⟨pr,t9,h31⟩,t67,h63,t68,t69⟩
 simp only [zwz]
 have tF:(F.map (AV.int .i64)).take F.length = F.map (AV.int .i64):=List.take_of_length_le (by simp)
 by_cases hlt:i < L.length
 ·have hlt':(i:Int) < (L.length:Int):=by omega
  obtain ⟨x,hx⟩:=z0f hlt
  have hgx:=atHf hx
  have hw:=z1a (j:=i) (by omega)
  have c1:=k3 x.thread
  have c2:=zrm F x.thread (by omega)
  rw [hI x (List.mem_of_getElem? hx)] at c2
  cases e:G x.thread with
  | true =>
   rw [e] at c1 c2
   (repeat (first | simp (maxSteps:=9^7) only [go_sem,Msg.a,Par.a,Cfg.a,evM,t1,t2,t3,t9,h31,t67,h63,t68,t69,hlt',hlt,hgx,tF,List.length_map,Int.toNat_natCast] | refine z01 (c1) ?_ | refine z00 (c1) ?_ | refine z01 (c2) ?_ | refine z00 (c2) ?_ | refine And.intro (by omega) ?_ | refine And.intro (fun d hd=>by (repeat (rcases hd with rfl | hd; · exact ⟨rfl,rfl⟩)); cases hd) ?_))
   refine ⟨L.length - (i + 1),by omega,i + 1,by omega,rfl,?_,?_,?_,⟨pr,?_,?_⟩,?_,?_,?_,?_⟩ <;> (simp (maxSteps:=9^7) only [go_sem,Msg.a,Par.a,Cfg.a,evM,t1,t2,t3,t9,h31,t67,h63,t68,t69,hw])
  | false =>
   rw [e] at c1 c2
   (repeat (first | simp (maxSteps:=9^7) only [go_sem,Msg.a,Par.a,Cfg.a,evM,t1,t2,t3,t9,h31,t67,h63,t68,t69,hlt',hlt,hgx,tF,List.length_map,Int.toNat_natCast] | refine z01 (c1) ?_ | refine z00 (c1) ?_ | refine z01 (c2) ?_ | refine z00 (c2) ?_ | refine And.intro (by omega) ?_ | refine And.intro (fun d hd=>by (repeat (rcases hd with rfl | hd; · exact ⟨rfl,rfl⟩)); cases hd) ?_))
   refine ⟨L.length - (i + 1),by omega,i + 1,by omega,rfl,?_,?_,?_,⟨pr,?_,?_⟩,?_,?_,?_,?_⟩ <;> (simp (maxSteps:=9^7) only [go_sem,Msg.a,Par.a,Cfg.a,evM,t1,t2,t3,t9,h31,t67,h63,t68,t69,hw])
 have hLn':¬ (i:Int) < (L.length:Int):=by omega
 have u1:=t1; have u2:=t2; have u3:=t3; have u9:=t9; have u31:=h31
 clear t1 t2 t3 t9 h31
 cases F with
 | nil =>
  obtain ⟨X,cE,cS⟩:=k6 rfl
  have n0:((0:Nat):Int) = 0:=rfl
  have k5':AFn Tryz.prog 9 [.sl (l.map Nd.a),.sl (hs.map Hld.a),.sl (ws.map Hld.a)] (.bool true):=k5
  (repeat (first | simp (maxSteps:=9^7) only [go_sem,Msg.a,Par.a,Cfg.a,evM,u1,u2,u3,u9,u31,t67,h63,t68,t69,hLn',tF,n0,List.length_nil,List.length_map,Int.toNat_natCast] | refine z01 (k5') ?_ | refine z00 (k5') ?_ | refine z01 (cE) ?_ | refine z00 (cE) ?_ | refine z01 (cS) ?_ | refine z00 (cS) ?_ | refine z01 (aw) ?_ | refine z00 (aw) ?_ | refine And.intro (by omega) ?_ | refine And.intro (fun d hd=>by (repeat (rcases hd with rfl | hd; · exact ⟨rfl,rfl⟩)); cases hd) ?_))
 | cons y r =>
  have k5':AFn Tryz.prog 9 [.sl (l.map Nd.a),.sl (hs.map Hld.a),.sl (ws.map Hld.a)] (.bool false):=k5
  have hp:(0:Int) < ((r.length + 1:Nat):Int):=by omega
  have hq:(((r.length + 1:Nat):Int) == 0) = false:=by rw [beq_eq_false_iff_ne]; omega
  have hbb:(false == false) = true:=rfl
  (repeat (first | simp (maxSteps:=9^7) only [go_sem,Msg.a,Par.a,Cfg.a,evM,u1,u2,u3,u9,u31,t67,h63,t68,t69,hLn',tF,hp,hq,hbb,List.length_cons,List.length_map,Int.toNat_natCast] | refine z01 (k5') ?_ | refine z00 (k5') ?_ | refine z01 (aw) ?_ | refine z00 (aw) ?_ | refine And.intro (by omega) ?_ | refine And.intro (fun d hd=>by (repeat (rcases hd with rfl | hd; · exact ⟨rfl,rfl⟩)); cases hd) ?_))
end
section
def LtE (a b:Edge):Prop:=a.1 < b.1∨(a.1 = b.1∧a.2 < b.2)
instance instLtE (a b:Edge):Decidable (LtE a b):=by unfold LtE; exact inferInstance
theorem LtE.trans {a b c:Edge} (h1:LtE a b) (h2:LtE b c):LtE a c:=by unfold LtE at *; omega
theorem LtE.irrefl {a:Edge}:¬ LtE a a:=by unfold LtE; omega
theorem zds {a b:Edge} (h1:a.1 = b.1) (h2:a.2 = b.2):a = b:=by cases a; cases b; simp_all
theorem LtE.tri (a b:Edge):LtE a b∨a = b∨LtE b a:=by
 by_cases h:a = b
 ·exact .inr (.inl h)
 ·have:a.1 ≠ b.1∨a.2 ≠ b.2:=by
   by_cases h1:a.1 = b.1
   ·exact .inr fun h2=>h (zds h1 h2)
   ·exact .inl h1
  unfold LtE; omega
def comF:Option Edge->List Edge->List Edge
 | _,[]=>[]
 | p,x :: l=>if p = some x then comF p l else x :: comF (some x) l
def comE (l:List Edge):List Edge:=comF none l
def lastE (p:Option Edge):List Edge->Option Edge
 | []=>p
 | x :: l=>lastE (some x) l
theorem zpj (x:Edge):∀ (p:Option Edge) (l:List Edge),lastE p (l ++ [x]) = some x
 | p,[]=>rfl
 | p,y :: l=>zpj x (some y) l
theorem zkc (x:Edge):∀ (p:Option Edge) (l:List Edge),comF p (l ++ [x]) = comF p l ++ (if lastE p l = some x then [] else [x])
 | p,[]=>by
  show (if p = some x then comF p [] else x :: comF (some x) []) = [] ++ (if p = some x then [] else [x])
  split <;> rfl
 | p,y :: l=>by
  show (if p = some y then comF p (l ++ [x]) else y :: comF (some y) (l ++ [x])) = (if p = some y then comF p l else y :: comF (some y) l) ++ (if lastE (some y) l = some x then [] else [x])
  by_cases h:p = some y
  ·rw [if_pos h,if_pos h,zkc x p l,h]
  ·rw [if_neg h,if_neg h,zkc x (some y) l]; rfl
theorem lastE_take {l:List Edge} {j:Nat} {y:Edge} (hy:l[j]? = some y):lastE none (l.take (j + 1)) = some y:=by
 rw [List.take_add_one,hy]
 exact zpj y none _
theorem zkd {l:List Edge} {j:Nat} {x y:Edge} (hy:l[j]? = some y) (hx:l[j + 1]? = some x):comE (l.take (j + 2)) = comE (l.take (j + 1)) ++ (if y = x then [] else [x]):=by
 unfold comE
 rw [show j + 2 = (j + 1) + 1 from rfl,List.take_add_one,hx,Option.toList_some,zkc,lastE_take hy]
 by_cases h:y = x
 ·subst h; simp
 ·simp [h]
theorem y8b {l:List Edge} (h:l.length≤1):comE l = l:=by
 match l,h with
 | [],_=>rfl
 | [x],_=>rfl
theorem zsg {l:List Edge}:∀ (j:Nat),(∀ (i:Nat) (x y:Edge),i + 1 < j->l[i]? = some y->l[i + 1]? = some x->y ≠ x)->comE (l.take j) = l.take j
 | 0,_=>rfl
 | 1,_=>y8b (by simp; omega)
 | j + 2,h=>by
  have ih:=zsg (j + 1) fun i x y hi=>h i x y (by omega)
  by_cases hj:j + 1 < l.length
  ·have hx:=List.getElem?_eq_getElem hj
   have hy:=List.getElem?_eq_getElem (show j < l.length by omega)
   rw [zkd hy hx,if_neg (h j _ _ (by omega) hy hx),ih,show l.take (j + 2) = l.take (j + 1) ++ [l[j + 1]] from by rw [show j + 2 = (j + 1) + 1 from rfl,List.take_add_one,hx]; rfl]
  ·rw [List.take_of_length_le (by omega)]
   rw [List.take_of_length_le (by omega)] at ih
   exact ih
theorem zdk {e:Edge}:∀ {p:Option Edge} {l:List Edge},(e ∈ comF p l->e ∈ l)∧(e ∈ l->p = some e∨e ∈ comF p l)
 | p,[]=>⟨id,fun h=>by simp at h⟩
 | p,x :: l=>by
  show (e ∈ (if p = some x then comF p l else x :: comF (some x) l)->e ∈ x :: l)∧(e ∈ x :: l->p = some e∨e ∈ (if p = some x then comF p l else x :: comF (some x) l))
  by_cases h:p = some x
  ·rw [if_pos h]
   obtain ⟨h1,h2⟩:=zdk (e:=e) (p:=p) (l:=l)
   refine ⟨fun he=>List.mem_cons_of_mem _ (h1 he),fun he=>?_⟩
   rcases List.mem_cons.1 he with he | he
   ·subst he; exact .inl h
   ·exact h2 he
  ·rw [if_neg h]
   obtain ⟨h1,h2⟩:=zdk (e:=e) (p:=some x) (l:=l)
   refine ⟨fun he=>?_,fun he=>?_⟩
   ·rcases List.mem_cons.1 he with he | he
    ·rw [he]; simp
    ·exact List.mem_cons_of_mem _ (h1 he)
   ·rcases List.mem_cons.1 he with he | he
    ·rw [he]; right; simp
    ·rcases h2 he with h3 | h3
     ·cases h3; right; simp
     ·right; exact List.mem_cons_of_mem _ h3
theorem mem_comE {e:Edge} {l:List Edge}:e ∈ comE l ↔ e ∈ l :=
 ⟨(zdk (p:=none) (l:=l)).1,fun h=>by
  rcases (zdk (p:=none) (l:=l)).2 h with h | h
  ·cases h
  ·exact h⟩
end
section
def outs (l:List Edge) (k:Int):List Int:=(l.filter fun e=>e.1 == k).map (·.2)
def z8c (l:List Int):AV:=.sl (l.map (AV.int .i64))
theorem lkp_upk {k:Int} {d:AV}:∀ {es:List (Int × AV)} {j:Int},lkp (upk es k d) j = if j = k then some d else lkp es j
 | [],j=>by
  simp only [upk,lkp]
  by_cases h:j = k
  ·simp [h]
  ·simp [h]
 | e :: es,j=>by
  unfold upk
  by_cases hk:k = e.1
  ·subst hk
   simp only [beq_self_eq_true,if_true,lkp]
   by_cases h:j = e.1
   ·simp [h]
   ·simp [h]
  ·rw [if_neg (by simpa using hk)]
   simp only [lkp,lkp_upk (es:=es)]
   by_cases h:j = e.1
   ·subst h
    have hk':¬ e.1 = k:=fun e'=>hk e'.symm
    simp [hk']
   ·simp [h]
def GOk (p:List Edge) (es:List (Int × AV)):Prop:=(∀ k,lkp es k = if outs p k = [] then none else some (z8c (outs p k)))∧(es.map (·.1)).Nodup∧∀ k,k ∈ es.map (·.1) ↔ k ∈ p.map (·.1)
theorem zs0 {k:Int} {d:AV}:∀ {es:List (Int × AV)},(upk es k d).map (·.1) = if k ∈ es.map (·.1) then es.map (·.1) else es.map (·.1) ++ [k]
 | []=>by simp [upk]
 | e :: es=>by
  unfold upk
  by_cases hk:k = e.1
  ·subst hk; simp
  ·rw [if_neg (by simpa using hk)]
   simp only [List.map_cons,zs0 (es:=es),List.mem_cons,hk,false_or]
   split <;> simp
theorem zxl (p:List Edge) (e:Edge) (k:Int):outs (p ++ [e]) k = if e.1 = k then outs p k ++ [e.2] else outs p k:=by
 unfold outs
 rw [List.filter_append,List.map_append]
 by_cases h:e.1 = k
 ·simp [h]
 ·simp [h]
theorem GOk.step {p:List Edge} {es:List (Int × AV)} (h:GOk p es) (e:Edge):GOk (p ++ [e]) (upk es e.1 (z8c (outs p e.1 ++ [e.2]))):=by
 obtain ⟨h1,h2,h3⟩:=h
 refine ⟨fun k=>?_,?_,fun k=>?_⟩
 ·rw [lkp_upk,zxl]
  by_cases hk:k = e.1
  ·subst hk; simp
  ·have hk':¬ e.1 = k:=fun e'=>hk e'.symm
   rw [if_neg hk]
   simp only [if_neg hk']
   exact h1 k
 ·rw [zs0]
  split
  ·exact h2
  ·rename_i hn
   refine List.nodup_append.2 ⟨h2,by simp,fun x hx y hy e'=>?_⟩
   have hy':y = e.1:=by simpa using hy
   subst hy'; subst e'; exact hn hx
 ·rw [zs0]
  split
  ·rename_i hm
   rw [h3 k,List.map_append,List.mem_append]
   refine ⟨.inl,fun h=>?_⟩
   rcases h with h | h
   ·exact h
   ·have:k = e.1:=by simpa using h
    subst this; exact (h3 _).1 hm
  ·rw [List.mem_append,h3 k,List.map_append,List.mem_append]
   simp
theorem GOk.nil:GOk [] []:=⟨fun k=>rfl,by simp,fun k=>by simp⟩
theorem zdj {l:List Edge} {a b:Int}:b ∈ outs l a ↔ (a,b) ∈ l:=by
 unfold outs
 simp only [List.mem_map,List.mem_filter,beq_iff_eq]
 constructor
 ·rintro ⟨e,⟨h1,h2⟩,h3⟩
  rw [← h2,← h3]; exact h1
 ·intro h
  exact ⟨(a,b),⟨h,rfl⟩,rfl⟩
end
section
def zg2 (s:List Int):List (Int × AV):=s.map fun n=>(n,.bool true)
theorem y6w {n:Int}:∀ {s:List Int},lkp (zg2 s) n = if n ∈ s then some (.bool true) else none
 | []=>by simp [zg2,lkp]
 | x :: s=>by
  show (if n == x then some (AV.bool true) else lkp (zg2 s) n) = _
  rw [y6w (s:=s)]
  by_cases h:n = x
  ·simp [h]
  ·simp [h]
theorem y41 {n:Int}:∀ {s:List Int},n ∉ s->upk (zg2 s) n (.bool true) = zg2 (s ++ [n])
 | [],_=>rfl
 | x :: s,h=>by
  have h':¬ n = x∧n ∉ s:=by simpa using h
  show (if n == x then _ else (x,AV.bool true) :: upk (zg2 s) n (.bool true)) = _
  rw [if_neg (by simpa using h'.1),y41 h'.2]
  rfl
structure Dfs (l:List Edge) (a:Int) (seen todo:List Int):Prop where
 nodup:seen.Nodup
 s:∀ n,n ∈ seen->TC l a n
 t:∀ n,n ∈ todo->TC l a n
 out:∀ n b,n ∈ seen->(n,b) ∈ l->b ∈ seen∨b ∈ todo
 first:∀ b,(a,b) ∈ l->b ∈ seen∨b ∈ todo
def dfsM (l:List Edge) (seen todo:List Int):Nat:=todo.length + (l.filter fun e=>!seen.contains e.1).length
theorem Dfs.start (l:List Edge) (a:Int):Dfs l a [] (outs l a) :=
 ⟨List.nodup_nil,fun n h=>by simp at h,fun n h=>.one (zdj.1 h),fun n b h=>by simp at h,fun b h=>.inr (zdj.2 h)⟩
theorem Dfs.skip {l:List Edge} {a n:Int} {seen t:List Int} (h:Dfs l a seen (t ++ [n])) (hn:n ∈ seen):Dfs l a seen t:=by
 have fix:∀ b,b ∈ seen∨b ∈ t ++ [n]->b ∈ seen∨b ∈ t:=fun b hb=>by
  rcases hb with hb | hb
  ·exact .inl hb
  ·rcases List.mem_append.1 hb with hb | hb
   ·exact .inr hb
   ·have:b = n:=by simpa using hb
    subst this; exact .inl hn
 exact ⟨h.nodup,h.s,fun m hm=>h.t m (List.mem_append_left _ hm),fun m b hm hb=>fix b (h.out m b hm hb),fun b hb=>fix b (h.first b hb)⟩
theorem Dfs.mark {l:List Edge} {a n:Int} {seen t:List Int} (h:Dfs l a seen (t ++ [n])) (hn:n ∉ seen):Dfs l a (seen ++ [n]) (t ++ outs l n):=by
 have hnt:TC l a n:=h.t n (by simp)
 have fix:∀ b,b ∈ seen∨b ∈ t ++ [n]->b ∈ seen ++ [n]∨b ∈ t ++ outs l n:=fun b hb=>by
  rcases hb with hb | hb
  ·exact .inl (List.mem_append_left _ hb)
  ·rcases List.mem_append.1 hb with hb | hb
   ·exact .inr (List.mem_append_left _ hb)
   ·exact .inl (List.mem_append_right _ hb)
 refine ⟨List.nodup_append.2 ⟨h.nodup,by simp,fun x hx y hy e=>?_⟩,fun m hm=>?_,fun m hm=>?_,fun m b hm hb=>?_,fun b hb=>fix b (h.first b hb)⟩
 ·have hy':y = n:=by simpa using hy
  subst hy'; subst e; exact hn hx
 ·rcases List.mem_append.1 hm with hm | hm
  ·exact h.s m hm
  ·have:m = n:=by simpa using hm
   subst this; exact hnt
 ·rcases List.mem_append.1 hm with hm | hm
  ·exact h.t m (List.mem_append_left _ hm)
  ·exact .step hnt (zdj.1 hm)
 ·rcases List.mem_append.1 hm with hm | hm
  ·exact fix b (h.out m b hm hb)
  ·have:m = n:=by simpa using hm
   subst this
   exact .inr (List.mem_append_right _ (zdj.2 hb))
theorem Dfs.done {l:List Edge} {a:Int} {seen:List Int} (h:Dfs l a seen []):∀ b,b ∈ seen ↔ TC l a b:=fun b=>by
 refine ⟨h.s b,fun hb=>?_⟩
 induction hb with
 | one h1=>rcases h.first _ h1 with h | h; exact h; simp at h
 | step _ h2 ih=>rcases h.out _ _ ih h2 with h | h; exact h; simp at h
theorem dfs_eq {l:List Edge} {n:Int} {seen t:List Int} (hn:n ∉ seen):dfsM l (seen ++ [n]) (t ++ outs l n) + 1 = dfsM l seen (t ++ [n]):=by
 have key:∀ l:List Edge,(l.filter fun e=>!(seen ++ [n]).contains e.1).length + (outs l n).length = (l.filter fun e=>!seen.contains e.1).length:=by
  intro l
  induction l with
  | nil=>rfl
  | cons e l ih =>
   unfold outs at ih ⊢
   by_cases h1:e.1 = n
   ·have h2:e.1 ∉ seen:=by rw [h1]; exact hn
    simp only [List.filter_cons,List.contains_eq_mem,List.mem_append,List.mem_singleton,h1,h2,hn,or_true,decide_true,Bool.not_true,Bool.false_eq_true,if_false,decide_false,Bool.not_false,if_true,beq_self_eq_true,List.map_cons,List.length_cons] at ih ⊢
    omega
   ·by_cases h2:e.1 ∈ seen
    ·simp only [List.filter_cons,List.contains_eq_mem,List.mem_append,List.mem_singleton,h1,h2,or_false,decide_true,Bool.not_true,Bool.false_eq_true,if_false,beq_iff_eq] at ih ⊢
     exact ih
    ·simp only [List.filter_cons,List.contains_eq_mem,List.mem_append,List.mem_singleton,h1,h2,or_false,decide_false,Bool.not_false,if_true,beq_iff_eq,if_false,List.length_cons] at ih ⊢
     omega
 unfold dfsM
 have:=key l
 simp only [List.length_append,List.length_cons,List.length_nil]
 omega
theorem zsb {l:List Edge} {n:Int} {seen t:List Int} (hn:n ∉ seen):dfsM l (seen ++ [n]) (t ++ outs l n) < dfsM l seen (t ++ [n]):=by
 have:=dfs_eq (l:=l) (t:=t) hn
 omega
theorem zdu {l:List Edge} {n:Int} {seen t:List Int}:dfsM l seen t < dfsM l seen (t ++ [n]):=by
 unfold dfsM
 simp only [List.length_append,List.length_cons,List.length_nil]
 omega
end
section
open Go.RowKit Go.MapKept
def upl:List (Int × List Int)->Int->List Int->List (Int × List Int)
 | [],k,d=>[(k,d)]
 | e :: l,k,d=>if k == e.1 then (e.1,d) :: l else e :: upl l k d
def lkl:List (Int × List Int)->Int->List Int
 | [],_=>[]
 | e :: l,k=>if k == e.1 then e.2 else lkl l k
def idl:List (Int × List Int)->Int->Option Nat
 | [],_=>none
 | e :: l,k=>if k == e.1 then some 0 else (idl l k).map (· + 1)
structure Grp (w:World) (base gm:Nat) (es:List (Int × List Int)) (ms:Array MapEntry) (c:Nat):Prop where
 map:w.heap[gm]? = some (.map ms c)
 st:Stamped ms c
 lt:gm < base
 len:es.length = ms.size
 key:∀ (i:Nat) (e:Int × List Int) (m:MapEntry),es[i]? = some e->ms[i]? = some m->m.key = .int .i64 e.1
 row:∀ (i:Nat) (e:Int × List Int) (m:MapEntry),es[i]? = some e->ms[i]? = some m->w.ownsRow base 3 1 m.val e.2.length (e.2.map (Value.int .i64))
 apart:∀ (i j:Nat) (m m':MapEntry),ms[i]? = some m->ms[j]? = some m'->i ≠ j->m.val.ownBlock = none∨m.val.ownBlock ≠ m'.val.ownBlock
theorem zs2:∀ {es:List (Int × List Int)} {k:Int} {j:Nat},idl es k = some j->∃ e,es[j]? = some e∧e.1 = k∧lkl es k = e.2∧∀ d,upl es k d = es.set j (k,d)
 | [],k,j,h=>by cases h
 | e :: l,k,j,h=>by
  rw [idl] at h
  by_cases hk:(k == e.1) = true
  ·rw [if_pos hk] at h; cases h
   have:k = e.1:=by simpa using hk
   subst this
   exact ⟨e,rfl,rfl,by simp [lkl],fun d=>by simp [upl]⟩
  ·rw [if_neg hk] at h
   obtain ⟨i,hi,rfl⟩:=Option.map_eq_some_iff.1 h
   obtain ⟨e',h1,h2,h3,h4⟩:=zs2 hi
   exact ⟨e',by simpa using h1,h2,by rw [lkl,if_neg hk,h3],fun d=>by rw [upl,if_neg hk,h4]; rfl⟩
theorem y7j:∀ {es:List (Int × List Int)} {k:Int},idl es k = none->lkl es k = []∧(∀ d,upl es k d = es ++ [(k,d)])
 | [],k,_=>⟨rfl,fun d=>rfl⟩
 | e :: l,k,h=>by
  rw [idl] at h
  by_cases hk:(k == e.1) = true
  ·rw [if_pos hk] at h; cases h
  ·rw [if_neg hk] at h
   have:=y7j (by simpa using h:idl l k = none)
   exact ⟨by rw [lkl,if_neg hk,this.1],fun d=>by rw [upl,if_neg hk,this.2]; rfl⟩
theorem zjg:∀ {es:List (Int × List Int)} {k:Int},idl es k = none->∀ e,e ∈ es->e.1 ≠ k
 | [],k,_,e,he=>by cases he
 | x :: l,k,h,e,he=>by
  rw [idl] at h
  by_cases hk:(k == x.1) = true
  ·rw [if_pos hk] at h; cases h
  ·rw [if_neg hk] at h
   rcases List.mem_cons.1 he with e1 | e1
   ·subst e1; exact fun e2=>hk (by simp [e2])
   ·exact zjg (by simpa using h) e e1
def avE (es:List (Int × List Int)):List (Int × AV):=es.map fun e=>(e.1,z8c e.2)
theorem y7h:∀ {es:List (Int × List Int)} {k:Int},idxM (avE es) k = idl es k
 | [],k=>rfl
 | e :: l,k=>by
  show (if k == e.1 then some 0 else (idxM (avE l) k).map (· + 1)) = _
  rw [y7h]; rfl
variable {P:Program}
theorem findG {es:List (Int × List Int)} {ms:Array MapEntry} (k:Int) (hl:es.length = ms.size) (hk:∀ (i:Nat) (e:Int × List Int) (m:MapEntry),es[i]? = some e->ms[i]? = some m->m.key = .int .i64 e.1) :
  (idl es k = none∧Instr.findNow (.int .i64) (.int .i64 k) ms.toList 0 = some none) ∨
  ∃ (j:Nat) (e:Int × List Int) (m:MapEntry),idl es k = some j∧es[j]? = some e∧ms[j]? = some m∧m.key = .int .i64 k∧Instr.findNow (.int .i64) (.int .i64 k) ms.toList 0 = some (some (j,m.val)):=by
 have hf:=z8i k (avE es) ms.toList 0 (by simpa [avE] using hl) (fun j e m h1 h2=>by
  simp only [avE,List.getElem?_map] at h1
  obtain ⟨e',h3,rfl⟩:=Option.map_eq_some_iff.1 h1
  exact hk j e' m h3 (by simpa using h2))
 rw [y7h] at hf
 cases hi:idl es k with
 | none=>rw [hi] at hf; exact .inl ⟨rfl,hf⟩
 | some j =>
  rw [hi] at hf
  obtain ⟨e,h1,h2,h3,h4⟩:=zs2 hi
  have hj:j < ms.size:=by rw [← hl]; exact (List.getElem?_eq_some_iff.1 h1).1
  have hmj:ms[j]? = some ms[j]:=Array.getElem?_eq_getElem hj
  refine .inr ⟨j,e,ms[j],rfl,h1,hmj,by rw [hk j e _ h1 hmj,h2],?_⟩
  rw [hf]
  simp only [Option.bind_some,Array.getElem?_toList,hmj,Option.map_some,Nat.zero_add]
structure Way (w:World) (v:Value) (w1:World) (v':Value) (zs':List Int) (base:Nat):Prop where
 grown:w.grownBy w1 v.ownBlock
 row:w1.ownsRow base 3 1 v' zs'.length (zs'.map (Value.int .i64))
 loc:v'.ownBlock = v.ownBlock∨∃ g,v'.ownBlock = some g∧w.heap.size≤g
def grV (es:List (Int × List Int)) (ms:Array MapEntry) (q:Int):Value:=match idl es q with
 | none=>.slice none 0 0
 | some j=>(ms[j]?.map (·.val)).getD (.slice none 0 0)
theorem Grp.look {w:World} {base gm:Nat} {es:List (Int × List Int)} {ms:Array MapEntry} {c:Nat} (hG:Grp w base gm es ms c) (q:Int) {t kt et:TypeId} {i:TypeInfo} (ht:P.underlying t = some (.map kt et)) (hkt:P.underlying kt = some (.int .i64)) (hi:P.info? et = some i) (hz:i.zero = some (.slice none 0 0)) :
  ∃ v,v = grV es ms q∧(Instr.lookup t (.map (some gm)) (.int .i64 q) false).run P w = .ok v w∧w.ownsRow base 3 1 v (lkl es q).length ((lkl es q).map (Value.int .i64)) ∧
   ∀ w1 v' zs',Way w v w1 v' zs' base->∃ ms' c',(Instr.mapUpdate t (.map (some gm)) (.int .i64 q) v').run P w1 = .ok () { w1 with heap:=w1.heap.setIfInBounds gm (.map ms' c') } ∧
    Grp { w1 with heap:=w1.heap.setIfInBounds gm (.map ms' c') } base gm (upl es q zs') ms' c':=by
 have hK:IsKey (.int .i64) (.int .i64 q):=rfl
 have hgs:gm < w.heap.size:=by
  have:=hG.map
  exact (Array.getElem?_eq_some_iff.1 this).1
 -- what the way back wants: the block as it stood,the rows but one
 have back:∀ (v:Value),(∀ (w1:World) (v':Value) (zs':List Int),Way w v w1 v' zs' base->v.ownBlock ≠ some gm->(w1.heap[gm]? = some (.map ms c))∧∀ (i:Nat) (e:Int × List Int) (m:MapEntry),es[i]? = some e->ms[i]? = some m->(m.val.ownBlock = none∨m.val.ownBlock ≠ v.ownBlock)->∀ ms' c',{ w1 with heap:=w1.heap.setIfInBounds gm (.map ms' c'):World }.ownsRow base 3 1 m.val e.2.length (e.2.map (Value.int .i64))):=by
  intro v w1 v' zs' hW hne
  have h1:w1.heap[gm]? = some (.map ms c):=(hW.grown.block gm hgs (fun e=>hne e.symm)).trans hG.map
  refine ⟨h1,fun i e m he hm ha ms' c'=>?_⟩
  have r1:=(hG.row i e m he hm).kept hW.grown ha
  refine r1.kept (row:=some gm) ⟨rfl,rfl,rfl,by simp,fun k hk hne=>(heap_set h1).2 k (fun e=>hne (by rw [e]))⟩ ?_
  cases hb:m.val.ownBlock with
  | none=>exact .inl rfl
  | some g =>
   refine .inr fun e=>?_
   cases e
   have:=((hG.row i _ m he hm).lt gm hb).1
   have:=hG.lt
   omega
 have newrow:∀ (w1:World) (v v':Value) (zs':List Int),Way w v w1 v' zs' base->w1.heap[gm]? = some (.map ms c)->∀ ms' c',{ w1 with heap:=w1.heap.setIfInBounds gm (.map ms' c'):World }.ownsRow base 3 1 v' zs'.length (zs'.map (Value.int .i64)):=by
  intro w1 v v' zs' hW h1 ms' c'
  refine hW.row.kept (row:=some gm) ⟨rfl,rfl,rfl,by simp,fun k hk hne=>(heap_set h1).2 k (fun e=>hne (by rw [e]))⟩ ?_
  cases hb:v'.ownBlock with
  | none=>exact .inl rfl
  | some g =>
   refine .inr fun e=>?_
   cases e
   have:=(hW.row.lt gm hb).1
   have:=hG.lt
   omega
 rcases findG q hG.len hG.key with ⟨l1,l2⟩ | ⟨j,e,m,l1,l3,l4,l5,l6⟩
 ·obtain ⟨n1,n2⟩:=y7j l1
  refine ⟨.slice none 0 0,by unfold grV; rw [l1],?_,by rw [n1]; exact World.ownsRow_nil _ _ _ _,fun w1 v' zs' hW=>?_⟩
  ·simp [Instr.lookup,run_underlying ht,Go.MapKept.run_getObj_map hG.map,run_checkKey hkt hK,run_findKey hkt l2,zeroValue,typeInfo,hi,hz]
  ·obtain ⟨h1,hrows⟩:=back _ w1 v' zs' hW (by simp [Value.ownBlock])
   refine ⟨ms.push ⟨.int .i64 q,v',c⟩,c + 1,?_,?_⟩
   ·simp [Instr.mapUpdate,run_underlying ht,Go.MapKept.run_getObj_map h1,run_checkKey hkt hK,run_findKey hkt l2,Go.MapKept.run_setObj_map _ h1]
   ·have part:∀ (i:Nat) (x:Int × List Int) (m:MapEntry),(es ++ [(q,zs')])[i]? = some x->(ms.push ⟨.int .i64 q,v',c⟩)[i]? = some m->(es[i]? = some x∧ms[i]? = some m)∨(x = (q,zs')∧m = ⟨.int .i64 q,v',c⟩):=by
     intro i x m h1 h2
     rw [Array.getElem?_push] at h2
     by_cases hi:i = ms.size
     ·rw [if_pos hi] at h2
      rw [List.getElem?_append_right (by rw [hi,hG.len]; exact Nat.le_refl _),hi,hG.len,Nat.sub_self] at h1
      cases h1; cases h2
      exact .inr ⟨rfl,rfl⟩
     ·rw [if_neg hi] at h2
      have:=(Array.getElem?_eq_some_iff.1 h2).1
      rw [List.getElem?_append_left (by rw [hG.len]; exact this)] at h1
      exact .inl ⟨h1,h2⟩
    have hold:∀ (k:Nat) (m':MapEntry),ms[k]? = some m'->m'.val.ownBlock = none∨m'.val.ownBlock ≠ v'.ownBlock:=by
     intro k m' hm'
     have hk:=(Array.getElem?_eq_some_iff.1 hm').1
     have hek:es[k]? = some (es[k]'(by rw [hG.len]; exact hk)):=List.getElem?_eq_getElem _
     cases hb:m'.val.ownBlock with
     | none=>exact .inl rfl
     | some g =>
      refine .inr fun e=>?_
      have hg:=((hG.row k _ m' hek hm').lt g hb).2
      rcases hW.loc with hl | ⟨g',hl,hge⟩
      ·rw [hl] at e; simp [Value.ownBlock] at e
      ·rw [hl] at e; cases e; omega
    rw [n2]
    refine ⟨(heap_set h1).1,stamped_push hG.st (fun x hx=>?_),hG.lt,by rw [List.length_append,Array.size_push,hG.len]; rfl,fun i x m h1' h2'=>?_,fun i x m h1' h2'=>?_,fun i j m m' h1' h2' hij=>?_⟩
    ·obtain ⟨i,hi⟩:=List.mem_iff_getElem?.1 hx
     rw [Array.getElem?_toList] at hi
     have hil:=(Array.getElem?_eq_some_iff.1 hi).1
     have he:es[i]? = some (es[i]'(by rw [hG.len]; exact hil)):=List.getElem?_eq_getElem _
     rw [hG.key i _ x he hi]
     intro e
     cases e
     exact zjg l1 _ (List.mem_of_getElem? he) rfl
    ·rcases part i x m h1' h2' with ⟨q1,q2⟩ | ⟨rfl,rfl⟩
     ·exact hG.key i x m q1 q2
     ·rfl
    ·rcases part i x m h1' h2' with ⟨q1,q2⟩ | ⟨rfl,rfl⟩
     ·exact hrows i x m q1 q2 (by cases hb:m.val.ownBlock; exact .inl rfl; exact .inr (by simp [Value.ownBlock])) _ _
     ·exact newrow w1 _ v' zs' hW h1 _ _
    ·rw [Array.getElem?_push] at h1' h2'
     by_cases a1:i = ms.size
     ·by_cases a2:j = ms.size
      ·omega
      ·rw [if_pos a1] at h1'; rw [if_neg a2] at h2'
       cases h1'
       rcases hold j m' h2' with q | q
       ·cases hb:v'.ownBlock with
        | none=>exact .inl rfl
        | some g=>exact .inr (by rw [q]; simp)
       ·cases hb:v'.ownBlock with
        | none=>exact .inl rfl
        | some g=>exact .inr (fun e=>q (by rw [hb,e]))
     ·by_cases a2:j = ms.size
      ·rw [if_neg a1] at h1'; rw [if_pos a2] at h2'
       cases h2'
       exact hold i m h1'
      ·rw [if_neg a1] at h1'; rw [if_neg a2] at h2'
       exact hG.apart i j m m' h1' h2' hij
 ·obtain ⟨e',n0,n1,n2,n3⟩:=zs2 l1
  rw [l3] at n0; cases n0
  have hvb:m.val.ownBlock ≠ some gm:=fun hb=>by
   have:=((hG.row j e m l3 l4).lt gm hb).1
   have:=hG.lt
   omega
  refine ⟨m.val,by unfold grV; rw [l1]; simp [l4],?_,by rw [n2]; exact hG.row j e m l3 l4,fun w1 v' zs' hW=>?_⟩
  ·simp [Instr.lookup,run_underlying ht,Go.MapKept.run_getObj_map hG.map,run_checkKey hkt hK,run_findKey hkt l6]
  ·obtain ⟨h1,hrows⟩:=back _ w1 v' zs' hW hvb
   refine ⟨ms.modify j fun x=>{ x with key:=.int .i64 q,val:=v' },c,?_,?_⟩
   ·simp [Instr.mapUpdate,run_underlying ht,Go.MapKept.run_getObj_map h1,run_checkKey hkt hK,run_findKey hkt l6,l4,l5,run_keyThatStays hK,Go.MapKept.run_setObj_map _ h1]
   ·have part:∀ (i:Nat) (m':MapEntry),(ms.modify j fun x=>{ x with key:=.int .i64 q,val:=v' })[i]? = some m'->(i ≠ j∧ms[i]? = some m')∨(i = j∧m'.key = .int .i64 q∧m'.val = v'):=by
     intro i m' h2
     rw [Array.getElem?_modify] at h2
     by_cases hi:j = i
     ·subst hi
      rw [if_pos rfl,l4] at h2
      cases h2
      exact .inr ⟨rfl,rfl,rfl⟩
     ·rw [if_neg hi] at h2
      exact .inl ⟨fun e=>hi e.symm,h2⟩
    have hold:∀ (k:Nat) (m':MapEntry),k ≠ j->ms[k]? = some m'->m'.val.ownBlock = none∨m'.val.ownBlock ≠ v'.ownBlock:=by
     intro k m' hkj hm'
     have hk:=(Array.getElem?_eq_some_iff.1 hm').1
     have hek:es[k]? = some (es[k]'(by rw [hG.len]; exact hk)):=List.getElem?_eq_getElem _
     rcases hG.apart k j m' m hm' l4 hkj with q | q
     ·exact .inl q
     ·rcases hW.loc with hl | ⟨g',hl,hge⟩
      ·exact .inr (by rw [hl]; exact q)
      ·cases hb:m'.val.ownBlock with
       | none=>exact .inl rfl
       | some g =>
        refine .inr fun e=>?_
        have hg:=((hG.row k _ m' hek hm').lt g hb).2
        rw [hl] at e; cases e; omega
    rw [n3]
    refine ⟨(heap_set h1).1,stamped_modify hG.st j _ (fun _ _=>rfl) (fun x _ hx=>by rw [l4] at hx; cases hx; exact l5.symm),hG.lt,by rw [List.length_set,Array.size_modify,hG.len],fun i x m' h1' h2'=>?_,fun i x m' h1' h2'=>?_,fun i k m' m'' h1' h2' hik=>?_⟩
    ·rcases part i m' h2' with ⟨q1,q2⟩ | ⟨rfl,q2,q3⟩
     ·rw [List.getElem?_set_ne (fun e=>q1 e.symm)] at h1'
      exact hG.key i x m' h1' q2
     ·rw [List.getElem?_set_self (List.getElem?_eq_some_iff.1 l3).1] at h1'
      cases h1'; exact q2
    ·rcases part i m' h2' with ⟨q1,q2⟩ | ⟨rfl,q2,q3⟩
     ·rw [List.getElem?_set_ne (fun e=>q1 e.symm)] at h1'
      exact hrows i x m' h1' q2 (hG.apart i j m' m q2 l4 q1) _ _
     ·rw [List.getElem?_set_self (List.getElem?_eq_some_iff.1 l3).1] at h1'
      cases h1'; rw [q3]; exact newrow w1 _ v' zs' hW h1 _ _
    ·rcases part i m' h1' with ⟨q1,q2⟩ | ⟨rfl,q2,q3⟩
     ·rcases part k m'' h2' with ⟨p1,p2⟩ | ⟨rfl,p2,p3⟩
      ·exact hG.apart i k m' m'' q2 p2 hik
      ·rw [p3]; exact hold i m' q1 q2
     ·rcases part k m'' h2' with ⟨p1,p2⟩ | ⟨rfl,p2,p3⟩
      ·rw [q3]
       rcases hold k m'' p1 p2 with q | q
       ·cases hb:v'.ownBlock with
        | none=>exact .inl rfl
        | some g=>exact .inr (by rw [q]; simp)
       ·cases hb:v'.ownBlock with
        | none=>exact .inl rfl
        | some g=>exact .inr (fun e=>q (by rw [hb,e]))
      ·exact absurd rfl hik
end
end Go.Proofs.YtlhblpbfhfhlpaaGreat
