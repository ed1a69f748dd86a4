/-
  Part 16 of a proof: SyG, SyH, SyI, SyK.
-/
import Derived.Test.YtlhblpbfhfhlpaaGreatDoorSB15
set_option linter.unusedVariables false
set_option linter.unusedSimpArgs false
set_option maxRecDepth 100000
attribute [local go_sem] reduceCtorEq Nat.reduceEqDiff Nat.reduceBEq Nat.reduceAdd Nat.reduceSub Nat.reduceMul Nat.reduceLT Nat.reduceLeDiff Nat.reduceBNe Int.reduceBEq Int.reduceBNe Int.reduceLT Int.reduceLE
attribute [local go_sem ↓] reduceIte
namespace Go.Proofs.YtlhblpbfhfhlpaaGreatDoor
attribute [local go_sem] Msg.a Par.a
section
open Go.RowKit
attribute [local go_sem ↓] z1y z0n
structure Frm where
 clock:Int
 holds:List Hld
 nodes:List Nd
 events:List Evt
def Frm.a (x:Frm):AV:=.agg [.int .i64 x.clock,.sl (x.holds.map Hld.a),.sl (x.nodes.map Nd.a),.sl (x.events.map Evt.a)]
structure Frm.ok (x:Frm):Prop where
 clock:(-9223372036854775808≤x.clock∧x.clock≤9223372036854775807)
 holds:(x.holds.length≤281474976710656∧∀ z,z ∈ x.holds->z.ok)
 nodes:(x.nodes.length≤281474976710656∧∀ z,z ∈ x.nodes->z.ok)
 events:(x.events.length≤281474976710656∧∀ z,z ∈ x.events->z.ok)
def FrmT:Ty:=.st [.int .i64,.sl HldT,.sl NdT,.sl EvtT]
theorem Frm.of {c:List AV} (h:TypedC FrmT c):∃ x:Frm,AV.agg c = x.a∧x.ok:=by
 obtain ⟨c0,r0,rfl,h0,h⟩:=z06 h
 obtain ⟨c1,r1,rfl,h1,h⟩:=z06 h
 obtain ⟨c2,r2,rfl,h2,h⟩:=z06 h
 obtain ⟨c3,r3,rfl,h3,h⟩:=z06 h
 obtain rfl:=z5b h
 obtain ⟨v0,rfl,b0⟩:=z0e h0
 obtain ⟨v1,rfl,b1⟩:=zb3 Hld.a Hld.ok h1 (fun c hc=>Hld.of hc)
 obtain ⟨v2,rfl,b2⟩:=zb3 Nd.a Nd.ok h2 (fun c hc=>Nd.of hc)
 obtain ⟨v3,rfl,b3⟩:=zb3 Evt.a Evt.ok h3 (fun c hc=>Evt.of hc)
 exact ⟨⟨v0,v1,v2,v3⟩,rfl,⟨b0,b1,b2,b3⟩⟩
def zjp:List ROp:=[⟨.box 4 26 (.t 0),some 2,none,[3],[]⟩,⟨.box 4 26 (.t 1),some 3,none,[],[]⟩,⟨.mv (.c (.str ⟨#[]⟩)),some 4,none,[],[]⟩]
def r_sbt_0:Reg:=⟨[],zjp,[2,3],[],false⟩
def zjo:List ROp:=[⟨.callv (.c (.clo 19 [] [])) [(.t 16),(.t 18)],some 19,none,[20,21,22],[]⟩,⟨.bsl 1 45 [(.t 9),(.t 14),(.t 19)],some 20,none,[21,22],[]⟩,⟨.callv (.c (.clo 16 [] [])) [(.t 20)],some 21,none,[22],[]⟩,⟨.callv (.c (.clo 15 [] [])) [(.t 21),(.c (.str ⟨#[32]⟩))],some 22,none,[],[]⟩,⟨.mv (.t 22),some 4,none,[],[]⟩]
def zlk:List ROp:=[⟨.faddr 1 (.t 2),some 5,none,[9,14,19,20,21,22],[]⟩,⟨.load 1 false (.t 5),some 6,none,[9,14,19,20,21,22],[]⟩,⟨.faddr 1 (.t 3),some 7,none,[9,14,19,20,21,22],[]⟩,⟨.load 1 false (.t 7),some 8,none,[9,14,19,20,21,22],[]⟩,⟨.callv (.c (.clo 17 [] [])) [(.t 6),(.t 8)],some 9,none,[14,19,20,21,22],[]⟩,⟨.faddr 2 (.t 2),some 10,none,[9,14,19,20,21,22],[]⟩,⟨.load 1 false (.t 10),some 11,none,[9,14,19,20,21,22],[]⟩,⟨.faddr 2 (.t 3),some 12,none,[9,14,19,20,21,22],[]⟩,⟨.load 1 false (.t 12),some 13,none,[9,14,19,20,21,22],[]⟩,⟨.callv (.c (.clo 18 [] [])) [(.t 11),(.t 13)],some 14,none,[19,20,21,22],[]⟩,⟨.faddr 3 (.t 2),some 15,none,[9,14,19,20,21,22],[]⟩,⟨.load 1 false (.t 15),some 16,none,[9,14,19,20,21,22],[]⟩,⟨.faddr 3 (.t 3),some 17,none,[9,14,19,20,21,22],[]⟩,⟨.load 1 false (.t 17),some 18,none,[9,14,19,20,21,22],[]⟩]
def r_sbt_1:Reg:=⟨zlk,zjo,[9,14,19,20,21,22],[],true⟩
def ir_sbt:IR:=(.seq (.reg r_sbt_0)
 (.seq (.reg r_sbt_1)
 .ret))
def res_sbt:List RDesc:=[(.tmp 4)]
theorem e_sbt_0:EqR r_sbt_0 zjp [2,3]:=fun _ _ _=>rfl
theorem e_sbt_1 (C:FuncId->List AV->AV->Prop) (σ:St) (K:St->Prop):z1d C r_sbt_1 σ K = z07 C [] zjo zlk (σ.kills [9,14,19,20,21,22]) K:=rfl
theorem fn_sbt {args:List AV} {r:AV} (ha:args.length.ble Tryz.f6.ntmps = true) (h:run (AFn Tryz.prog) ir_sbt (endQ res_sbt r) (z0h args)):AFn Tryz.prog 6 args r :=
 AFn.of_code (pv:=false) (hint:=fun _=>[]) (c:=Tryz.f6.body.getD .skip) (by kernel_rfl) (by kernel_rfl) Tryz.func6 (by kernel_rfl) (by kernel_rfl) (by kernel_rfl) (of_decide_eq_true (by kernel_rfl)) (Nat.le_of_ble_eq_true ha) (Nat.le_of_ble_eq_true (by kernel_rfl)) (z0g h)
attribute [local go_sem ↓] ir_sbt
attribute [local go_sem] res_sbt e_sbt_0 zjp e_sbt_1 zjo zlk
theorem zkz {Pr:Nat->Nat->Prop} {base:Nat} {w:World} {l:List ByteArray} {v:Value} (h:w.ownsRow base 9 1 v l.length (l.map Value.string)):OwnRes Pr base w 1 9 (l.map .str) v:=by
 refine ⟨by omega,fun d hd=>?_,?_⟩
 ·obtain ⟨x,_,rfl⟩:=List.mem_map.1 hd
  exact ⟨rfl,fun c hc=>by rw [List.mem_singleton.1 hc]; rfl⟩
 ·rcases h.2 with ⟨rfl,h0⟩ | ⟨g,cap,cur,rfl,hb,hg,hc,hm,hs,ht⟩
  ·left
   rw [List.length_eq_zero_iff.1 h0]
   exact ⟨rfl,rfl⟩
  ·right
   refine ⟨g,cap,cur,by rw [List.length_map],hb,hg,hs.symm,by rw [List.length_map]; exact hc,hm,fun i d j c h1 h2=>?_⟩
   rw [List.getElem?_map] at h1
   obtain ⟨x,h3,rfl⟩:=Option.map_eq_some_iff.1 h1
   match j,h2 with
   | 0,h2 =>
    cases h2
    have hi:=(List.getElem?_eq_some_iff.1 h3).1
    refine ⟨.string x,?_,.str _⟩
    have e1:cur[i * 1 + 0]? = (cur.toList.take (l.length * 1))[i * 1 + 0]?:=by
     rw [List.getElem?_take_of_lt (by omega),Array.getElem?_toList]
    rw [e1,ht,List.getElem?_map,Nat.mul_one,Nat.add_zero,h3]
    rfl
   | j + 1,h2=>simp [AV.cells] at h2
theorem cat_ok (al bl cl:List ByteArray) (h1:al.length≤100000) (h2:bl.length≤100000) (h3:cl.length≤300000):AFn Tryz.prog 16 [.sl [.sl (al.map .str),.sl (bl.map .str),.sl (cl.map .str)]] (.own 1 9 ((al ++ bl ++ cl).map .str)):=by
 refine ⟨by kernel_rfl,fun w Pr vs hG hPr hlen hvs=>?_⟩
 match vs,hlen with
 | [v0],_ =>
  have h:=hvs 0 _ v0 rfl rfl
  cases h with
  | sl _ A cap z u hcap hmax hA hh =>
   obtain ⟨b,off,rfl,hL⟩:=hA (by simp)
   have hz:z = 1:=(hL.len _ (List.mem_cons_self ..)).symm
   subst hz
   have c0:=(hL.at_ 0 0 (by simp) (by omega)).2
   have c1:=(hL.at_ 1 0 (by simp) (by omega)).2
   have c2:=(hL.at_ 2 0 (by simp) (by omega)).2
   have r0:=RdS.of (hh 0 _ 0 _ rfl rfl)
   have r1:=RdS.of (hh 1 _ 0 _ rfl rfl)
   have r2:=RdS.of (hh 2 _ 0 _ rfl rfl)
   refine (zfj b off _ _ _ cap al bl cl w hL.lt c0 c1 c2 r0 r1 r2 h1 h2 h3).mono ?_
   rintro e w' ⟨v,rfl,hB,hO⟩
   refine ⟨v,rfl,hB,zkz ?_⟩
   rw [List.length_append,List.length_append]
   exact hO
def z1i (a b:Frm):List ByteArray:=z3x a.holds b.holds ++ z3m a.nodes b.nodes ++ z26 a.events b.events
theorem ze0 (h:Hld) (ho:h.ok):(z2b h).size≤100:=by
 have:=zlc ⟨#[43]⟩ h ho
 have e1:(⟨#[43]⟩:ByteArray).size = 1:=rfl
 have e2:(⟨#[119]⟩:ByteArray).size = 1:=rfl
 have e3:(⟨#[114]⟩:ByteArray).size = 1:=rfl
 unfold z2b
 rw [ByteArray.size_append]
 split <;> omega
theorem z9z (h:Hld) (ho:h.ok):(z1z h).size≤100:=by
 have:=zlc ⟨#[45]⟩ h ho
 have e1:(⟨#[45]⟩:ByteArray).size = 1:=rfl
 unfold z1z
 omega
theorem ndW_le (n:Nd) (ho:n.ok):(ndW n).size≤100:=by
 have:=z2d n.slot ho.slot
 have e1:(⟨#[126]⟩:ByteArray).size = 1:=rfl
 unfold ndW
 rw [ByteArray.size_append]
 omega
theorem evX_le (o:Option Evt) (i:Nat) (hi:i≤1000000) (e:Evt):∀ x,x ∈ evX o i e->x.size≤100:=by
 have h:=z2d (i:Int) (by unfold inI; omega)
 have h1:(zr8 i).size≤100:=by
  have e1:(⟨#[98,101,103,97,110,32]⟩:ByteArray).size = 6:=rfl
  unfold zr8; rw [ByteArray.size_append]; omega
 have h2:(zhn i).size≤100:=by
  have e1:(⟨#[112,111,105,110,116,32]⟩:ByteArray).size = 6:=rfl
  unfold zhn; rw [ByteArray.size_append]; omega
 have h3:(zio i).size≤100:=by
  have e1:(⟨#[101,110,100,101,100,32]⟩:ByteArray).size = 6:=rfl
  unfold zio; rw [ByteArray.size_append]; omega
 intro x hx
 cases o with
 | none =>
  simp only [evX] at hx
  rcases List.mem_append.1 hx with hx | hx
  ·rw [List.mem_singleton.1 hx]; exact h1
  ·rcases List.mem_append.1 hx with hx | hx
   ·split at hx
    ·rw [List.mem_singleton.1 hx]; exact h2
    ·cases hx
   ·split at hx
    ·rw [List.mem_singleton.1 hx]; exact h3
    ·cases hx
 | some y =>
  simp only [evX] at hx
  rcases List.mem_append.1 hx with hx | hx
  ·split at hx
   ·rw [List.mem_singleton.1 hx]; exact h2
   ·cases hx
  ·split at hx
   ·rw [List.mem_singleton.1 hx]; exact h3
   ·cases hx
theorem z7l (a:List Evt):∀ (l:List Evt) (i:Nat),i + l.length≤1000000->∀ x,x ∈ z09 a l i->x.size≤100
 | [],i,hi,x,hx=>by cases hx
 | e :: l,i,hi,x,hx=>by
  rw [List.length_cons] at hi
  rw [z09] at hx
  rcases List.mem_append.1 hx with hx | hx
  ·exact evX_le _ i (by omega) e x hx
  ·exact z7l a l (i + 1) (by omega) x hx
theorem zaa (a b:List Hld) (ha:∀ x,x ∈ a->x.ok) (hb:∀ x,x ∈ b->x.ok):∀ x,x ∈ z3x a b->x.size≤100:=fun x hx=>by
 rcases List.mem_append.1 hx with hx | hx
 ·obtain ⟨h,h1,rfl⟩:=List.mem_map.1 hx
  exact ze0 h (hb h (List.mem_filter.1 h1).1)
 ·obtain ⟨h,h1,rfl⟩:=List.mem_map.1 hx
  exact z9z h (ha h (List.mem_filter.1 h1).1)
theorem zhu (a b:List Nd) (hb:∀ x,x ∈ b->x.ok):∀ x,x ∈ z3m a b->x.size≤100:=fun x hx=>by
 obtain ⟨h,h1,rfl⟩:=List.mem_map.1 hx
 exact ndW_le h (hb h (List.mem_filter.1 h1).1)
theorem zch (a b:List Hld):(z3x a b).length≤a.length + b.length:=by
 have h1:=z2w a b
 have h2:=z2w b a
 unfold z3x
 rw [List.length_append,List.length_map,List.length_map]
 omega
theorem z7h (a b:List Nd):(z3m a b).length≤b.length:=by
 have h1:=ze3 a b
 unfold z3m
 rw [List.length_map]
 omega
structure Frm.few (x:Frm):Prop where
 ok:x.ok
 holds:x.holds.length≤10000
 nodes:x.nodes.length≤10000
 events:x.events.length≤10000
 thin:∀ n,n ∈ x.nodes->n.few
theorem zmi (a b:Frm) (ha:a.few) (hb:b.few):∀ x,x ∈ z1i a b->x.size≤100:=fun x hx=>by
 rcases List.mem_append.1 hx with hx | hx
 ·rcases List.mem_append.1 hx with hx | hx
  ·exact zaa _ _ ha.ok.holds.2 hb.ok.holds.2 x hx
  ·exact zhu _ _ hb.ok.nodes.2 x hx
 ·exact z7l _ _ 0 (by have:=hb.events; omega) x hx
theorem zix (a b:Frm) (ha:a.few) (hb:b.few):(z1i a b).length≤60000:=by
 have h1:=zch a.holds b.holds
 have h2:=z7h a.nodes b.nodes
 have h3:=z3f a.events b.events 0
 have:=ha.holds; have:=hb.holds; have:=hb.nodes; have:=hb.events
 unfold z1i z26
 rw [List.length_append,List.length_append]
 omega
theorem sum_le {k:Nat}:∀ {l:List Nat},(∀ x,x ∈ l->x≤k)->l.sum≤l.length * k
 | [],_=>by simp
 | x :: l,h=>by
  have h1:=h x (List.mem_cons_self ..)
  have h2:=sum_le (l:=l) fun y hy=>h y (List.mem_cons_of_mem _ hy)
  rw [List.sum_cons,List.length_cons,Nat.succ_mul]
  omega
set_option maxHeartbeats 4000000 in
theorem sbt_ok (a b:Frm) (ha:a.few) (hb:b.few):AFn Tryz.prog 6 [a.a,b.a] (.str (z4h (z1i a b) ⟨#[32]⟩)):=by
 refine fn_sbt rfl ?_
 have h1:=ha.holds; have h2:=hb.holds; have h3:=ha.nodes; have h4:=hb.nodes; have h5:=ha.events; have h6:=hb.events
 have ch:=shl_ok a.holds b.holds ha.ok.holds.2 hb.ok.holds.2 (by omega) (by omega)
 have cn:=snd_ok a.nodes b.nodes ha.thin (fun x hx=>⟨hb.thin x hx,(hb.ok.nodes.2 x hx).slot⟩) (by omega) (by omega)
 have ce:=sev_ok a.events b.events (by omega) (by omega)
 have l1:=zch a.holds b.holds
 have l2:=z7h a.nodes b.nodes
 have l3:=z3f a.events b.events 0
 have cc:=cat_ok (z3x a.holds b.holds) (z3m a.nodes b.nodes) (z26 a.events b.events) (by omega) (by omega) (by unfold z26; omega)
 have hl:=zix a b ha hb
 have cj:=join_ok (z1i a b) ⟨#[32]⟩ (by omega) (by
  refine Nat.le_trans (join_len _ _) (Nat.le_trans (sum_le (k:=101) fun x hx=>?_) ?_)
  ·obtain ⟨y,hy,rfl⟩:=List.mem_map.1 hx
   obtain ⟨z,hz,rfl⟩:=List.mem_map.1 hy
   have:=zmi a b ha hb z hz
   have e:z.data.toList.length = z.size:=rfl
   have e2:(⟨#[32]⟩:ByteArray).data.toList.length = 1:=rfl
   omega
  ·rw [List.length_map,List.length_map]
   omega)
 have hbw:z3x a.holds b.holds ++ z3m a.nodes b.nodes ++ z26 a.events b.events = z1i a b:=rfl
 rw [hbw] at cc
 simp only [Frm.a]
 (repeat (first | simp (maxSteps:=9^7) only [go_sem,Frm.a,List.take_length] | refine z01 (ch) ?_ | refine z00 (ch) ?_ | refine z01 (cn) ?_ | refine z00 (cn) ?_ | refine z01 (ce) ?_ | refine z00 (ce) ?_ | refine z01 (cc) ?_ | refine z00 (cc) ?_ | refine z01 (cj) ?_ | refine z00 (cj) ?_ | refine And.intro (by omega) ?_ | refine And.intro (fun d hd=>by (repeat (rcases hd with rfl | hd; · exact ⟨rfl,rfl⟩)); cases hd) ?_))
end
section
open Go.RowKit
attribute [local go_sem ↓] z1y z0n
def z8w:List ROp:=[⟨.box 4 26 (.t 0),some 2,none,[3],[]⟩,⟨.box 4 26 (.t 1),some 3,none,[],[]⟩,⟨.mv (.c (.str ⟨#[]⟩)),some 4,none,[],[]⟩]
def r_rbt_0:Reg:=⟨[],z8w,[2,3],[],false⟩
def r_rbt_1:Reg:=⟨[],[⟨.mv (.c (.str ⟨#[]⟩)),some 5,none,[],[]⟩],[],[],false⟩
def z8v:List ROp:=[⟨.faddr 1 (.t 3),some 19,none,[],[]⟩,⟨.load 1 false (.t 19),some 20,none,[],[]⟩,⟨.len false (.t 20),some 21,none,[],[]⟩,⟨.mv (.c (.int .i64 0)),some 22,none,[],[]⟩]
def r_rbt_2:Reg:=⟨[],z8v,[],[],false⟩
def r_rbt_3:Reg:=⟨[],[⟨.bin .lss (.t 22) (.t 21),some 23,none,[],[]⟩],[],[],false⟩
def z8u:List ROp:=[⟨.iaddr 3 (.t 20) (.t 22),some 24,none,[7],[]⟩,⟨.load 3 true (.t 24),some 25,none,[7],[]⟩,⟨.alloc 3 53 (.agg [(.int .i64 0),(.int .i64 0),(.bool false)]),some 7,none,[],[]⟩,⟨.store 3 (.t 7) (.t 25),none,none,[],[]⟩]
def r_rbt_4:Reg:=⟨[],z8u,[7],[],false⟩
def z8t:List ROp:=[⟨.bin .add (.t 30) (.t 33),some 34,none,[],[]⟩,⟨.bin .add (.t 34) (.c (.str ⟨#[114]⟩)),some 35,none,[],[]⟩,⟨.mv (.t 35),some 8,none,[],[]⟩]
def zad:List ROp:=[⟨.faddr 0 (.t 7),some 26,none,[28,33],[]⟩,⟨.load 1 false (.t 26),some 27,none,[28,33],[]⟩,⟨.callv (.c (.clo 20 [] [])) [(.t 27)],some 28,none,[33],[]⟩,⟨.bin .add (.c (.str ⟨#[43]⟩)) (.t 28),some 29,none,[33],[]⟩,⟨.bin .add (.t 29) (.c (.str ⟨#[46]⟩)),some 30,none,[33],[]⟩,⟨.faddr 1 (.t 7),some 31,none,[28,33],[]⟩,⟨.load 1 false (.t 31),some 32,none,[28,33],[]⟩,⟨.callv (.c (.clo 20 [] [])) [(.t 32)],some 33,none,[],[]⟩]
def r_rbt_5:Reg:=⟨zad,z8t,[28,33],[],true⟩
def r_rbt_6:Reg:=⟨[],[⟨.faddr 2 (.t 7),some 36,none,[],[]⟩,⟨.load 1 false (.t 36),some 37,none,[],[]⟩],[],[],false⟩
def z8s:List ROp:=[⟨.bin .add (.t 42) (.t 45),some 46,none,[],[]⟩,⟨.bin .add (.t 46) (.c (.str ⟨#[119]⟩)),some 47,none,[],[]⟩,⟨.mv (.t 47),some 8,none,[],[]⟩]
def zac:List ROp:=[⟨.faddr 0 (.t 7),some 38,none,[40,45],[]⟩,⟨.load 1 false (.t 38),some 39,none,[40,45],[]⟩,⟨.callv (.c (.clo 20 [] [])) [(.t 39)],some 40,none,[45],[]⟩,⟨.bin .add (.c (.str ⟨#[43]⟩)) (.t 40),some 41,none,[45],[]⟩,⟨.bin .add (.t 41) (.c (.str ⟨#[46]⟩)),some 42,none,[45],[]⟩,⟨.faddr 1 (.t 7),some 43,none,[40,45],[]⟩,⟨.load 1 false (.t 43),some 44,none,[40,45],[]⟩,⟨.callv (.c (.clo 20 [] [])) [(.t 44)],some 45,none,[],[]⟩]
def r_rbt_7:Reg:=⟨zac,z8s,[40,45],[],true⟩
def z8r:List ROp:=[⟨.faddr 1 (.t 2),some 48,none,[51],[]⟩,⟨.load 1 false (.t 48),some 49,none,[51],[]⟩,⟨.load 3 true (.t 7),some 50,none,[51],[]⟩,⟨.callv (.c (.clo 21 [] [])) [(.t 49),(.t 50)],some 51,none,[],[]⟩,⟨.un .not (.t 51),some 52,none,[],[]⟩]
def r_rbt_8:Reg:=⟨[],z8r,[51],[],false⟩
def z8q:List ROp:=[⟨.mv (.t 5),some 53,none,[55],[]⟩,⟨.mv (.t 8),some 54,none,[55],[]⟩,⟨.callv (.c (.clo 22 [] [])) [(.t 53),(.t 54)],some 55,none,[],[]⟩,⟨.mv (.t 55),some 5,none,[],[]⟩]
def r_rbt_9:Reg:=⟨[],z8q,[55],[],false⟩
def zo8:Reg:=⟨[],[⟨.bin .add (.t 22) (.c (.int .i64 1)),some 56,none,[],[]⟩,⟨.mv (.t 56),some 22,none,[],[]⟩],[],[],false⟩
def z9j:IR:=(.seq (.reg r_rbt_3)
 (.seq (.cond (.t 23) .skip
 (.exit 0))
 (.seq (.block 1 (.seq (.reg r_rbt_4)
 (.seq (.reg r_rbt_5)
 (.seq (.seq (.reg r_rbt_6)
 (.cond (.t 37) (.reg r_rbt_7)
 .skip))
 (.seq (.reg r_rbt_8)
 (.cond (.t 52) (.reg r_rbt_9)
 .skip))))))
 (.reg zo8))))
def z6d:List ROp:=[⟨.faddr 1 (.t 2),some 57,none,[],[]⟩,⟨.load 1 false (.t 57),some 58,none,[],[]⟩,⟨.len false (.t 58),some 59,none,[],[]⟩,⟨.mv (.c (.int .i64 0)),some 60,none,[],[]⟩]
def zo7:Reg:=⟨[],z6d,[],[],false⟩
def zo6:Reg:=⟨[],[⟨.bin .lss (.t 60) (.t 59),some 61,none,[],[]⟩],[],[],false⟩
def z6c:List ROp:=[⟨.iaddr 3 (.t 58) (.t 60),some 62,none,[10],[]⟩,⟨.load 3 true (.t 62),some 63,none,[10],[]⟩,⟨.alloc 3 53 (.agg [(.int .i64 0),(.int .i64 0),(.bool false)]),some 10,none,[],[]⟩,⟨.store 3 (.t 10) (.t 63),none,none,[],[]⟩]
def zo5:Reg:=⟨[],z6c,[10],[],false⟩
def z6b:List ROp:=[⟨.faddr 1 (.t 3),some 64,none,[67],[]⟩,⟨.load 1 false (.t 64),some 65,none,[67],[]⟩,⟨.load 3 true (.t 10),some 66,none,[67],[]⟩,⟨.callv (.c (.clo 21 [] [])) [(.t 65),(.t 66)],some 67,none,[],[]⟩,⟨.un .not (.t 67),some 68,none,[],[]⟩]
def zo4:Reg:=⟨[],z6b,[67],[],false⟩
def z6r:List ROp:=[⟨.mv (.t 5),some 69,none,[72,77,79],[]⟩,⟨.faddr 0 (.t 10),some 70,none,[72,77,79],[]⟩,⟨.load 1 false (.t 70),some 71,none,[72,77,79],[]⟩,⟨.callv (.c (.clo 20 [] [])) [(.t 71)],some 72,none,[77,79],[]⟩,⟨.bin .add (.c (.str ⟨#[45]⟩)) (.t 72),some 73,none,[77,79],[]⟩,⟨.bin .add (.t 73) (.c (.str ⟨#[46]⟩)),some 74,none,[77,79],[]⟩,⟨.faddr 1 (.t 10),some 75,none,[72,77,79],[]⟩,⟨.load 1 false (.t 75),some 76,none,[72,77,79],[]⟩,⟨.callv (.c (.clo 20 [] [])) [(.t 76)],some 77,none,[79],[]⟩,⟨.bin .add (.t 74) (.t 77),some 78,none,[79],[]⟩]
def zo3:Reg:=⟨z6r,[⟨.callv (.c (.clo 22 [] [])) [(.t 69),(.t 78)],some 79,none,[],[]⟩,⟨.mv (.t 79),some 5,none,[],[]⟩],[72,77,79],[],true⟩
def zo2:Reg:=⟨[],[⟨.bin .add (.t 60) (.c (.int .i64 1)),some 80,none,[],[]⟩,⟨.mv (.t 80),some 60,none,[],[]⟩],[],[],false⟩
def z9i:IR:=(.seq (.reg zo6)
 (.seq (.cond (.t 61) .skip
 (.exit 2))
 (.seq (.block 3 (.seq (.reg zo5)
 (.seq (.reg zo4)
 (.cond (.t 68) (.reg zo3)
 .skip))))
 (.reg zo2))))
def z6a:List ROp:=[⟨.faddr 2 (.t 3),some 81,none,[],[]⟩,⟨.load 1 false (.t 81),some 82,none,[],[]⟩,⟨.len false (.t 82),some 83,none,[],[]⟩,⟨.mv (.c (.int .i64 0)),some 84,none,[],[]⟩]
def zo1:Reg:=⟨[],z6a,[],[],false⟩
def zo0:Reg:=⟨[],[⟨.bin .lss (.t 84) (.t 83),some 85,none,[],[]⟩],[],[],false⟩
def z69:List ROp:=[⟨.iaddr 10 (.t 82) (.t 84),some 86,none,[12],[]⟩,⟨.load 10 true (.t 86),some 87,none,[12],[]⟩,⟨.alloc 10 60 (.agg [(.int .i64 0),(.int .i64 0),(.sl []),(.sl []),(.str ⟨#[]⟩),(.bool false),(.int .i64 0),(.int .i64 0),(.sl []),(.sl [])]),some 12,none,[],[]⟩,⟨.store 10 (.t 12) (.t 87),none,none,[],[]⟩]
def znz:Reg:=⟨[],z69,[12],[],false⟩
def zny:Reg:=⟨[],[⟨.mv (.c (.bool false)),some 13,none,[],[]⟩],[],[],false⟩
def z68:List ROp:=[⟨.faddr 2 (.t 2),some 88,none,[],[]⟩,⟨.load 1 false (.t 88),some 89,none,[],[]⟩,⟨.len false (.t 89),some 90,none,[],[]⟩,⟨.mv (.c (.int .i64 0)),some 91,none,[],[]⟩]
def znx:Reg:=⟨[],z68,[],[],false⟩
def znw:Reg:=⟨[],[⟨.bin .lss (.t 91) (.t 90),some 92,none,[],[]⟩],[],[],false⟩
def z67:List ROp:=[⟨.iaddr 10 (.t 89) (.t 91),some 93,none,[15],[]⟩,⟨.load 10 true (.t 93),some 94,none,[15],[]⟩,⟨.alloc 10 60 (.agg [(.int .i64 0),(.int .i64 0),(.sl []),(.sl []),(.str ⟨#[]⟩),(.bool false),(.int .i64 0),(.int .i64 0),(.sl []),(.sl [])]),some 15,none,[],[]⟩,⟨.store 10 (.t 15) (.t 94),none,none,[],[]⟩]
def znv:Reg:=⟨[],z67,[15],[],false⟩
def z66:List ROp:=[⟨.mv (.t 13),some 95,none,[99],[]⟩,⟨.mv (.t 95),some 96,none,[99],[]⟩,⟨.load 10 true (.t 15),some 97,(some (96,false)),[99],[]⟩,⟨.load 10 true (.t 12),some 98,(some (96,false)),[99],[]⟩,⟨.callv (.c (.clo 23 [] [])) [(.t 97),(.t 98)],some 99,(some (96,false)),[],[]⟩,⟨.pick (.t 96) (.c (.bool true)) (.t 99),some 100,none,[],[]⟩,⟨.mv (.t 100),some 13,none,[],[]⟩]
def znu:Reg:=⟨[],z66,[99],[],false⟩
def znt:Reg:=⟨[],[⟨.bin .add (.t 91) (.c (.int .i64 1)),some 101,none,[],[]⟩,⟨.mv (.t 101),some 91,none,[],[]⟩],[],[],false⟩
def z9h:IR:=(.seq (.reg znw)
 (.seq (.cond (.t 92) .skip
 (.exit 6))
 (.seq (.block 7 (.seq (.reg znv)
 (.reg znu)))
 (.reg znt))))
def zns:Reg:=⟨[],[⟨.mv (.t 13),some 102,none,[],[]⟩,⟨.un .not (.t 102),some 103,none,[],[]⟩],[],[],false⟩
def z65:List ROp:=[⟨.mv (.t 5),some 104,none,[107,109],[]⟩,⟨.faddr 0 (.t 12),some 105,none,[107,109],[]⟩,⟨.load 1 false (.t 105),some 106,none,[107,109],[]⟩,⟨.callv (.c (.clo 20 [] [])) [(.t 106)],some 107,none,[109],[]⟩,⟨.bin .add (.c (.str ⟨#[126]⟩)) (.t 107),some 108,none,[109],[]⟩,⟨.callv (.c (.clo 22 [] [])) [(.t 104),(.t 108)],some 109,none,[],[]⟩,⟨.mv (.t 109),some 5,none,[],[]⟩]
def znr:Reg:=⟨[],z65,[107,109],[],false⟩
def znq:Reg:=⟨[],[⟨.bin .add (.t 84) (.c (.int .i64 1)),some 110,none,[],[]⟩,⟨.mv (.t 110),some 84,none,[],[]⟩],[],[],false⟩
def z9g:IR:=(.seq (.reg zo0)
 (.seq (.cond (.t 85) .skip
 (.exit 4))
 (.seq (.block 5 (.seq (.reg znz)
 (.seq (.reg zny)
 (.seq (.seq (.reg znx)
 (.block 6 (.loop z9h)))
 (.seq (.reg zns)
 (.cond (.t 103) (.reg znr)
 .skip))))))
 (.reg znq))))
def znp:Reg:=⟨[],[⟨.mv (.c (.int .i64 0)),some 16,none,[],[]⟩],[],[],false⟩
def z64:List ROp:=[⟨.mv (.t 16),some 111,none,[],[]⟩,⟨.faddr 3 (.t 3),some 112,none,[],[]⟩,⟨.load 1 false (.t 112),some 113,none,[],[]⟩,⟨.len false (.t 113),some 114,none,[],[]⟩,⟨.bin .lss (.t 111) (.t 114),some 115,none,[],[]⟩]
def zno:Reg:=⟨[],z64,[],[],false⟩
def znn:Reg:=⟨[],[⟨.mv (.c (.int .i64 0)),some 17,none,[],[]⟩,⟨.mv (.c (.bool false)),some 18,none,[],[]⟩],[],[],false⟩
def z63:List ROp:=[⟨.mv (.t 16),some 118,none,[],[]⟩,⟨.faddr 3 (.t 2),some 119,none,[],[]⟩,⟨.load 1 false (.t 119),some 120,none,[],[]⟩,⟨.len false (.t 120),some 121,none,[],[]⟩,⟨.bin .lss (.t 118) (.t 121),some 122,none,[],[]⟩]
def znm:Reg:=⟨[],z63,[],[],false⟩
def z62:List ROp:=[⟨.faddr 3 (.t 2),some 123,none,[],[]⟩,⟨.load 1 false (.t 123),some 124,none,[],[]⟩,⟨.mv (.t 16),some 125,none,[],[]⟩,⟨.iaddr 15 (.t 124) (.t 125),some 126,none,[],[]⟩,⟨.faddr 12 (.t 126),some 127,none,[],[]⟩,⟨.load 1 false (.t 127),some 128,none,[],[]⟩,⟨.mv (.t 128),some 17,none,[],[]⟩]
def znl:Reg:=⟨[],z62,[],[],false⟩
def z61:List ROp:=[⟨.faddr 3 (.t 2),some 129,none,[],[]⟩,⟨.load 1 false (.t 129),some 130,none,[],[]⟩,⟨.mv (.t 16),some 131,none,[],[]⟩,⟨.iaddr 15 (.t 130) (.t 131),some 132,none,[],[]⟩,⟨.faddr 14 (.t 132),some 133,none,[],[]⟩,⟨.load 1 false (.t 133),some 134,none,[],[]⟩,⟨.mv (.t 134),some 18,none,[],[]⟩]
def znk:Reg:=⟨[],z61,[],[],false⟩
def z60:List ROp:=[⟨.mv (.t 5),some 135,none,[137,139],[]⟩,⟨.mv (.t 16),some 136,none,[137,139],[]⟩,⟨.callv (.c (.clo 20 [] [])) [(.t 136)],some 137,none,[139],[]⟩,⟨.bin .add (.c (.str ⟨#[98,101,103,97,110,32]⟩)) (.t 137),some 138,none,[139],[]⟩,⟨.callv (.c (.clo 22 [] [])) [(.t 135),(.t 138)],some 139,none,[],[]⟩,⟨.mv (.t 139),some 5,none,[],[]⟩]
def znj:Reg:=⟨[],z60,[137,139],[],false⟩
def z5z:List ROp:=[⟨.faddr 3 (.t 3),some 140,none,[],[]⟩,⟨.load 1 false (.t 140),some 141,none,[],[]⟩,⟨.mv (.t 16),some 142,none,[],[]⟩,⟨.iaddr 15 (.t 141) (.t 142),some 143,none,[],[]⟩,⟨.faddr 12 (.t 143),some 144,none,[],[]⟩,⟨.load 1 false (.t 144),some 145,none,[],[]⟩,⟨.bin .neq (.t 145) (.c (.int .i64 0)),some 146,none,[],[]⟩,⟨.mv (.t 146),some 147,none,[],[]⟩,⟨.faddr 3 (.t 3),some 148,(some (147,true)),[],[]⟩,⟨.load 1 false (.t 148),some 149,(some (147,true)),[],[]⟩,⟨.mv (.t 16),some 150,(some (147,true)),[],[]⟩,⟨.iaddr 15 (.t 149) (.t 150),some 151,(some (147,true)),[],[]⟩,⟨.faddr 12 (.t 151),some 152,(some (147,true)),[],[]⟩,⟨.load 1 false (.t 152),some 153,(some (147,true)),[],[]⟩,⟨.mv (.t 17),some 154,(some (147,true)),[],[]⟩,⟨.bin .neq (.t 153) (.t 154),some 155,(some (147,true)),[],[]⟩,⟨.pick (.t 147) (.t 155) (.c (.bool false)),some 156,none,[],[]⟩]
def zni:Reg:=⟨[],z5z,[],[],false⟩
def z5y:List ROp:=[⟨.mv (.t 5),some 157,none,[159,161],[]⟩,⟨.mv (.t 16),some 158,none,[159,161],[]⟩,⟨.callv (.c (.clo 20 [] [])) [(.t 158)],some 159,none,[161],[]⟩,⟨.bin .add (.c (.str ⟨#[112,111,105,110,116,32]⟩)) (.t 159),some 160,none,[161],[]⟩,⟨.callv (.c (.clo 22 [] [])) [(.t 157),(.t 160)],some 161,none,[],[]⟩,⟨.mv (.t 161),some 5,none,[],[]⟩]
def znh:Reg:=⟨[],z5y,[159,161],[],false⟩
def z5x:List ROp:=[⟨.faddr 3 (.t 3),some 162,none,[],[]⟩,⟨.load 1 false (.t 162),some 163,none,[],[]⟩,⟨.mv (.t 16),some 164,none,[],[]⟩,⟨.iaddr 15 (.t 163) (.t 164),some 165,none,[],[]⟩,⟨.faddr 14 (.t 165),some 166,none,[],[]⟩,⟨.load 1 false (.t 166),some 167,none,[],[]⟩,⟨.mv (.t 167),some 168,none,[],[]⟩,⟨.mv (.t 18),some 169,(some (168,true)),[],[]⟩,⟨.un .not (.t 169),some 170,(some (168,true)),[],[]⟩,⟨.pick (.t 168) (.t 170) (.c (.bool false)),some 171,none,[],[]⟩]
def zng:Reg:=⟨[],z5x,[],[],false⟩
def z5w:List ROp:=[⟨.mv (.t 5),some 172,none,[174,176],[]⟩,⟨.mv (.t 16),some 173,none,[174,176],[]⟩,⟨.callv (.c (.clo 20 [] [])) [(.t 173)],some 174,none,[176],[]⟩,⟨.bin .add (.c (.str ⟨#[101,110,100,101,100,32]⟩)) (.t 174),some 175,none,[176],[]⟩,⟨.callv (.c (.clo 22 [] [])) [(.t 172),(.t 175)],some 176,none,[],[]⟩,⟨.mv (.t 176),some 5,none,[],[]⟩]
def znf:Reg:=⟨[],z5w,[174,176],[],false⟩
def z5v:List ROp:=[⟨.mv (.t 16),some 116,none,[],[]⟩,⟨.bin .add (.t 116) (.c (.int .i64 1)),some 117,none,[],[]⟩,⟨.mv (.t 117),some 16,none,[],[]⟩]
def zne:Reg:=⟨[],z5v,[],[],false⟩
def z9f:IR:=(.seq (.seq (.reg zno)
 (.cond (.t 115) .skip
 (.exit 8)))
 (.seq (.block 9 (.seq (.reg znn)
 (.seq (.seq (.reg znm)
 (.cond (.t 122) (.seq (.reg znl)
 (.reg znk))
 (.reg znj)))
 (.seq (.seq (.reg zni)
 (.cond (.t 156) (.reg znh)
 .skip))
 (.seq (.reg zng)
 (.cond (.t 171) (.reg znf)
 .skip))))))
 (.reg zne)))
def znd:Reg:=⟨[],[⟨.mv (.t 5),some 177,none,[],[]⟩,⟨.mv (.t 177),some 4,none,[],[]⟩],[],[],false⟩
def zqc:IR:=(.seq (.reg r_rbt_0)
 (.seq (.reg r_rbt_1)
 (.seq (.seq (.reg r_rbt_2)
 (.block 0 (.loop z9j)))
 (.seq (.seq (.reg zo7)
 (.block 2 (.loop z9i)))
 (.seq (.seq (.reg zo1)
 (.block 4 (.loop z9g)))
 (.seq (.seq (.reg znp)
 (.block 8 (.loop z9f)))
 (.seq (.reg znd)
 .ret)))))))
def zdv:List RDesc:=[(.tmp 4)]
theorem zm9:EqR r_rbt_0 z8w [2,3]:=fun _ _ _=>rfl
theorem zm8:EqR r_rbt_1 [⟨.mv (.c (.str ⟨#[]⟩)),some 5,none,[],[]⟩] []:=fun _ _ _=>rfl
theorem zm7:EqR r_rbt_2 z8v []:=fun _ _ _=>rfl
theorem zm6:EqR r_rbt_3 [⟨.bin .lss (.t 22) (.t 21),some 23,none,[],[]⟩] []:=fun _ _ _=>rfl
theorem zm5:EqR r_rbt_4 z8u [7]:=fun _ _ _=>rfl
theorem zm4 (C:FuncId->List AV->AV->Prop) (σ:St) (K:St->Prop):z1d C r_rbt_5 σ K = z07 C [] z8t zad (σ.kills [28,33]) K:=rfl
theorem zm3:EqR r_rbt_6 [⟨.faddr 2 (.t 7),some 36,none,[],[]⟩,⟨.load 1 false (.t 36),some 37,none,[],[]⟩] []:=fun _ _ _=>rfl
theorem zm2 (C:FuncId->List AV->AV->Prop) (σ:St) (K:St->Prop):z1d C r_rbt_7 σ K = z07 C [] z8s zac (σ.kills [40,45]) K:=rfl
theorem zm1:EqR r_rbt_8 z8r [51]:=fun _ _ _=>rfl
theorem zm0:EqR r_rbt_9 z8q [55]:=fun _ _ _=>rfl
theorem zfi:EqR zo8 [⟨.bin .add (.t 22) (.c (.int .i64 1)),some 56,none,[],[]⟩,⟨.mv (.t 56),some 22,none,[],[]⟩] []:=fun _ _ _=>rfl
theorem zfh:EqR zo7 z6d []:=fun _ _ _=>rfl
theorem zfg:EqR zo6 [⟨.bin .lss (.t 60) (.t 59),some 61,none,[],[]⟩] []:=fun _ _ _=>rfl
theorem zff:EqR zo5 z6c [10]:=fun _ _ _=>rfl
theorem zfe:EqR zo4 z6b [67]:=fun _ _ _=>rfl
theorem zfd (C:FuncId->List AV->AV->Prop) (σ:St) (K:St->Prop):z1d C zo3 σ K = z07 C [] [⟨.callv (.c (.clo 22 [] [])) [(.t 69),(.t 78)],some 79,none,[],[]⟩,⟨.mv (.t 79),some 5,none,[],[]⟩] z6r (σ.kills [72,77,79]) K:=rfl
theorem zfc:EqR zo2 [⟨.bin .add (.t 60) (.c (.int .i64 1)),some 80,none,[],[]⟩,⟨.mv (.t 80),some 60,none,[],[]⟩] []:=fun _ _ _=>rfl
theorem zfb:EqR zo1 z6a []:=fun _ _ _=>rfl
theorem zfa:EqR zo0 [⟨.bin .lss (.t 84) (.t 83),some 85,none,[],[]⟩] []:=fun _ _ _=>rfl
theorem zf9:EqR znz z69 [12]:=fun _ _ _=>rfl
theorem zf8:EqR zny [⟨.mv (.c (.bool false)),some 13,none,[],[]⟩] []:=fun _ _ _=>rfl
theorem zf7:EqR znx z68 []:=fun _ _ _=>rfl
theorem zf6:EqR znw [⟨.bin .lss (.t 91) (.t 90),some 92,none,[],[]⟩] []:=fun _ _ _=>rfl
theorem zf5:EqR znv z67 [15]:=fun _ _ _=>rfl
theorem zf4:EqR znu z66 [99]:=fun _ _ _=>rfl
theorem zf3:EqR znt [⟨.bin .add (.t 91) (.c (.int .i64 1)),some 101,none,[],[]⟩,⟨.mv (.t 101),some 91,none,[],[]⟩] []:=fun _ _ _=>rfl
theorem zf2:EqR zns [⟨.mv (.t 13),some 102,none,[],[]⟩,⟨.un .not (.t 102),some 103,none,[],[]⟩] []:=fun _ _ _=>rfl
theorem zf1:EqR znr z65 [107,109]:=fun _ _ _=>rfl
theorem zf0:EqR znq [⟨.bin .add (.t 84) (.c (.int .i64 1)),some 110,none,[],[]⟩,⟨.mv (.t 110),some 84,none,[],[]⟩] []:=fun _ _ _=>rfl
theorem zez:EqR znp [⟨.mv (.c (.int .i64 0)),some 16,none,[],[]⟩] []:=fun _ _ _=>rfl
theorem zey:EqR zno z64 []:=fun _ _ _=>rfl
theorem zex:EqR znn [⟨.mv (.c (.int .i64 0)),some 17,none,[],[]⟩,⟨.mv (.c (.bool false)),some 18,none,[],[]⟩] []:=fun _ _ _=>rfl
theorem zew:EqR znm z63 []:=fun _ _ _=>rfl
theorem zev:EqR znl z62 []:=fun _ _ _=>rfl
theorem zeu:EqR znk z61 []:=fun _ _ _=>rfl
theorem zet:EqR znj z60 [137,139]:=fun _ _ _=>rfl
theorem zes:EqR zni z5z []:=fun _ _ _=>rfl
theorem zer:EqR znh z5y [159,161]:=fun _ _ _=>rfl
theorem zeq:EqR zng z5x []:=fun _ _ _=>rfl
theorem zep:EqR znf z5w [174,176]:=fun _ _ _=>rfl
theorem zeo:EqR zne z5v []:=fun _ _ _=>rfl
theorem zen:EqR znd [⟨.mv (.t 5),some 177,none,[],[]⟩,⟨.mv (.t 177),some 4,none,[],[]⟩] []:=fun _ _ _=>rfl
theorem fn_rbt {args:List AV} {r:AV} (ha:args.length.ble Tryz.f7.ntmps = true) (h:run (AFn Tryz.prog) zqc (endQ zdv r) (z0h args)):AFn Tryz.prog 7 args r :=
 AFn.of_code (pv:=false) (hint:=fun _=>[]) (c:=Tryz.f7.body.getD .skip) (by kernel_rfl) (by kernel_rfl) Tryz.func7 (by kernel_rfl) (by kernel_rfl) (by kernel_rfl) (of_decide_eq_true (by kernel_rfl)) (Nat.le_of_ble_eq_true ha) (Nat.le_of_ble_eq_true (by kernel_rfl)) (z0g h)
attribute [local go_sem ↓] zqc
attribute [local go_sem] zdv zm9 z8w zm8 zm7 z8v zm6 zm5 z8u zm4 z8t zad zm3 zm2 z8s zac zm1 z8r zm0 z8q zfi zfh z6d zfg zff z6c zfe z6b zfd z6r zfc zfb z6a zfa zf9 z69 zf8 zf7 z68 zf6 zf5 z67 zf4 z66 zf3 zf2 zf1 z65 zf0 zez zey z64 zex zew z63 zev z62 zeu z61 zet z60 zes z5z zer z5y zeq z5x zep z5w zeo z5v zen
def addL (s:ByteArray) (l:List ByteArray):ByteArray:=l.foldl addS s
theorem zay (s:ByteArray) (l:List ByteArray) (w:ByteArray):addL s (l ++ [w]) = addS (addL s l) w:=by
 unfold addL
 rw [List.foldl_append]
 rfl
theorem z0i (s:ByteArray) (l r:List ByteArray):addL s (l ++ r) = addL (addL s l) r:=by
 unfold addL
 rw [List.foldl_append]
theorem z1r (s w:ByteArray):(addS s w).size≤s.size + w.size + 1:=by
 have e1:(⟨#[32]⟩:ByteArray).size = 1:=rfl
 unfold addS
 split
 ·omega
 ·rw [ByteArray.size_append,ByteArray.size_append]
  omega
theorem z50:∀ (l:List ByteArray) (s:ByteArray),(∀ x,x ∈ l->x.size≤100)->(addL s l).size≤s.size + 101 * l.length
 | [],s,h=>by simp [addL]
 | x :: l,s,h=>by
  have h1:=z1r s x
  have h2:=h x (List.mem_cons_self ..)
  have h3:=z50 l (addS s x) fun y hy=>h y (List.mem_cons_of_mem _ hy)
  have e:addL s (x :: l) = addL (addS s x) l:=rfl
  rw [e,List.length_cons]
  omega
theorem zj1:∀ (l:List ByteArray) (s:ByteArray),s.data.toList ≠ []->(addL s l).data.toList = s.data.toList ++ Lib.joinTail [32] (l.map (·.data.toList))
 | [],s,h=>by simp [addL,Lib.joinTail]
 | x :: l,s,h=>by
  have e:addL s (x :: l) = addL (addS s x) l:=rfl
  have hs:addS s x = s ++ ⟨#[32]⟩ ++ x:=by
   unfold addS
   rw [if_neg]
   rw [beq_iff_eq]
   intro q
   rw [ByteArray.toList_eq,ByteArray.toList_eq] at q
   exact h q
  have hd:(addS s x).data.toList = s.data.toList ++ 32 :: x.data.toList:=by
   rw [hs]
   simp only [ByteArray.data_append,Array.toList_append,List.append_assoc]
   rfl
  rw [e,zj1 l (addS s x) (by rw [hd]; simp),hd,List.map_cons]
  simp [Lib.joinTail]
theorem addL_join (l:List ByteArray) (h:∀ x,x ∈ l->x.data.toList ≠ []):addL ⟨#[]⟩ l = z4h l ⟨#[32]⟩:=by
 cases l with
 | nil=>rfl
 | cons x l =>
  have e0:addS ⟨#[]⟩ x = x:=by unfold addS; rw [if_pos (beq_self_eq_true _)]
  have e:addL ⟨#[]⟩ (x :: l) = addL x l:=by
   show addL (addS ⟨#[]⟩ x) l = _
   rw [e0]
  apply ba_ext
  rw [e,zj1 l x (h x (List.mem_cons_self ..))]
  unfold z4h
  rw [List.map_cons,Lib.join_cons]
theorem zra (l:List Hld) (h:Hld):(l.any fun x=>hldE x h) = l.any (hldE h):=by
 congr 1
 funext x
 exact hldE_comm x h
def S1 (a b:Frm):ByteArray:=addL ⟨#[]⟩ ((newH a.holds b.holds).map z2b)
def S2 (a b:Frm):ByteArray:=addL (S1 a b) ((newH b.holds a.holds).map z1z)
def S3 (a b:Frm):ByteArray:=addL (S2 a b) (z3m a.nodes b.nodes)
def rbE (a b:Frm) (s:ByteArray) (σ:St):Prop :=
 σ.T 2 = .ptr 2 0 0∧σ.H 2 = some ⟨4,26,[.agg [.int .i64 a.clock,.sl (a.holds.map Hld.a),.sl (a.nodes.map Nd.a),.sl (a.events.map Evt.a)]],0⟩∧σ.T 3 = .ptr 3 0 0∧σ.H 3 = some ⟨4,26,[.agg [.int .i64 b.clock,.sl (b.holds.map Hld.a),.sl (b.nodes.map Nd.a),.sl (b.events.map Evt.a)]],0⟩∧σ.T 5 = .str s
def rbI1 (a b:Frm) (k:Nat) (σ:St):Prop :=
 ∃ (j:Nat) (s:ByteArray),j≤b.holds.length∧k = b.holds.length - j∧s = addL ⟨#[]⟩ ((newH a.holds (b.holds.take j)).map z2b)∧rbE a b s σ∧σ.T 20 = .sl (b.holds.map Hld.a)∧σ.T 21 = .int .i64 b.holds.length∧σ.T 22 = .int .i64 j
def rbI2 (a b:Frm) (k:Nat) (σ:St):Prop :=
 ∃ (j:Nat) (s:ByteArray),j≤a.holds.length∧k = a.holds.length - j∧s = addL (S1 a b) ((newH b.holds (a.holds.take j)).map z1z)∧rbE a b s σ∧σ.T 58 = .sl (a.holds.map Hld.a)∧σ.T 59 = .int .i64 a.holds.length∧σ.T 60 = .int .i64 j
def rbI3 (a b:Frm) (k:Nat) (σ:St):Prop :=
 ∃ (j:Nat) (s:ByteArray),j≤b.nodes.length∧k = b.nodes.length - j∧s = addL (S2 a b) ((newN a.nodes (b.nodes.take j)).map ndW)∧rbE a b s σ∧σ.T 82 = .sl (b.nodes.map Nd.a)∧σ.T 83 = .int .i64 b.nodes.length∧σ.T 84 = .int .i64 j
def rbI4 (a b:Frm) (k:Nat) (σ:St):Prop :=
 ∃ (j:Nat) (s:ByteArray),j≤b.events.length∧k = b.events.length - j∧s = addL (S3 a b) (z09 a.events (b.events.take j) 0)∧rbE a b s σ∧σ.T 16 = .int .i64 j
theorem S1_le (a b:Frm) (ha:a.few) (hb:b.few):(S1 a b).size≤1010000:=by
 have h:=z50 ((newH a.holds b.holds).map z2b) ⟨#[]⟩ (fun x hx=>zaa _ _ ha.ok.holds.2 hb.ok.holds.2 x (List.mem_append_left _ hx))
 have h2:=z2w a.holds b.holds
 have h3:=hb.holds
 rw [List.length_map] at h
 have e:(⟨#[]⟩:ByteArray).size = 0:=rfl
 unfold S1
 omega
theorem S2_le (a b:Frm) (ha:a.few) (hb:b.few):(S2 a b).size≤2020000:=by
 have h:=z50 ((newH b.holds a.holds).map z1z) (S1 a b) (fun x hx=>zaa _ _ ha.ok.holds.2 hb.ok.holds.2 x (List.mem_append_right _ hx))
 have h1:=S1_le a b ha hb
 have h2:=z2w b.holds a.holds
 have h3:=ha.holds
 rw [List.length_map] at h
 unfold S2
 omega
theorem S3_le (a b:Frm) (ha:a.few) (hb:b.few):(S3 a b).size≤3030000:=by
 have h:=z50 (z3m a.nodes b.nodes) (S2 a b) (fun x hx=>zhu _ _ hb.ok.nodes.2 x hx)
 have h1:=S2_le a b ha hb
 have h2:=z7h a.nodes b.nodes
 have h3:=hb.nodes
 unfold S3
 omega
end
section
open Go.RowKit
attribute [local go_sem ↓] z1y z0n
attribute [local go_sem ↓] zqc
attribute [local go_sem] zdv zm9 z8w zm8 zm7 z8v zm6 zm5 z8u zm4 z8t zad zm3 zm2 z8s zac zm1 z8r zm0 z8q zfi zfh z6d zfg zff z6c zfe z6b zfd z6r zfc zfb z6a zfa zf9 z69 zf8 zf7 z68 zf6 zf5 z67 zf4 z66 zf3 zf2 zf1 z65 zf0 zez zey z64 zex zew z63 zev z62 zeu z61 zet z60 zes z5z zer z5y zeq z5x zep z5w zeo z5v zen
set_option maxHeartbeats 8000000 in
theorem rb1 (a b:Frm) (ha:a.few) (hb:b.few) (Q:XK->St->Prop) (hEnd:∀ σ,rbE a b (S1 a b) σ->Q (.exit 0) σ) (k:Nat) (σ:St) (hI:rbI1 a b k σ):run (AFn Tryz.prog) z9j (z3j (fun σ'=>∃ m,m < k∧rbI1 a b m σ') Q) σ:=by
 obtain ⟨j,s,hj,rfl,hsv,⟨t2,h2,t3,h3,t5⟩,t20,t21,t22⟩:=hI
 have n1:=ha.holds; have n2:=hb.holds
 simp only [z9j]
 by_cases hlt:j < b.holds.length
 case neg =>
  have hlt':¬ (j:Int) < (b.holds.length:Int):=by omega
  rw [List.take_of_length_le (by omega)] at hsv
  have hsv':s = S1 a b:=hsv
  rw [hsv'] at t5
  simp (maxSteps:=9^7) only [go_sem,Evt.a,Nd.a,Hld.a,nul,t2,h2,t3,h3,t5,t20,t21,t22,hlt',List.length_map]
  refine hEnd _ ⟨?_,?_,?_,?_,?_⟩ <;> (simp (maxSteps:=9^7) only [go_sem,Evt.a,Nd.a,Hld.a,nul,t2,h2,t3,h3,t5])
 have hlt':(j:Int) < (b.holds.length:Int):=by omega
 obtain ⟨h,hh⟩:=z0o hlt
 have hg:=atHs hh
 have hw:=z2s (j:=j) (by omega)
 have ho:=hb.ok.holds.2 h (List.mem_of_getElem? hh)
 have c1:=z7g h.thread ho.thread
 have c2:=z7g h.slot ho.slot
 have z1:=z2d h.thread ho.thread
 have z2:=z2d h.slot ho.slot
 have hs:=z6m (a:=a.holds) hh
 have hle:=z50 ((newH a.holds (b.holds.take j)).map z2b) ⟨#[]⟩ (fun x hx=>by obtain ⟨y,hy,rfl⟩:=List.mem_map.1 hx; exact ze0 y (hb.ok.holds.2 y (List.mem_of_mem_take (List.mem_filter.1 hy).1)))
 have hle2:=z2w a.holds (b.holds.take j)
 rw [← hsv,List.length_map] at hle
 rw [List.length_take] at hle2
 have e0:(⟨#[]⟩:ByteArray).size = 0:=rfl
 have hpl:=ze0 h ho
 have ca:=z1b s (z2b h) (by omega)
 have chh:=r57h_ok a.holds h (by omega)
 rw [zra] at chh
 simp only [Hld.a] at chh
 cases e:a.holds.any (hldE h) with
 | true =>
  rw [e] at chh hs
  rw [if_pos rfl,List.append_nil] at hs
  cases q:h.wr <;> rw [q] at hg chh
  all_goals
   (repeat (first | simp (maxSteps:=9^7) only [go_sem,Evt.a,Nd.a,Hld.a,nul,t2,h2,t3,h3,t5,t20,t21,t22,hlt',hlt,hg,q,List.length_map,Int.toNat_natCast,List.size_toArray,List.length_cons,List.length_nil,ByteArray.size_append] | refine z01 (c1) ?_ | refine z00 (c1) ?_ | refine z01 (c2) ?_ | refine z00 (c2) ?_ | refine z01 (chh) ?_ | refine z00 (chh) ?_ | refine z01 (ca) ?_ | refine z00 (ca) ?_ | refine And.intro (by omega) ?_ | refine And.intro (fun d hd=>by (repeat (rcases hd with rfl | hd; · exact ⟨rfl,rfl⟩)); cases hd) ?_))
   refine ⟨b.holds.length - (j + 1),by omega,j + 1,s,by omega,rfl,by rw [hs]; exact hsv,⟨?_,?_,?_,?_,?_⟩,?_,?_,?_⟩ <;> (simp (maxSteps:=9^7) only [go_sem,Evt.a,Nd.a,Hld.a,nul,t2,h2,t3,h3,t5,t20,t21,t22,hw])
 | false =>
  rw [e] at chh hs
  rw [if_neg (by simp)] at hs
  have eo:addS s (z2b h) = addL ⟨#[]⟩ ((newH a.holds (b.holds.take (j + 1))).map z2b):=by rw [hs,List.map_append,List.map_cons,List.map_nil,zay,← hsv]
  cases q:h.wr
  case true =>
   have ep:z2b h = ⟨#[43]⟩ ++ decS h.thread ++ ⟨#[46]⟩ ++ decS h.slot ++ ⟨#[119]⟩:=by unfold z2b ltcW; rw [q]; rfl
   rw [q] at hg chh
   rw [ep] at ca eo
   (repeat (first | simp (maxSteps:=9^7) only [go_sem,Evt.a,Nd.a,Hld.a,nul,t2,h2,t3,h3,t5,t20,t21,t22,hlt',hlt,hg,q,List.length_map,Int.toNat_natCast,List.size_toArray,List.length_cons,List.length_nil,ByteArray.size_append] | refine z01 (c1) ?_ | refine z00 (c1) ?_ | refine z01 (c2) ?_ | refine z00 (c2) ?_ | refine z01 (chh) ?_ | refine z00 (chh) ?_ | refine z01 (ca) ?_ | refine z00 (ca) ?_ | refine And.intro (by omega) ?_ | refine And.intro (fun d hd=>by (repeat (rcases hd with rfl | hd; · exact ⟨rfl,rfl⟩)); cases hd) ?_))
   refine ⟨b.holds.length - (j + 1),by omega,j + 1,_,by omega,rfl,eo,⟨?_,?_,?_,?_,?_⟩,?_,?_,?_⟩ <;> (simp (maxSteps:=9^7) only [go_sem,Evt.a,Nd.a,Hld.a,nul,t2,h2,t3,h3,t5,t20,t21,t22,hw])
  case false =>
   have ep:z2b h = ⟨#[43]⟩ ++ decS h.thread ++ ⟨#[46]⟩ ++ decS h.slot ++ ⟨#[114]⟩:=by unfold z2b ltcW; rw [q]; rfl
   rw [q] at hg chh
   rw [ep] at ca eo
   (repeat (first | simp (maxSteps:=9^7) only [go_sem,Evt.a,Nd.a,Hld.a,nul,t2,h2,t3,h3,t5,t20,t21,t22,hlt',hlt,hg,q,List.length_map,Int.toNat_natCast,List.size_toArray,List.length_cons,List.length_nil,ByteArray.size_append] | refine z01 (c1) ?_ | refine z00 (c1) ?_ | refine z01 (c2) ?_ | refine z00 (c2) ?_ | refine z01 (chh) ?_ | refine z00 (chh) ?_ | refine z01 (ca) ?_ | refine z00 (ca) ?_ | refine And.intro (by omega) ?_ | refine And.intro (fun d hd=>by (repeat (rcases hd with rfl | hd; · exact ⟨rfl,rfl⟩)); cases hd) ?_))
   refine ⟨b.holds.length - (j + 1),by omega,j + 1,_,by omega,rfl,eo,⟨?_,?_,?_,?_,?_⟩,?_,?_,?_⟩ <;> (simp (maxSteps:=9^7) only [go_sem,Evt.a,Nd.a,Hld.a,nul,t2,h2,t3,h3,t5,t20,t21,t22,hw])
set_option maxHeartbeats 8000000 in
theorem rb2 (a b:Frm) (ha:a.few) (hb:b.few) (Q:XK->St->Prop) (hEnd:∀ σ,rbE a b (S2 a b) σ->Q (.exit 2) σ) (k:Nat) (σ:St) (hI:rbI2 a b k σ):run (AFn Tryz.prog) z9i (z3j (fun σ'=>∃ m,m < k∧rbI2 a b m σ') Q) σ:=by
 obtain ⟨j,s,hj,rfl,hsv,⟨t2,h2,t3,h3,t5⟩,t58,t59,t60⟩:=hI
 have n1:=ha.holds; have n2:=hb.holds
 simp only [z9i]
 by_cases hlt:j < a.holds.length
 case neg =>
  have hlt':¬ (j:Int) < (a.holds.length:Int):=by omega
  rw [List.take_of_length_le (by omega)] at hsv
  have hsv':s = S2 a b:=hsv
  rw [hsv'] at t5
  simp (maxSteps:=9^7) only [go_sem,Evt.a,Nd.a,Hld.a,nul,t2,h2,t3,h3,t5,t58,t59,t60,hlt',List.length_map]
  refine hEnd _ ⟨?_,?_,?_,?_,?_⟩ <;> (simp (maxSteps:=9^7) only [go_sem,Evt.a,Nd.a,Hld.a,nul,t2,h2,t3,h3,t5])
 have hlt':(j:Int) < (a.holds.length:Int):=by omega
 obtain ⟨h,hh⟩:=z0o hlt
 have hg:=atHs hh
 have hw:=z2s (j:=j) (by omega)
 have ho:=ha.ok.holds.2 h (List.mem_of_getElem? hh)
 have c1:=z7g h.thread ho.thread
 have c2:=z7g h.slot ho.slot
 have z1:=z2d h.thread ho.thread
 have z2:=z2d h.slot ho.slot
 have hs:=z6m (a:=b.holds) hh
 have hle:=z50 ((newH b.holds (a.holds.take j)).map z1z) (S1 a b) (fun x hx=>by obtain ⟨y,hy,rfl⟩:=List.mem_map.1 hx; exact z9z y (ha.ok.holds.2 y (List.mem_of_mem_take (List.mem_filter.1 hy).1)))
 have hle2:=z2w b.holds (a.holds.take j)
 rw [← hsv,List.length_map] at hle
 rw [List.length_take] at hle2
 have hS:=S1_le a b ha hb
 have hpl:=z9z h ho
 have ca:=z1b s (z1z h) (by omega)
 have chh:=r57h_ok b.holds h (by omega)
 rw [zra] at chh
 simp only [Hld.a] at chh
 cases e:b.holds.any (hldE h) with
 | true =>
  rw [e] at chh hs
  rw [if_pos rfl,List.append_nil] at hs
  (repeat (first | simp (maxSteps:=9^7) only [go_sem,Evt.a,Nd.a,Hld.a,nul,t2,h2,t3,h3,t5,t58,t59,t60,hlt',hlt,hg,List.length_map,Int.toNat_natCast,List.size_toArray,List.length_cons,List.length_nil,ByteArray.size_append] | refine z01 (c1) ?_ | refine z00 (c1) ?_ | refine z01 (c2) ?_ | refine z00 (c2) ?_ | refine z01 (chh) ?_ | refine z00 (chh) ?_ | refine z01 (ca) ?_ | refine z00 (ca) ?_ | refine And.intro (by omega) ?_ | refine And.intro (fun d hd=>by (repeat (rcases hd with rfl | hd; · exact ⟨rfl,rfl⟩)); cases hd) ?_))
  refine ⟨a.holds.length - (j + 1),by omega,j + 1,s,by omega,rfl,by rw [hs]; exact hsv,⟨?_,?_,?_,?_,?_⟩,?_,?_,?_⟩ <;> (simp (maxSteps:=9^7) only [go_sem,Evt.a,Nd.a,Hld.a,nul,t2,h2,t3,h3,t5,t58,t59,t60,hw])
 | false =>
  rw [e] at chh hs
  rw [if_neg (by simp)] at hs
  have eo:addS s (z1z h) = addL (S1 a b) ((newH b.holds (a.holds.take (j + 1))).map z1z):=by rw [hs,List.map_append,List.map_cons,List.map_nil,zay,← hsv]
  have ep:z1z h = ⟨#[45]⟩ ++ decS h.thread ++ ⟨#[46]⟩ ++ decS h.slot:=rfl
  rw [ep] at ca eo
  (repeat (first | simp (maxSteps:=9^7) only [go_sem,Evt.a,Nd.a,Hld.a,nul,t2,h2,t3,h3,t5,t58,t59,t60,hlt',hlt,hg,List.length_map,Int.toNat_natCast,List.size_toArray,List.length_cons,List.length_nil,ByteArray.size_append] | refine z01 (c1) ?_ | refine z00 (c1) ?_ | refine z01 (c2) ?_ | refine z00 (c2) ?_ | refine z01 (chh) ?_ | refine z00 (chh) ?_ | refine z01 (ca) ?_ | refine z00 (ca) ?_ | refine And.intro (by omega) ?_ | refine And.intro (fun d hd=>by (repeat (rcases hd with rfl | hd; · exact ⟨rfl,rfl⟩)); cases hd) ?_))
  refine ⟨a.holds.length - (j + 1),by omega,j + 1,_,by omega,rfl,eo,⟨?_,?_,?_,?_,?_⟩,?_,?_,?_⟩ <;> (simp (maxSteps:=9^7) only [go_sem,Evt.a,Nd.a,Hld.a,nul,t2,h2,t3,h3,t5,t58,t59,t60,hw])
def rbN (a b:Frm) (n:Nd) (j:Nat) (s:ByteArray) (k:Nat) (σ:St):Prop :=
 ∃ i:Nat,i≤a.nodes.length∧k = a.nodes.length - i∧rbE a b s σ∧σ.T 12 = .ptr 12 0 0∧σ.H 12 = some ⟨10,60,[.agg [.int .i64 n.slot,.int .i64 n.level,.sl (n.pivots.map AV.str),.sl (n.kids.map (AV.int .i64)),.str n.high,.bool n.top,.int .i64 n.right,.int .i64 n.seen,.sl (n.msgs.map Msg.a),.sl (n.rows.map Par.a)]],0⟩∧σ.T 13 = .bool ((a.nodes.take i).any fun x=>ndE x n)∧σ.T 82 = .sl (b.nodes.map Nd.a)∧σ.T 83 = .int .i64 b.nodes.length∧σ.T 84 = .int .i64 j∧σ.T 89 = .sl (a.nodes.map Nd.a)∧σ.T 90 = .int .i64 a.nodes.length∧σ.T 91 = .int .i64 i
set_option maxHeartbeats 8000000 in
theorem rbn (a b:Frm) (ha:a.few) (n:Nd) (hn:n.few) (j:Nat) (s:ByteArray) (Q:XK->St->Prop) (hEnd:∀ σ,rbE a b s σ->σ.T 12 = .ptr 12 0 0->σ.H 12 = some ⟨10,60,[.agg [.int .i64 n.slot,.int .i64 n.level,.sl (n.pivots.map AV.str),.sl (n.kids.map (AV.int .i64)),.str n.high,.bool n.top,.int .i64 n.right,.int .i64 n.seen,.sl (n.msgs.map Msg.a),.sl (n.rows.map Par.a)]],0⟩->σ.T 13 = .bool (a.nodes.any fun x=>ndE x n)->σ.T 82 = .sl (b.nodes.map Nd.a)->σ.T 83 = .int .i64 b.nodes.length->σ.T 84 = .int .i64 j->Q (.exit 6) σ) (k:Nat) (σ:St) (hI:rbN a b n j s k σ):run (AFn Tryz.prog) z9h (z3j (fun σ'=>∃ m,m < k∧rbN a b n j s m σ') Q) σ:=by
 obtain ⟨i,hi,rfl,⟨t2,h2,t3,h3,t5⟩,t12,h12,t13,t82,t83,t84,t89,t90,t91⟩:=hI
 have n1:=ha.nodes
 simp only [z9h]
 by_cases hlt:i < a.nodes.length
 case neg =>
  have hlt':¬ (i:Int) < (a.nodes.length:Int):=by omega
  rw [List.take_of_length_le (by omega)] at t13
  simp (maxSteps:=9^7) only [go_sem,Evt.a,Nd.a,Hld.a,nul,t2,h2,t3,h3,t5,t12,h12,t13,t82,t83,t84,t89,t90,t91,hlt',List.length_map]
  refine hEnd _ ⟨?_,?_,?_,?_,?_⟩ ?_ ?_ ?_ ?_ ?_ ?_ <;> (simp (maxSteps:=9^7) only [go_sem,Evt.a,Nd.a,Hld.a,nul,t2,h2,t3,h3,t5,t12,h12,t13,t82,t83,t84])
 have hlt':(i:Int) < (a.nodes.length:Int):=by omega
 obtain ⟨x,hx⟩:=z0o hlt
 have hg:=z0v (f:=Nd.a) hx
 simp only [Nd.a] at hg
 have hw:=z2s (j:=i) (by omega)
 have c:=r21s_ok x n (ha.thin x (List.mem_of_getElem? hx)) hn
 simp only [Nd.a] at c
 have hs:((a.nodes.take (i + 1)).any fun x=>ndE x n) = (((a.nodes.take i).any fun x=>ndE x n) || ndE x n):=by
  rw [zd0 hx,List.any_append,List.any_cons,List.any_nil,Bool.or_false]
 cases e:((a.nodes.take i).any fun x=>ndE x n) with
 | true =>
  rw [e] at t13 hs
  rw [Bool.true_or] at hs
  (repeat (first | simp (maxSteps:=9^7) only [go_sem,Evt.a,Nd.a,Hld.a,nul,t2,h2,t3,h3,t5,t12,h12,t13,t82,t83,t84,t89,t90,t91,hlt',hlt,hg,List.length_map,Int.toNat_natCast] | refine z01 (c) ?_ | refine z00 (c) ?_ | refine And.intro (by omega) ?_ | refine And.intro (fun d hd=>by (repeat (rcases hd with rfl | hd; · exact ⟨rfl,rfl⟩)); cases hd) ?_))
  refine ⟨a.nodes.length - (i + 1),by omega,i + 1,by omega,rfl,⟨?_,?_,?_,?_,?_⟩,?_,?_,?_,?_,?_,?_,?_,?_,?_⟩ <;> (simp (maxSteps:=9^7) only [go_sem,Evt.a,Nd.a,Hld.a,nul,t2,h2,t3,h3,t5,t12,h12,t13,t82,t83,t84,t89,t90,t91,hw,hs])
 | false =>
  rw [e] at t13 hs
  rw [Bool.false_or] at hs
  (repeat (first | simp (maxSteps:=9^7) only [go_sem,Evt.a,Nd.a,Hld.a,nul,t2,h2,t3,h3,t5,t12,h12,t13,t82,t83,t84,t89,t90,t91,hlt',hlt,hg,List.length_map,Int.toNat_natCast] | refine z01 (c) ?_ | refine z00 (c) ?_ | refine And.intro (by omega) ?_ | refine And.intro (fun d hd=>by (repeat (rcases hd with rfl | hd; · exact ⟨rfl,rfl⟩)); cases hd) ?_))
  refine ⟨a.nodes.length - (i + 1),by omega,i + 1,by omega,rfl,⟨?_,?_,?_,?_,?_⟩,?_,?_,?_,?_,?_,?_,?_,?_,?_⟩ <;> (simp (maxSteps:=9^7) only [go_sem,Evt.a,Nd.a,Hld.a,nul,t2,h2,t3,h3,t5,t12,h12,t13,t82,t83,t84,t89,t90,t91,hw,hs])
set_option maxHeartbeats 8000000 in
theorem rb3 (a b:Frm) (ha:a.few) (hb:b.few) (Q:XK->St->Prop) (hEnd:∀ σ,rbE a b (S3 a b) σ->Q (.exit 4) σ) (k:Nat) (σ:St) (hI:rbI3 a b k σ):run (AFn Tryz.prog) z9g (z3j (fun σ'=>∃ m,m < k∧rbI3 a b m σ') Q) σ:=by
 obtain ⟨j,s,hj,rfl,hsv,⟨t2,h2,t3,h3,t5⟩,t82,t83,t84⟩:=hI
 have n1:=ha.nodes; have n2:=hb.nodes
 simp only [z9g]
 by_cases hlt:j < b.nodes.length
 case neg =>
  have hlt':¬ (j:Int) < (b.nodes.length:Int):=by omega
  rw [List.take_of_length_le (by omega)] at hsv
  have hsv':s = S3 a b:=hsv
  rw [hsv'] at t5
  simp (maxSteps:=9^7) only [go_sem,Evt.a,Nd.a,Hld.a,nul,t2,h2,t3,h3,t5,t82,t83,t84,hlt',List.length_map]
  refine hEnd _ ⟨?_,?_,?_,?_,?_⟩ <;> (simp (maxSteps:=9^7) only [go_sem,Evt.a,Nd.a,Hld.a,nul,t2,h2,t3,h3,t5])
 have hlt':(j:Int) < (b.nodes.length:Int):=by omega
 obtain ⟨n,hn⟩:=z0o hlt
 have hg:=z0v (f:=Nd.a) hn
 simp only [Nd.a] at hg
 have hw:=z2s (j:=j) (by omega)
 have ho:=hb.ok.nodes.2 n (List.mem_of_getElem? hn)
 have hf:=hb.thin n (List.mem_of_getElem? hn)
 have c1:=z7g n.slot ho.slot
 have z1:=z2d n.slot ho.slot
 have hs:=zhw (a:=a.nodes) hn
 have hle:=z50 ((newN a.nodes (b.nodes.take j)).map ndW) (S2 a b) (fun x hx=>by obtain ⟨y,hy,rfl⟩:=List.mem_map.1 hx; exact ndW_le y (hb.ok.nodes.2 y (List.mem_of_mem_take (List.mem_filter.1 hy).1)))
 have hle2:=ze3 a.nodes (b.nodes.take j)
 rw [← hsv,List.length_map] at hle
 rw [List.length_take] at hle2
 have hS:=S2_le a b ha hb
 have hpl:=ndW_le n ho
 have ca:=z1b s (ndW n) (by omega)
 simp (maxSteps:=9^7) only [go_sem,Evt.a,Nd.a,Hld.a,nul,t2,h2,t3,h3,t5,t82,t83,t84,hlt',hlt,hg,List.length_map,Int.toNat_natCast]
 (repeat refine And.intro (by omega) ?_)
 refine z0c (rbN a b n j s) (k:=a.nodes.length) ⟨0,Nat.zero_le _,rfl,⟨?_,?_,?_,?_,?_⟩,?_,?_,?_,?_,?_,?_,?_,?_,?_⟩ (rbn a b ha n hf j s _ ?_) <;> try ((simp (maxSteps:=9^7) only [go_sem,Evt.a,Nd.a,Hld.a,nul,t2,h2,t3,h3,t5,t82,t83,t84,List.length_map,List.take_zero,List.any_nil]) <;> rfl)
 clear t2 h2 t3 h3 t5 t82 t83 t84
 clear σ
 rintro σ ⟨t2,h2,t3,h3,t5⟩ t12 h12 t13 t82 t83 t84
 cases e:(a.nodes.any fun x=>ndE x n) with
 | true =>
  rw [e] at t13 hs
  rw [if_pos rfl,List.append_nil] at hs
  (repeat (first | simp (maxSteps:=9^7) only [go_sem,Evt.a,Nd.a,Hld.a,nul,t2,h2,t3,h3,t5,t12,h12,t13,t82,t83,t84,List.length_map,Int.toNat_natCast] | refine z01 (c1) ?_ | refine z00 (c1) ?_ | refine z01 (ca) ?_ | refine z00 (ca) ?_ | refine And.intro (by omega) ?_ | refine And.intro (fun d hd=>by (repeat (rcases hd with rfl | hd; · exact ⟨rfl,rfl⟩)); cases hd) ?_))
  refine ⟨b.nodes.length - (j + 1),by omega,j + 1,s,by omega,rfl,by rw [hs]; exact hsv,⟨?_,?_,?_,?_,?_⟩,?_,?_,?_⟩ <;> (simp (maxSteps:=9^7) only [go_sem,Evt.a,Nd.a,Hld.a,nul,t2,h2,t3,h3,t5,t82,t83,t84,hw])
 | false =>
  rw [e] at t13 hs
  rw [if_neg (by simp)] at hs
  have eo:addS s (ndW n) = addL (S2 a b) ((newN a.nodes (b.nodes.take (j + 1))).map ndW):=by rw [hs,List.map_append,List.map_cons,List.map_nil,zay,← hsv]
  have ep:ndW n = ⟨#[126]⟩ ++ decS n.slot:=rfl
  rw [ep] at ca eo
  (repeat (first | simp (maxSteps:=9^7) only [go_sem,Evt.a,Nd.a,Hld.a,nul,t2,h2,t3,h3,t5,t12,h12,t13,t82,t83,t84,List.length_map,Int.toNat_natCast,List.size_toArray,List.length_cons,List.length_nil,ByteArray.size_append] | refine z01 (c1) ?_ | refine z00 (c1) ?_ | refine z01 (ca) ?_ | refine z00 (ca) ?_ | refine And.intro (by omega) ?_ | refine And.intro (fun d hd=>by (repeat (rcases hd with rfl | hd; · exact ⟨rfl,rfl⟩)); cases hd) ?_))
  refine ⟨b.nodes.length - (j + 1),by omega,j + 1,_,by omega,rfl,eo,⟨?_,?_,?_,?_,?_⟩,?_,?_,?_⟩ <;> (simp (maxSteps:=9^7) only [go_sem,Evt.a,Nd.a,Hld.a,nul,t2,h2,t3,h3,t5,t82,t83,t84,hw])
end
section
open Go.RowKit
attribute [local go_sem ↓] z1y z0n
attribute [local go_sem ↓] zqc
attribute [local go_sem] zdv zm9 z8w zm8 zm7 z8v zm6 zm5 z8u zm4 z8t zad zm3 zm2 z8s zac zm1 z8r zm0 z8q zfi zfh z6d zfg zff z6c zfe z6b zfd z6r zfc zfb z6a zfa zf9 z69 zf8 zf7 z68 zf6 zf5 z67 zf4 z66 zf3 zf2 zf1 z65 zf0 zez zey z64 zex zew z63 zev z62 zeu z61 zet z60 zes z5z zer z5y zeq z5x zep z5w zeo z5v zen
set_option maxHeartbeats 40000000 in
theorem rb4 (a b:Frm) (ha:a.few) (hb:b.few) (Q:XK->St->Prop) (hEnd:∀ σ,rbE a b (addL (S3 a b) (z26 a.events b.events)) σ->Q (.exit 8) σ) (k:Nat) (σ:St) (hI:rbI4 a b k σ):run (AFn Tryz.prog) z9f (z3j (fun σ'=>∃ m,m < k∧rbI4 a b m σ') Q) σ:=by
 obtain ⟨j,s,hj,rfl,hsv,⟨t2,h2,t3,h3,t5⟩,t16⟩:=hI
 have n1:=ha.events; have n2:=hb.events
 simp only [z9f]
 by_cases hlt:j < b.events.length
 case neg =>
  have hlt':¬ (j:Int) < (b.events.length:Int):=by omega
  rw [List.take_of_length_le (by omega)] at hsv
  have hsv':s = addL (S3 a b) (z26 a.events b.events):=hsv
  rw [hsv'] at t5
  simp (maxSteps:=9^7) only [go_sem,Evt.a,Nd.a,Hld.a,nul,Msg.a,Par.a,Evt.a,Nd.a,Hld.a,Frm.a,nul,t2,h2,t3,h3,t5,t16,hlt',List.length_map]
  refine hEnd _ ⟨?_,?_,?_,?_,?_⟩ <;> (simp (maxSteps:=9^7) only [go_sem,Evt.a,Nd.a,Hld.a,nul,Msg.a,Par.a,Evt.a,Nd.a,Hld.a,Frm.a,nul,t2,h2,t3,h3,t5])
 have hlt':(j:Int) < (b.events.length:Int):=by omega
 obtain ⟨e,he⟩:=z0o hlt
 have hg:=z0v (f:=Evt.a) he
 simp only [Evt.a] at hg
 have hw:=z2s (j:=j) (by omega)
 have hi:inI (j:Int):=by unfold inI; omega
 have cd:=z7g (j:Int) hi
 have z1:=z2d (j:Int) hi
 have hs:=z7v (a:=a.events) he
 have hle:=z50 (z09 a.events (b.events.take j) 0) (S3 a b) (z7l a.events (b.events.take j) 0 (by rw [List.length_take]; omega))
 have hle2:=z3f a.events (b.events.take j) 0
 rw [← hsv] at hle
 rw [List.length_take] at hle2
 have hS:=S3_le a b ha hb
 have hsz:s.size≤7000000:=by omega
 have y1:(⟨#[98,101,103,97,110,32]⟩ ++ decS (j:Int)).size≤100:=by
  have e1:(⟨#[98,101,103,97,110,32]⟩:ByteArray).size = 6:=rfl
  rw [ByteArray.size_append]; omega
 have y2:(⟨#[112,111,105,110,116,32]⟩ ++ decS (j:Int)).size≤100:=by
  have e1:(⟨#[112,111,105,110,116,32]⟩:ByteArray).size = 6:=rfl
  rw [ByteArray.size_append]; omega
 have y3:(⟨#[101,110,100,101,100,32]⟩ ++ decS (j:Int)).size≤100:=by
  have e1:(⟨#[101,110,100,101,100,32]⟩:ByteArray).size = 6:=rfl
  rw [ByteArray.size_append]; omega
 have tn0:Int.toNat 0 = 0:=rfl
 by_cases hlta:j < a.events.length
 case neg =>
  have ha':¬ (j:Int) < (a.events.length:Int):=by omega
  have hy:a.events[j]? = none:=List.getElem?_eq_none (by omega)
  cases q2:e.point != 0 with
  | true =>
   cases q3:e.done with
   | true =>
    have hv:evX a.events[j]? j e = [⟨#[98,101,103,97,110,32]⟩ ++ decS (j:Int),⟨#[112,111,105,110,116,32]⟩ ++ decS (j:Int),⟨#[101,110,100,101,100,32]⟩ ++ decS (j:Int)]:=by rw [hy]; simp only [evX,q2,q3]; rfl
    rw [hv] at hs
    have eo:addS (addS (addS (s) (⟨#[98,101,103,97,110,32]⟩ ++ decS (j:Int))) (⟨#[112,111,105,110,116,32]⟩ ++ decS (j:Int))) (⟨#[101,110,100,101,100,32]⟩ ++ decS (j:Int)) = addL (S3 a b) (z09 a.events (b.events.take (j + 1)) 0):=by rw [hs,z0i,← hsv]; rfl
    have ca0:=z1b (s) (⟨#[98,101,103,97,110,32]⟩ ++ decS (j:Int)) (by omega)
    have zz0:=z1r (s) (⟨#[98,101,103,97,110,32]⟩ ++ decS (j:Int))
    have ca1:=z1b (addS (s) (⟨#[98,101,103,97,110,32]⟩ ++ decS (j:Int))) (⟨#[112,111,105,110,116,32]⟩ ++ decS (j:Int)) (by omega)
    have zz1:=z1r (addS (s) (⟨#[98,101,103,97,110,32]⟩ ++ decS (j:Int))) (⟨#[112,111,105,110,116,32]⟩ ++ decS (j:Int))
    have ca2:=z1b (addS (addS (s) (⟨#[98,101,103,97,110,32]⟩ ++ decS (j:Int))) (⟨#[112,111,105,110,116,32]⟩ ++ decS (j:Int))) (⟨#[101,110,100,101,100,32]⟩ ++ decS (j:Int)) (by omega)
    have zz2:=z1r (addS (addS (s) (⟨#[98,101,103,97,110,32]⟩ ++ decS (j:Int))) (⟨#[112,111,105,110,116,32]⟩ ++ decS (j:Int))) (⟨#[101,110,100,101,100,32]⟩ ++ decS (j:Int))
    (repeat (first | simp (maxSteps:=9^7) only [go_sem,Evt.a,Nd.a,Hld.a,nul,Msg.a,Par.a,Evt.a,Nd.a,Hld.a,Frm.a,nul,t2,h2,t3,h3,t5,t16,hlt',hlt,hg,List.length_map,Int.toNat_natCast,List.size_toArray,List.length_cons,List.length_nil,ByteArray.size_append,ha',q2,q3] | refine z01 (cd) ?_ | refine z00 (cd) ?_ | refine z01 (ca0) ?_ | refine z00 (ca0) ?_ | refine z01 (ca1) ?_ | refine z00 (ca1) ?_ | refine z01 (ca2) ?_ | refine z00 (ca2) ?_ | refine And.intro (by omega) ?_ | refine And.intro (fun d hd=>by (repeat (rcases hd with rfl | hd; · exact ⟨rfl,rfl⟩)); cases hd) ?_))
    refine ⟨b.events.length - (j + 1),by omega,j + 1,_,by omega,rfl,eo,⟨?_,?_,?_,?_,?_⟩,?_⟩ <;> (simp (maxSteps:=9^7) only [go_sem,Evt.a,Nd.a,Hld.a,nul,Msg.a,Par.a,Evt.a,Nd.a,Hld.a,Frm.a,nul,t2,h2,t3,h3,t5,t16,hw])
   | false =>
    have hv:evX a.events[j]? j e = [⟨#[98,101,103,97,110,32]⟩ ++ decS (j:Int),⟨#[112,111,105,110,116,32]⟩ ++ decS (j:Int)]:=by rw [hy]; simp only [evX,q2,q3]; rfl
    rw [hv] at hs
    have eo:addS (addS (s) (⟨#[98,101,103,97,110,32]⟩ ++ decS (j:Int))) (⟨#[112,111,105,110,116,32]⟩ ++ decS (j:Int)) = addL (S3 a b) (z09 a.events (b.events.take (j + 1)) 0):=by rw [hs,z0i,← hsv]; rfl
    have ca0:=z1b (s) (⟨#[98,101,103,97,110,32]⟩ ++ decS (j:Int)) (by omega)
    have zz0:=z1r (s) (⟨#[98,101,103,97,110,32]⟩ ++ decS (j:Int))
    have ca1:=z1b (addS (s) (⟨#[98,101,103,97,110,32]⟩ ++ decS (j:Int))) (⟨#[112,111,105,110,116,32]⟩ ++ decS (j:Int)) (by omega)
    have zz1:=z1r (addS (s) (⟨#[98,101,103,97,110,32]⟩ ++ decS (j:Int))) (⟨#[112,111,105,110,116,32]⟩ ++ decS (j:Int))
    (repeat (first | simp (maxSteps:=9^7) only [go_sem,Evt.a,Nd.a,Hld.a,nul,Msg.a,Par.a,Evt.a,Nd.a,Hld.a,Frm.a,nul,t2,h2,t3,h3,t5,t16,hlt',hlt,hg,List.length_map,Int.toNat_natCast,List.size_toArray,List.length_cons,List.length_nil,ByteArray.size_append,ha',q2,q3] | refine z01 (cd) ?_ | refine z00 (cd) ?_ | refine z01 (ca0) ?_ | refine z00 (ca0) ?_ | refine z01 (ca1) ?_ | refine z00 (ca1) ?_ | refine And.intro (by omega) ?_ | refine And.intro (fun d hd=>by (repeat (rcases hd with rfl | hd; · exact ⟨rfl,rfl⟩)); cases hd) ?_))
    refine ⟨b.events.length - (j + 1),by omega,j + 1,_,by omega,rfl,eo,⟨?_,?_,?_,?_,?_⟩,?_⟩ <;> (simp (maxSteps:=9^7) only [go_sem,Evt.a,Nd.a,Hld.a,nul,Msg.a,Par.a,Evt.a,Nd.a,Hld.a,Frm.a,nul,t2,h2,t3,h3,t5,t16,hw])
  | false =>
   cases q3:e.done with
   | true =>
    have hv:evX a.events[j]? j e = [⟨#[98,101,103,97,110,32]⟩ ++ decS (j:Int),⟨#[101,110,100,101,100,32]⟩ ++ decS (j:Int)]:=by rw [hy]; simp only [evX,q2,q3]; rfl
    rw [hv] at hs
    have eo:addS (addS (s) (⟨#[98,101,103,97,110,32]⟩ ++ decS (j:Int))) (⟨#[101,110,100,101,100,32]⟩ ++ decS (j:Int)) = addL (S3 a b) (z09 a.events (b.events.take (j + 1)) 0):=by rw [hs,z0i,← hsv]; rfl
    have ca0:=z1b (s) (⟨#[98,101,103,97,110,32]⟩ ++ decS (j:Int)) (by omega)
    have zz0:=z1r (s) (⟨#[98,101,103,97,110,32]⟩ ++ decS (j:Int))
    have ca1:=z1b (addS (s) (⟨#[98,101,103,97,110,32]⟩ ++ decS (j:Int))) (⟨#[101,110,100,101,100,32]⟩ ++ decS (j:Int)) (by omega)
    have zz1:=z1r (addS (s) (⟨#[98,101,103,97,110,32]⟩ ++ decS (j:Int))) (⟨#[101,110,100,101,100,32]⟩ ++ decS (j:Int))
    (repeat (first | simp (maxSteps:=9^7) only [go_sem,Evt.a,Nd.a,Hld.a,nul,Msg.a,Par.a,Evt.a,Nd.a,Hld.a,Frm.a,nul,t2,h2,t3,h3,t5,t16,hlt',hlt,hg,List.length_map,Int.toNat_natCast,List.size_toArray,List.length_cons,List.length_nil,ByteArray.size_append,ha',q2,q3] | refine z01 (cd) ?_ | refine z00 (cd) ?_ | refine z01 (ca0) ?_ | refine z00 (ca0) ?_ | refine z01 (ca1) ?_ | refine z00 (ca1) ?_ | refine And.intro (by omega) ?_ | refine And.intro (fun d hd=>by (repeat (rcases hd with rfl | hd; · exact ⟨rfl,rfl⟩)); cases hd) ?_))
    refine ⟨b.events.length - (j + 1),by omega,j + 1,_,by omega,rfl,eo,⟨?_,?_,?_,?_,?_⟩,?_⟩ <;> (simp (maxSteps:=9^7) only [go_sem,Evt.a,Nd.a,Hld.a,nul,Msg.a,Par.a,Evt.a,Nd.a,Hld.a,Frm.a,nul,t2,h2,t3,h3,t5,t16,hw])
   | false =>
    have hv:evX a.events[j]? j e = [⟨#[98,101,103,97,110,32]⟩ ++ decS (j:Int)]:=by rw [hy]; simp only [evX,q2,q3]; rfl
    rw [hv] at hs
    have eo:addS (s) (⟨#[98,101,103,97,110,32]⟩ ++ decS (j:Int)) = addL (S3 a b) (z09 a.events (b.events.take (j + 1)) 0):=by rw [hs,z0i,← hsv]; rfl
    have ca0:=z1b (s) (⟨#[98,101,103,97,110,32]⟩ ++ decS (j:Int)) (by omega)
    have zz0:=z1r (s) (⟨#[98,101,103,97,110,32]⟩ ++ decS (j:Int))
    (repeat (first | simp (maxSteps:=9^7) only [go_sem,Evt.a,Nd.a,Hld.a,nul,Msg.a,Par.a,Evt.a,Nd.a,Hld.a,Frm.a,nul,t2,h2,t3,h3,t5,t16,hlt',hlt,hg,List.length_map,Int.toNat_natCast,List.size_toArray,List.length_cons,List.length_nil,ByteArray.size_append,ha',q2,q3] | refine z01 (cd) ?_ | refine z00 (cd) ?_ | refine z01 (ca0) ?_ | refine z00 (ca0) ?_ | refine And.intro (by omega) ?_ | refine And.intro (fun d hd=>by (repeat (rcases hd with rfl | hd; · exact ⟨rfl,rfl⟩)); cases hd) ?_))
    refine ⟨b.events.length - (j + 1),by omega,j + 1,_,by omega,rfl,eo,⟨?_,?_,?_,?_,?_⟩,?_⟩ <;> (simp (maxSteps:=9^7) only [go_sem,Evt.a,Nd.a,Hld.a,nul,Msg.a,Par.a,Evt.a,Nd.a,Hld.a,Frm.a,nul,t2,h2,t3,h3,t5,t16,hw])
 have ha':(j:Int) < (a.events.length:Int):=by omega
 obtain ⟨y,hy⟩:=z0o hlta
 have hgy:=z0v (f:=Evt.a) hy
 simp only [Evt.a] at hgy
 cases q1:e.point != y.point with
 | true =>
  cases q2:e.point != 0 with
  | true =>
   cases q3:e.done with
   | true =>
    cases q4:y.done with
    | true =>
     have hv:evX a.events[j]? j e = [⟨#[112,111,105,110,116,32]⟩ ++ decS (j:Int)]:=by rw [hy]; simp only [evX,q1,q2,q3,q4]; rfl
     rw [hv] at hs
     have eo:addS (s) (⟨#[112,111,105,110,116,32]⟩ ++ decS (j:Int)) = addL (S3 a b) (z09 a.events (b.events.take (j + 1)) 0):=by rw [hs,z0i,← hsv]; rfl
     have ca0:=z1b (s) (⟨#[112,111,105,110,116,32]⟩ ++ decS (j:Int)) (by omega)
     have zz0:=z1r (s) (⟨#[112,111,105,110,116,32]⟩ ++ decS (j:Int))
     (repeat (first | simp (maxSteps:=9^7) only [go_sem,Evt.a,Nd.a,Hld.a,nul,Msg.a,Par.a,Evt.a,Nd.a,Hld.a,Frm.a,nul,t2,h2,t3,h3,t5,t16,hlt',hlt,hg,List.length_map,Int.toNat_natCast,List.size_toArray,List.length_cons,List.length_nil,ByteArray.size_append,ha',hlta,hgy,q1,q2,q3,q4] | refine z01 (cd) ?_ | refine z00 (cd) ?_ | refine z01 (ca0) ?_ | refine z00 (ca0) ?_ | refine And.intro (by omega) ?_ | refine And.intro (fun d hd=>by (repeat (rcases hd with rfl | hd; · exact ⟨rfl,rfl⟩)); cases hd) ?_))
     refine ⟨b.events.length - (j + 1),by omega,j + 1,_,by omega,rfl,eo,⟨?_,?_,?_,?_,?_⟩,?_⟩ <;> (simp (maxSteps:=9^7) only [go_sem,Evt.a,Nd.a,Hld.a,nul,Msg.a,Par.a,Evt.a,Nd.a,Hld.a,Frm.a,nul,t2,h2,t3,h3,t5,t16,hw])
    | false =>
     have hv:evX a.events[j]? j e = [⟨#[112,111,105,110,116,32]⟩ ++ decS (j:Int),⟨#[101,110,100,101,100,32]⟩ ++ decS (j:Int)]:=by rw [hy]; simp only [evX,q1,q2,q3,q4]; rfl
     rw [hv] at hs
     have eo:addS (addS (s) (⟨#[112,111,105,110,116,32]⟩ ++ decS (j:Int))) (⟨#[101,110,100,101,100,32]⟩ ++ decS (j:Int)) = addL (S3 a b) (z09 a.events (b.events.take (j + 1)) 0):=by rw [hs,z0i,← hsv]; rfl
     have ca0:=z1b (s) (⟨#[112,111,105,110,116,32]⟩ ++ decS (j:Int)) (by omega)
     have zz0:=z1r (s) (⟨#[112,111,105,110,116,32]⟩ ++ decS (j:Int))
     have ca1:=z1b (addS (s) (⟨#[112,111,105,110,116,32]⟩ ++ decS (j:Int))) (⟨#[101,110,100,101,100,32]⟩ ++ decS (j:Int)) (by omega)
     have zz1:=z1r (addS (s) (⟨#[112,111,105,110,116,32]⟩ ++ decS (j:Int))) (⟨#[101,110,100,101,100,32]⟩ ++ decS (j:Int))
     (repeat (first | simp (maxSteps:=9^7) only [go_sem,Evt.a,Nd.a,Hld.a,nul,Msg.a,Par.a,Evt.a,Nd.a,Hld.a,Frm.a,nul,t2,h2,t3,h3,t5,t16,hlt',hlt,hg,List.length_map,Int.toNat_natCast,List.size_toArray,List.length_cons,List.length_nil,ByteArray.size_append,ha',hlta,hgy,q1,q2,q3,q4] | refine z01 (cd) ?_ | refine z00 (cd) ?_ | refine z01 (ca0) ?_ | refine z00 (ca0) ?_ | refine z01 (ca1) ?_ | refine z00 (ca1) ?_ | refine And.intro (by omega) ?_ | refine And.intro (fun d hd=>by (repeat (rcases hd with rfl | hd; · exact ⟨rfl,rfl⟩)); cases hd) ?_))
     refine ⟨b.events.length - (j + 1),by omega,j + 1,_,by omega,rfl,eo,⟨?_,?_,?_,?_,?_⟩,?_⟩ <;> (simp (maxSteps:=9^7) only [go_sem,Evt.a,Nd.a,Hld.a,nul,Msg.a,Par.a,Evt.a,Nd.a,Hld.a,Frm.a,nul,t2,h2,t3,h3,t5,t16,hw])
   | false =>
    cases q4:y.done with
    | true =>
     have hv:evX a.events[j]? j e = [⟨#[112,111,105,110,116,32]⟩ ++ decS (j:Int)]:=by rw [hy]; simp only [evX,q1,q2,q3,q4]; rfl
     rw [hv] at hs
     have eo:addS (s) (⟨#[112,111,105,110,116,32]⟩ ++ decS (j:Int)) = addL (S3 a b) (z09 a.events (b.events.take (j + 1)) 0):=by rw [hs,z0i,← hsv]; rfl
     have ca0:=z1b (s) (⟨#[112,111,105,110,116,32]⟩ ++ decS (j:Int)) (by omega)
     have zz0:=z1r (s) (⟨#[112,111,105,110,116,32]⟩ ++ decS (j:Int))
     (repeat (first | simp (maxSteps:=9^7) only [go_sem,Evt.a,Nd.a,Hld.a,nul,Msg.a,Par.a,Evt.a,Nd.a,Hld.a,Frm.a,nul,t2,h2,t3,h3,t5,t16,hlt',hlt,hg,List.length_map,Int.toNat_natCast,List.size_toArray,List.length_cons,List.length_nil,ByteArray.size_append,ha',hlta,hgy,q1,q2,q3,q4] | refine z01 (cd) ?_ | refine z00 (cd) ?_ | refine z01 (ca0) ?_ | refine z00 (ca0) ?_ | refine And.intro (by omega) ?_ | refine And.intro (fun d hd=>by (repeat (rcases hd with rfl | hd; · exact ⟨rfl,rfl⟩)); cases hd) ?_))
     refine ⟨b.events.length - (j + 1),by omega,j + 1,_,by omega,rfl,eo,⟨?_,?_,?_,?_,?_⟩,?_⟩ <;> (simp (maxSteps:=9^7) only [go_sem,Evt.a,Nd.a,Hld.a,nul,Msg.a,Par.a,Evt.a,Nd.a,Hld.a,Frm.a,nul,t2,h2,t3,h3,t5,t16,hw])
    | false =>
     have hv:evX a.events[j]? j e = [⟨#[112,111,105,110,116,32]⟩ ++ decS (j:Int)]:=by rw [hy]; simp only [evX,q1,q2,q3,q4]; rfl
     rw [hv] at hs
     have eo:addS (s) (⟨#[112,111,105,110,116,32]⟩ ++ decS (j:Int)) = addL (S3 a b) (z09 a.events (b.events.take (j + 1)) 0):=by rw [hs,z0i,← hsv]; rfl
     have ca0:=z1b (s) (⟨#[112,111,105,110,116,32]⟩ ++ decS (j:Int)) (by omega)
     have zz0:=z1r (s) (⟨#[112,111,105,110,116,32]⟩ ++ decS (j:Int))
     (repeat (first | simp (maxSteps:=9^7) only [go_sem,Evt.a,Nd.a,Hld.a,nul,Msg.a,Par.a,Evt.a,Nd.a,Hld.a,Frm.a,nul,t2,h2,t3,h3,t5,t16,hlt',hlt,hg,List.length_map,Int.toNat_natCast,List.size_toArray,List.length_cons,List.length_nil,ByteArray.size_append,ha',hlta,hgy,q1,q2,q3,q4] | refine z01 (cd) ?_ | refine z00 (cd) ?_ | refine z01 (ca0) ?_ | refine z00 (ca0) ?_ | refine And.intro (by omega) ?_ | refine And.intro (fun d hd=>by (repeat (rcases hd with rfl | hd; · exact ⟨rfl,rfl⟩)); cases hd) ?_))
     refine ⟨b.events.length - (j + 1),by omega,j + 1,_,by omega,rfl,eo,⟨?_,?_,?_,?_,?_⟩,?_⟩ <;> (simp (maxSteps:=9^7) only [go_sem,Evt.a,Nd.a,Hld.a,nul,Msg.a,Par.a,Evt.a,Nd.a,Hld.a,Frm.a,nul,t2,h2,t3,h3,t5,t16,hw])
  | false =>
   cases q3:e.done with
   | true =>
    cases q4:y.done with
    | true =>
     have hv:evX a.events[j]? j e = ([]:List ByteArray):=by rw [hy]; simp only [evX,q1,q2,q3,q4]; rfl
     rw [hv] at hs
     have eo:s = addL (S3 a b) (z09 a.events (b.events.take (j + 1)) 0):=by rw [hs,z0i,← hsv]; rfl
     (repeat (first | simp (maxSteps:=9^7) only [go_sem,Evt.a,Nd.a,Hld.a,nul,Msg.a,Par.a,Evt.a,Nd.a,Hld.a,Frm.a,nul,t2,h2,t3,h3,t5,t16,hlt',hlt,hg,List.length_map,Int.toNat_natCast,List.size_toArray,List.length_cons,List.length_nil,ByteArray.size_append,ha',hlta,hgy,q1,q2,q3,q4] | refine z01 (cd) ?_ | refine z00 (cd) ?_ | refine And.intro (by omega) ?_ | refine And.intro (fun d hd=>by (repeat (rcases hd with rfl | hd; · exact ⟨rfl,rfl⟩)); cases hd) ?_))
     refine ⟨b.events.length - (j + 1),by omega,j + 1,_,by omega,rfl,eo,⟨?_,?_,?_,?_,?_⟩,?_⟩ <;> (simp (maxSteps:=9^7) only [go_sem,Evt.a,Nd.a,Hld.a,nul,Msg.a,Par.a,Evt.a,Nd.a,Hld.a,Frm.a,nul,t2,h2,t3,h3,t5,t16,hw])
    | false =>
     have hv:evX a.events[j]? j e = [⟨#[101,110,100,101,100,32]⟩ ++ decS (j:Int)]:=by rw [hy]; simp only [evX,q1,q2,q3,q4]; rfl
     rw [hv] at hs
     have eo:addS (s) (⟨#[101,110,100,101,100,32]⟩ ++ decS (j:Int)) = addL (S3 a b) (z09 a.events (b.events.take (j + 1)) 0):=by rw [hs,z0i,← hsv]; rfl
     have ca0:=z1b (s) (⟨#[101,110,100,101,100,32]⟩ ++ decS (j:Int)) (by omega)
     have zz0:=z1r (s) (⟨#[101,110,100,101,100,32]⟩ ++ decS (j:Int))
     (repeat (first | simp (maxSteps:=9^7) only [go_sem,Evt.a,Nd.a,Hld.a,nul,Msg.a,Par.a,Evt.a,Nd.a,Hld.a,Frm.a,nul,t2,h2,t3,h3,t5,t16,hlt',hlt,hg,List.length_map,Int.toNat_natCast,List.size_toArray,List.length_cons,List.length_nil,ByteArray.size_append,ha',hlta,hgy,q1,q2,q3,q4] | refine z01 (cd) ?_ | refine z00 (cd) ?_ | refine z01 (ca0) ?_ | refine z00 (ca0) ?_ | refine And.intro (by omega) ?_ | refine And.intro (fun d hd=>by (repeat (rcases hd with rfl | hd; · exact ⟨rfl,rfl⟩)); cases hd) ?_))
     refine ⟨b.events.length - (j + 1),by omega,j + 1,_,by omega,rfl,eo,⟨?_,?_,?_,?_,?_⟩,?_⟩ <;> (simp (maxSteps:=9^7) only [go_sem,Evt.a,Nd.a,Hld.a,nul,Msg.a,Par.a,Evt.a,Nd.a,Hld.a,Frm.a,nul,t2,h2,t3,h3,t5,t16,hw])
   | false =>
    cases q4:y.done with
    | true =>
     have hv:evX a.events[j]? j e = ([]:List ByteArray):=by rw [hy]; simp only [evX,q1,q2,q3,q4]; rfl
     rw [hv] at hs
     have eo:s = addL (S3 a b) (z09 a.events (b.events.take (j + 1)) 0):=by rw [hs,z0i,← hsv]; rfl
     (repeat (first | simp (maxSteps:=9^7) only [go_sem,Evt.a,Nd.a,Hld.a,nul,Msg.a,Par.a,Evt.a,Nd.a,Hld.a,Frm.a,nul,t2,h2,t3,h3,t5,t16,hlt',hlt,hg,List.length_map,Int.toNat_natCast,List.size_toArray,List.length_cons,List.length_nil,ByteArray.size_append,ha',hlta,hgy,q1,q2,q3,q4] | refine z01 (cd) ?_ | refine z00 (cd) ?_ | refine And.intro (by omega) ?_ | refine And.intro (fun d hd=>by (repeat (rcases hd with rfl | hd; · exact ⟨rfl,rfl⟩)); cases hd) ?_))
     refine ⟨b.events.length - (j + 1),by omega,j + 1,_,by omega,rfl,eo,⟨?_,?_,?_,?_,?_⟩,?_⟩ <;> (simp (maxSteps:=9^7) only [go_sem,Evt.a,Nd.a,Hld.a,nul,Msg.a,Par.a,Evt.a,Nd.a,Hld.a,Frm.a,nul,t2,h2,t3,h3,t5,t16,hw])
    | false =>
     have hv:evX a.events[j]? j e = ([]:List ByteArray):=by rw [hy]; simp only [evX,q1,q2,q3,q4]; rfl
     rw [hv] at hs
     have eo:s = addL (S3 a b) (z09 a.events (b.events.take (j + 1)) 0):=by rw [hs,z0i,← hsv]; rfl
     (repeat (first | simp (maxSteps:=9^7) only [go_sem,Evt.a,Nd.a,Hld.a,nul,Msg.a,Par.a,Evt.a,Nd.a,Hld.a,Frm.a,nul,t2,h2,t3,h3,t5,t16,hlt',hlt,hg,List.length_map,Int.toNat_natCast,List.size_toArray,List.length_cons,List.length_nil,ByteArray.size_append,ha',hlta,hgy,q1,q2,q3,q4] | refine z01 (cd) ?_ | refine z00 (cd) ?_ | refine And.intro (by omega) ?_ | refine And.intro (fun d hd=>by (repeat (rcases hd with rfl | hd; · exact ⟨rfl,rfl⟩)); cases hd) ?_))
     refine ⟨b.events.length - (j + 1),by omega,j + 1,_,by omega,rfl,eo,⟨?_,?_,?_,?_,?_⟩,?_⟩ <;> (simp (maxSteps:=9^7) only [go_sem,Evt.a,Nd.a,Hld.a,nul,Msg.a,Par.a,Evt.a,Nd.a,Hld.a,Frm.a,nul,t2,h2,t3,h3,t5,t16,hw])
 | false =>
  cases q2:e.point != 0 with
  | true =>
   cases q3:e.done with
   | true =>
    cases q4:y.done with
    | true =>
     have hv:evX a.events[j]? j e = ([]:List ByteArray):=by rw [hy]; simp only [evX,q1,q2,q3,q4]; rfl
     rw [hv] at hs
     have eo:s = addL (S3 a b) (z09 a.events (b.events.take (j + 1)) 0):=by rw [hs,z0i,← hsv]; rfl
     (repeat (first | simp (maxSteps:=9^7) only [go_sem,Evt.a,Nd.a,Hld.a,nul,Msg.a,Par.a,Evt.a,Nd.a,Hld.a,Frm.a,nul,t2,h2,t3,h3,t5,t16,hlt',hlt,hg,List.length_map,Int.toNat_natCast,List.size_toArray,List.length_cons,List.length_nil,ByteArray.size_append,ha',hlta,hgy,q1,q2,q3,q4] | refine z01 (cd) ?_ | refine z00 (cd) ?_ | refine And.intro (by omega) ?_ | refine And.intro (fun d hd=>by (repeat (rcases hd with rfl | hd; · exact ⟨rfl,rfl⟩)); cases hd) ?_))
     refine ⟨b.events.length - (j + 1),by omega,j + 1,_,by omega,rfl,eo,⟨?_,?_,?_,?_,?_⟩,?_⟩ <;> (simp (maxSteps:=9^7) only [go_sem,Evt.a,Nd.a,Hld.a,nul,Msg.a,Par.a,Evt.a,Nd.a,Hld.a,Frm.a,nul,t2,h2,t3,h3,t5,t16,hw])
    | false =>
     have hv:evX a.events[j]? j e = [⟨#[101,110,100,101,100,32]⟩ ++ decS (j:Int)]:=by rw [hy]; simp only [evX,q1,q2,q3,q4]; rfl
     rw [hv] at hs
     have eo:addS (s) (⟨#[101,110,100,101,100,32]⟩ ++ decS (j:Int)) = addL (S3 a b) (z09 a.events (b.events.take (j + 1)) 0):=by rw [hs,z0i,← hsv]; rfl
     have ca0:=z1b (s) (⟨#[101,110,100,101,100,32]⟩ ++ decS (j:Int)) (by omega)
     have zz0:=z1r (s) (⟨#[101,110,100,101,100,32]⟩ ++ decS (j:Int))
     (repeat (first | simp (maxSteps:=9^7) only [go_sem,Evt.a,Nd.a,Hld.a,nul,Msg.a,Par.a,Evt.a,Nd.a,Hld.a,Frm.a,nul,t2,h2,t3,h3,t5,t16,hlt',hlt,hg,List.length_map,Int.toNat_natCast,List.size_toArray,List.length_cons,List.length_nil,ByteArray.size_append,ha',hlta,hgy,q1,q2,q3,q4] | refine z01 (cd) ?_ | refine z00 (cd) ?_ | refine z01 (ca0) ?_ | refine z00 (ca0) ?_ | refine And.intro (by omega) ?_ | refine And.intro (fun d hd=>by (repeat (rcases hd with rfl | hd; · exact ⟨rfl,rfl⟩)); cases hd) ?_))
     refine ⟨b.events.length - (j + 1),by omega,j + 1,_,by omega,rfl,eo,⟨?_,?_,?_,?_,?_⟩,?_⟩ <;> (simp (maxSteps:=9^7) only [go_sem,Evt.a,Nd.a,Hld.a,nul,Msg.a,Par.a,Evt.a,Nd.a,Hld.a,Frm.a,nul,t2,h2,t3,h3,t5,t16,hw])
   | false =>
    cases q4:y.done with
    | true =>
     have hv:evX a.events[j]? j e = ([]:List ByteArray):=by rw [hy]; simp only [evX,q1,q2,q3,q4]; rfl
     rw [hv] at hs
     have eo:s = addL (S3 a b) (z09 a.events (b.events.take (j + 1)) 0):=by rw [hs,z0i,← hsv]; rfl
     (repeat (first | simp (maxSteps:=9^7) only [go_sem,Evt.a,Nd.a,Hld.a,nul,Msg.a,Par.a,Evt.a,Nd.a,Hld.a,Frm.a,nul,t2,h2,t3,h3,t5,t16,hlt',hlt,hg,List.length_map,Int.toNat_natCast,List.size_toArray,List.length_cons,List.length_nil,ByteArray.size_append,ha',hlta,hgy,q1,q2,q3,q4] | refine z01 (cd) ?_ | refine z00 (cd) ?_ | refine And.intro (by omega) ?_ | refine And.intro (fun d hd=>by (repeat (rcases hd with rfl | hd; · exact ⟨rfl,rfl⟩)); cases hd) ?_))
     refine ⟨b.events.length - (j + 1),by omega,j + 1,_,by omega,rfl,eo,⟨?_,?_,?_,?_,?_⟩,?_⟩ <;> (simp (maxSteps:=9^7) only [go_sem,Evt.a,Nd.a,Hld.a,nul,Msg.a,Par.a,Evt.a,Nd.a,Hld.a,Frm.a,nul,t2,h2,t3,h3,t5,t16,hw])
    | false =>
     have hv:evX a.events[j]? j e = ([]:List ByteArray):=by rw [hy]; simp only [evX,q1,q2,q3,q4]; rfl
     rw [hv] at hs
     have eo:s = addL (S3 a b) (z09 a.events (b.events.take (j + 1)) 0):=by rw [hs,z0i,← hsv]; rfl
     (repeat (first | simp (maxSteps:=9^7) only [go_sem,Evt.a,Nd.a,Hld.a,nul,Msg.a,Par.a,Evt.a,Nd.a,Hld.a,Frm.a,nul,t2,h2,t3,h3,t5,t16,hlt',hlt,hg,List.length_map,Int.toNat_natCast,List.size_toArray,List.length_cons,List.length_nil,ByteArray.size_append,ha',hlta,hgy,q1,q2,q3,q4] | refine z01 (cd) ?_ | refine z00 (cd) ?_ | refine And.intro (by omega) ?_ | refine And.intro (fun d hd=>by (repeat (rcases hd with rfl | hd; · exact ⟨rfl,rfl⟩)); cases hd) ?_))
     refine ⟨b.events.length - (j + 1),by omega,j + 1,_,by omega,rfl,eo,⟨?_,?_,?_,?_,?_⟩,?_⟩ <;> (simp (maxSteps:=9^7) only [go_sem,Evt.a,Nd.a,Hld.a,nul,Msg.a,Par.a,Evt.a,Nd.a,Hld.a,Frm.a,nul,t2,h2,t3,h3,t5,t16,hw])
  | false =>
   cases q3:e.done with
   | true =>
    cases q4:y.done with
    | true =>
     have hv:evX a.events[j]? j e = ([]:List ByteArray):=by rw [hy]; simp only [evX,q1,q2,q3,q4]; rfl
     rw [hv] at hs
     have eo:s = addL (S3 a b) (z09 a.events (b.events.take (j + 1)) 0):=by rw [hs,z0i,← hsv]; rfl
     (repeat (first | simp (maxSteps:=9^7) only [go_sem,Evt.a,Nd.a,Hld.a,nul,Msg.a,Par.a,Evt.a,Nd.a,Hld.a,Frm.a,nul,t2,h2,t3,h3,t5,t16,hlt',hlt,hg,List.length_map,Int.toNat_natCast,List.size_toArray,List.length_cons,List.length_nil,ByteArray.size_append,ha',hlta,hgy,q1,q2,q3,q4] | refine z01 (cd) ?_ | refine z00 (cd) ?_ | refine And.intro (by omega) ?_ | refine And.intro (fun d hd=>by (repeat (rcases hd with rfl | hd; · exact ⟨rfl,rfl⟩)); cases hd) ?_))
     refine ⟨b.events.length - (j + 1),by omega,j + 1,_,by omega,rfl,eo,⟨?_,?_,?_,?_,?_⟩,?_⟩ <;> (simp (maxSteps:=9^7) only [go_sem,Evt.a,Nd.a,Hld.a,nul,Msg.a,Par.a,Evt.a,Nd.a,Hld.a,Frm.a,nul,t2,h2,t3,h3,t5,t16,hw])
    | false =>
     have hv:evX a.events[j]? j e = [⟨#[101,110,100,101,100,32]⟩ ++ decS (j:Int)]:=by rw [hy]; simp only [evX,q1,q2,q3,q4]; rfl
     rw [hv] at hs
     have eo:addS (s) (⟨#[101,110,100,101,100,32]⟩ ++ decS (j:Int)) = addL (S3 a b) (z09 a.events (b.events.take (j + 1)) 0):=by rw [hs,z0i,← hsv]; rfl
     have ca0:=z1b (s) (⟨#[101,110,100,101,100,32]⟩ ++ decS (j:Int)) (by omega)
     have zz0:=z1r (s) (⟨#[101,110,100,101,100,32]⟩ ++ decS (j:Int))
     (repeat (first | simp (maxSteps:=9^7) only [go_sem,Evt.a,Nd.a,Hld.a,nul,Msg.a,Par.a,Evt.a,Nd.a,Hld.a,Frm.a,nul,t2,h2,t3,h3,t5,t16,hlt',hlt,hg,List.length_map,Int.toNat_natCast,List.size_toArray,List.length_cons,List.length_nil,ByteArray.size_append,ha',hlta,hgy,q1,q2,q3,q4] | refine z01 (cd) ?_ | refine z00 (cd) ?_ | refine z01 (ca0) ?_ | refine z00 (ca0) ?_ | refine And.intro (by omega) ?_ | refine And.intro (fun d hd=>by (repeat (rcases hd with rfl | hd; · exact ⟨rfl,rfl⟩)); cases hd) ?_))
     refine ⟨b.events.length - (j + 1),by omega,j + 1,_,by omega,rfl,eo,⟨?_,?_,?_,?_,?_⟩,?_⟩ <;> (simp (maxSteps:=9^7) only [go_sem,Evt.a,Nd.a,Hld.a,nul,Msg.a,Par.a,Evt.a,Nd.a,Hld.a,Frm.a,nul,t2,h2,t3,h3,t5,t16,hw])
   | false =>
    cases q4:y.done with
    | true =>
     have hv:evX a.events[j]? j e = ([]:List ByteArray):=by rw [hy]; simp only [evX,q1,q2,q3,q4]; rfl
     rw [hv] at hs
     have eo:s = addL (S3 a b) (z09 a.events (b.events.take (j + 1)) 0):=by rw [hs,z0i,← hsv]; rfl
     (repeat (first | simp (maxSteps:=9^7) only [go_sem,Evt.a,Nd.a,Hld.a,nul,Msg.a,Par.a,Evt.a,Nd.a,Hld.a,Frm.a,nul,t2,h2,t3,h3,t5,t16,hlt',hlt,hg,List.length_map,Int.toNat_natCast,List.size_toArray,List.length_cons,List.length_nil,ByteArray.size_append,ha',hlta,hgy,q1,q2,q3,q4] | refine z01 (cd) ?_ | refine z00 (cd) ?_ | refine And.intro (by omega) ?_ | refine And.intro (fun d hd=>by (repeat (rcases hd with rfl | hd; · exact ⟨rfl,rfl⟩)); cases hd) ?_))
     refine ⟨b.events.length - (j + 1),by omega,j + 1,_,by omega,rfl,eo,⟨?_,?_,?_,?_,?_⟩,?_⟩ <;> (simp (maxSteps:=9^7) only [go_sem,Evt.a,Nd.a,Hld.a,nul,Msg.a,Par.a,Evt.a,Nd.a,Hld.a,Frm.a,nul,t2,h2,t3,h3,t5,t16,hw])
    | false =>
     have hv:evX a.events[j]? j e = ([]:List ByteArray):=by rw [hy]; simp only [evX,q1,q2,q3,q4]; rfl
     rw [hv] at hs
     have eo:s = addL (S3 a b) (z09 a.events (b.events.take (j + 1)) 0):=by rw [hs,z0i,← hsv]; rfl
     (repeat (first | simp (maxSteps:=9^7) only [go_sem,Evt.a,Nd.a,Hld.a,nul,Msg.a,Par.a,Evt.a,Nd.a,Hld.a,Frm.a,nul,t2,h2,t3,h3,t5,t16,hlt',hlt,hg,List.length_map,Int.toNat_natCast,List.size_toArray,List.length_cons,List.length_nil,ByteArray.size_append,ha',hlta,hgy,q1,q2,q3,q4] | refine z01 (cd) ?_ | refine z00 (cd) ?_ | refine And.intro (by omega) ?_ | refine And.intro (fun d hd=>by (repeat (rcases hd with rfl | hd; · exact ⟨rfl,rfl⟩)); cases hd) ?_))
     refine ⟨b.events.length - (j + 1),by omega,j + 1,_,by omega,rfl,eo,⟨?_,?_,?_,?_,?_⟩,?_⟩ <;> (simp (maxSteps:=9^7) only [go_sem,Evt.a,Nd.a,Hld.a,nul,Msg.a,Par.a,Evt.a,Nd.a,Hld.a,Frm.a,nul,t2,h2,t3,h3,t5,t16,hw])
theorem zfr (a b:Frm) (h:∀ x,x ∈ z1i a b->x.data.toList ≠ []):addL (S3 a b) (z26 a.events b.events) = z4h (z1i a b) ⟨#[32]⟩:=by
 rw [← addL_join _ h]
 unfold z1i z3x S3 S2 S1
 rw [z0i,z0i,z0i]
theorem zhm (x:UInt8) (l:List UInt8) (t:ByteArray):((⟨(x :: l).toArray⟩:ByteArray) ++ t).data.toList ≠ []:=by
 rw [ByteArray.data_append,Array.toList_append]
 simp
theorem app_ne (s t:ByteArray) (h:s.data.toList ≠ []):(s ++ t).data.toList ≠ []:=by
 rw [ByteArray.data_append,Array.toList_append]
 exact fun q=>h (List.append_eq_nil_iff.1 q).1
theorem ltcW_ne (x:UInt8) (h:Hld):(ltcW ⟨#[x]⟩ h).data.toList ≠ []:=by
 unfold ltcW
 exact app_ne _ _ (app_ne _ _ (zhm x [] _))
theorem evX_ne (o:Option Evt) (i:Nat) (e:Evt):∀ x,x ∈ evX o i e->x.data.toList ≠ []:=by
 have h1:(zr8 i).data.toList ≠ []:=zhm _ _ _
 have h2:(zhn i).data.toList ≠ []:=zhm _ _ _
 have h3:(zio i).data.toList ≠ []:=zhm _ _ _
 intro x hx
 cases o with
 | none =>
  simp only [evX] at hx
  rcases List.mem_append.1 hx with hx | hx
  ·rw [List.mem_singleton.1 hx]; exact h1
  ·rcases List.mem_append.1 hx with hx | hx
   ·split at hx
    ·rw [List.mem_singleton.1 hx]; exact h2
    ·cases hx
   ·split at hx
    ·rw [List.mem_singleton.1 hx]; exact h3
    ·cases hx
 | some y =>
  simp only [evX] at hx
  rcases List.mem_append.1 hx with hx | hx
  ·split at hx
   ·rw [List.mem_singleton.1 hx]; exact h2
   ·cases hx
  ·split at hx
   ·rw [List.mem_singleton.1 hx]; exact h3
   ·cases hx
theorem zcl (a:List Evt):∀ (l:List Evt) (i:Nat),∀ x,x ∈ z09 a l i->x.data.toList ≠ []
 | [],i,x,hx=>by cases hx
 | e :: l,i,x,hx=>by
  rw [z09] at hx
  rcases List.mem_append.1 hx with hx | hx
  ·exact evX_ne _ i e x hx
  ·exact zcl a l (i + 1) x hx
theorem zmh (a b:Frm):∀ x,x ∈ z1i a b->x.data.toList ≠ []:=fun x hx=>by
 rcases List.mem_append.1 hx with hx | hx
 ·rcases List.mem_append.1 hx with hx | hx
  ·rcases List.mem_append.1 hx with hx | hx
   ·obtain ⟨h,_,rfl⟩:=List.mem_map.1 hx
    exact app_ne _ _ (ltcW_ne _ h)
   ·obtain ⟨h,_,rfl⟩:=List.mem_map.1 hx
    exact ltcW_ne _ h
  ·obtain ⟨h,_,rfl⟩:=List.mem_map.1 hx
   exact zhm _ [] _
 ·exact zcl _ _ 0 x hx
set_option maxHeartbeats 4000000 in
theorem rbt_ok (a b:Frm) (ha:a.few) (hb:b.few):AFn Tryz.prog 7 [a.a,b.a] (.str (z4h (z1i a b) ⟨#[32]⟩)):=by
 refine fn_rbt rfl ?_
 have n1:=ha.holds; have n2:=hb.holds
 rw [← zfr a b (zmh a b)]
 obtain ⟨R,hR⟩:∃ R,addL (S3 a b) (z26 a.events b.events) = R:=⟨_,rfl⟩
 rw [hR]
 simp only [Frm.a]
 simp (maxSteps:=9^7) only [go_sem,Evt.a,Nd.a,Hld.a,nul,Msg.a,Par.a,Evt.a,Nd.a,Hld.a,Frm.a,nul,List.length_map]
 refine z0c (rbI1 a b) (k:=b.holds.length) ⟨0,⟨#[]⟩,Nat.zero_le _,rfl,rfl,⟨?_,?_,?_,?_,?_⟩,?_,?_,?_⟩ (rb1 a b ha hb _ ?_) <;> try ((simp (maxSteps:=9^7) only [go_sem,Evt.a,Nd.a,Hld.a,nul,Msg.a,Par.a,Evt.a,Nd.a,Hld.a,Frm.a,nul,List.length_map]) <;> rfl)
 rintro σ ⟨t2,h2,t3,h3,t5⟩
 simp (maxSteps:=9^7) only [go_sem,Evt.a,Nd.a,Hld.a,nul,Msg.a,Par.a,Evt.a,Nd.a,Hld.a,Frm.a,nul,t2,h2,t3,h3,t5,List.length_map]
 refine z0c (rbI2 a b) (k:=a.holds.length) ⟨0,S1 a b,Nat.zero_le _,rfl,rfl,⟨?_,?_,?_,?_,?_⟩,?_,?_,?_⟩ (rb2 a b ha hb _ ?_) <;> try ((simp (maxSteps:=9^7) only [go_sem,Evt.a,Nd.a,Hld.a,nul,Msg.a,Par.a,Evt.a,Nd.a,Hld.a,Frm.a,nul,t2,h2,t3,h3,t5,List.length_map]) <;> rfl)
 clear t2 h2 t3 h3 t5
 clear σ
 rintro σ ⟨t2,h2,t3,h3,t5⟩
 simp (maxSteps:=9^7) only [go_sem,Evt.a,Nd.a,Hld.a,nul,Msg.a,Par.a,Evt.a,Nd.a,Hld.a,Frm.a,nul,t2,h2,t3,h3,t5,List.length_map]
 refine z0c (rbI3 a b) (k:=b.nodes.length) ⟨0,S2 a b,Nat.zero_le _,rfl,rfl,⟨?_,?_,?_,?_,?_⟩,?_,?_,?_⟩ (rb3 a b ha hb _ ?_) <;> try ((simp (maxSteps:=9^7) only [go_sem,Evt.a,Nd.a,Hld.a,nul,Msg.a,Par.a,Evt.a,Nd.a,Hld.a,Frm.a,nul,t2,h2,t3,h3,t5,List.length_map]) <;> rfl)
 clear t2 h2 t3 h3 t5
 clear σ
 rintro σ ⟨t2,h2,t3,h3,t5⟩
 simp (maxSteps:=9^7) only [go_sem,Evt.a,Nd.a,Hld.a,nul,Msg.a,Par.a,Evt.a,Nd.a,Hld.a,Frm.a,nul,t2,h2,t3,h3,t5,List.length_map]
 refine z0c (rbI4 a b) (k:=b.events.length) ⟨0,S3 a b,Nat.zero_le _,rfl,rfl,⟨?_,?_,?_,?_,?_⟩,?_⟩ (rb4 a b ha hb _ ?_) <;> try ((simp (maxSteps:=9^7) only [go_sem,Evt.a,Nd.a,Hld.a,nul,Msg.a,Par.a,Evt.a,Nd.a,Hld.a,Frm.a,nul,t2,h2,t3,h3,t5,List.length_map]) <;> rfl)
 clear t2 h2 t3 h3 t5
 clear σ
 rintro σ ⟨t2,h2,t3,h3,t5⟩
 rw [hR] at t5
 simp (maxSteps:=9^7) only [go_sem,Evt.a,Nd.a,Hld.a,nul,Msg.a,Par.a,Evt.a,Nd.a,Hld.a,Frm.a,nul,t2,h2,t3,h3,t5,List.length_map]
end
end Go.Proofs.YtlhblpbfhfhlpaaGreatDoor
