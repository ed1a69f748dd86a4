/-
  Part 13 of a proof: TeC, ShF, LoA, ShI, ShJ, ShM, LoC, ShG.
-/
import Derived.Test.YtkfciapeikkmfaaDoorST12
set_option linter.unusedVariables false
set_option linter.unusedSimpArgs false
set_option maxRecDepth 100000
namespace Go.Proofs.YtkfciapeikkmfaaDoor
section
open Go.RowKit
attribute [local go_sem ↓] z1m z0h
structure Seat where
 n:Nd
 s:Spn
 ms:List Msg
def Seat.a (x:Seat):AV:=.agg [.int .i64 x.n.slot,.int .i64 x.n.level,.sl (x.n.pivots.map AV.str),.sl (x.n.kids.map (AV.int .i64)),.str x.n.high,.bool x.n.top,.int .i64 x.n.right,.int .i64 x.n.seen,.sl (x.n.msgs.map Msg.a),.sl (x.n.rows.map Par.a),.str x.s.lo,.str x.s.hi,.bool x.s.op,.sl (x.ms.map Msg.a)]
def zvd (x:Seat) (j:Nat) (kid:Nd):Seat :=
 ⟨kid,x.s.meet (z0y x.n.pivots j),z1t (z6y x.n.msgs (x.s.meet (z0y x.n.pivots j))) (z6y x.ms (x.s.meet (z0y x.n.pivots j)))⟩
def z0p (l:List Nd) (x:Seat):Nat->List Int->List Seat × Bool
 | _,[]=>([],true)
 | j,k :: ks=>if (z28 l k).2 = true∧(z28 l k).1.level = x.n.level - 1 then (zvd x j (z28 l k).1 :: (z0p l x (j + 1) ks).1,(z0p l x (j + 1) ks).2) else ([],false)
def z1a (l:List Nd):Nat->List Seat->Nat->List Seat × Bool
 | 0,out,_=>(out,true)
 | f + 1,out,i=>match out[i]? with
  | none=>(out,true)
  | some x=>if l.length < out.length then (out,false) else if x.n.level = 0 then z1a l f out (i + 1)
   else if x.n.level < 0∨z60 x.n.pivots x.n.kids = false then (out,false)
   else if (z0p l x 0 x.n.kids).2 = true then z1a l f (out ++ (z0p l x 0 x.n.kids).1) (i + 1) else (out ++ (z0p l x 0 x.n.kids).1,false)
def z1l (l:List Nd) (root:Int):List Seat × Bool :=
 if (z28 l root).2 = true then z1a l (l.length + 1) [⟨(z28 l root).1,⟨nul0,nul0,true⟩,[]⟩] 0 else ([],false)
structure Nd.Lt (n:Nd):Prop where
 lev:-9223372036854775808≤n.level∧n.level≤9223372036854775807
 piv:∀ x,x ∈ n.pivots->x.size≤2000
 npiv:n.pivots.length≤2000
 nkid:n.kids.length≤2000
 high:n.high.size≤2000
 msgs:∀ m,m ∈ n.msgs->m.le 2000
 nmsg:n.msgs.length≤2000
 rows:∀ p,p ∈ n.rows->p.key.size≤2000∧p.val.size≤2000
 nrow:n.rows.length≤2000
theorem Nd.zero_lt:Nd.zero.Lt:=⟨⟨by decide,by decide⟩,fun x h=>(by cases h),by decide,by decide,by decide,fun x h=>(by cases h),by decide,fun x h=>(by cases h),by decide⟩
theorem zdv (slot:Int):∀ (l:List Nd) (o:Nd) (n:Nat),(z3v slot o n l).1 = o∨(z3v slot o n l).1 ∈ l
 | [],o,n=>.inl rfl
 | x :: l,o,n=>by
  rw [z3v]
  split
  ·rcases zdv slot l x (n + 1) with h | h
   ·exact .inr (by rw [h]; exact List.mem_cons_self ..)
   ·exact .inr (List.mem_cons_of_mem _ h)
  ·rcases zdv slot l o n with h | h
   ·exact .inl h
   ·exact .inr (List.mem_cons_of_mem _ h)
theorem zfj {l:List Nd} (h:∀ n,n ∈ l->n.Lt) (slot:Int):(z28 l slot).1.Lt:=by
 rcases zdv slot l Nd.zero 0 with e | e
 ·show (z3v slot Nd.zero 0 l).1.Lt
  rw [e]; exact Nd.zero_lt
 ·exact h _ e
theorem zwv {p:List ByteArray} (h:∀ x,x ∈ p->x.size≤2000) (j:Nat):(z0y p j).le 2000:=by
 unfold z0y
 refine norm_le ⟨?_,?_⟩
 ·show (if j = 0 then nul0 else p.getD (j - 1) nul0).size≤2000
  split
  ·exact Nat.zero_le _
  ·rcases Nat.lt_or_ge (j - 1) p.length with q | q
   ·exact h _ (zff q)
   ·rw [List.getD_eq_getElem?_getD,List.getElem?_eq_none q]; exact Nat.zero_le _
 ·show (if j < p.length then p.getD j nul0 else nul0).size≤2000
  split
  ·rename_i q; exact h _ (zff q)
  ·exact Nat.zero_le _
theorem clipM_le {m:Msg} {s:Spn} (hm:m.le 2000) (hs:s.le 2000):(zmu m s).1.le 2000:=by
 unfold zmu
 split
 ·exact ⟨Nat.zero_le _,Nat.zero_le _,Nat.zero_le _⟩
 ·show (if m.kind = 4 then _ else m:Msg).le 2000
  split
  ·rename_i h4
   have:m.span.le 2000:=by
    unfold Msg.span
    rw [if_pos h4]; exact ⟨hm.1,hm.2.1⟩
   have q:=zv9 this hs
   exact ⟨q.1,q.2,hm.2.2⟩
  ·exact hm
theorem y9d {l:List Msg} {s:Spn} (hl:∀ m,m ∈ l->m.le 2000) (hs:s.le 2000):∀ m,m ∈ z6y l s->m.le 2000:=by
 intro m hm
 unfold z6y at hm
 rw [List.mem_filterMap] at hm
 obtain ⟨y,hy,e⟩:=hm
 split at e
 ·cases e; exact clipM_le (hl y hy) hs
 ·cases e
structure SeatOk (x:Seat) (b:Nat):Prop where
 lt:x.n.Lt
 s:x.s.le 2000
 ms:∀ m,m ∈ x.ms->m.le 2000
 nms:x.ms.length≤b
theorem kidSeat_ok {x:Seat} {b:Nat} (h:SeatOk x b) (j:Nat) {kid:Nd} (hk:kid.Lt):SeatOk (zvd x j kid) (b + 2000):=by
 have hs:=zv9 h.s (zwv h.lt.piv j)
 have l1:=z9y x.n.msgs (x.s.meet (z0y x.n.pivots j))
 have l2:=z9y x.ms (x.s.meet (z0y x.n.pivots j))
 have l3:=h.lt.nmsg
 have l4:=h.nms
 refine ⟨hk,hs,fun m hm=>?_,?_⟩
 ·rcases zd8 _ _ _ (Nat.le_refl _) m hm with q | q
  ·exact y9d h.lt.msgs hs m q
  ·exact y9d h.ms hs m q
 ·show (z1t _ _).length≤_
  rw [zd9 _ _ _ (Nat.le_refl _)]
  omega
def zxh:Reg:=⟨[],[⟨.mknil 14 43,some 4,none,[],[]⟩,⟨.mv (.c (.bool false)),some 5,none,[],[]⟩],[4],[],false⟩
def zg6:List ROp:=[⟨.mv (.t 0),some 17,none,[19,6],[]⟩,⟨.mv (.t 1),some 18,none,[19,6],[]⟩,⟨.callv (.c (.clo 28 [] [])) [(.t 17),(.t 18)],some 19,none,[6],[]⟩,⟨.mv (.t 19),some 16,none,[6],[]⟩,⟨.ext 0 (.t 16),some 20,none,[6],[]⟩,⟨.ext 1 (.t 16),some 21,none,[6],[]⟩,⟨.alloc 10 27 (.agg [(.int .i64 0),(.int .i64 0),(.sl []),(.sl []),(.str ⟨#[]⟩),(.bool false),(.int .i64 0),(.int .i64 0),(.sl []),(.sl [])]),some 6,none,[],[]⟩,⟨.store 10 (.t 6) (.t 20),none,none,[],[]⟩,⟨.mv (.t 21),some 7,none,[],[]⟩]
def zxg:Reg:=⟨[],zg6,[19,6],[],false⟩
def zxf:Reg:=⟨[],[⟨.mv (.t 7),some 22,none,[],[]⟩,⟨.un .not (.t 22),some 23,none,[],[]⟩],[],[],false⟩
def zxe:Reg:=⟨[],[⟨.mknil 14 43,some 4,none,[],[]⟩,⟨.mv (.c (.bool false)),some 5,none,[],[]⟩],[4],[],false⟩
def zg5:List ROp:=[⟨.load 10 true (.t 6),some 24,none,[27],[]⟩,⟨.bld [(.str ⟨#[]⟩),(.str ⟨#[]⟩),(.bool false)] [⟨2,1,(.c (.bool true))⟩],some 25,none,[27],[]⟩,⟨.bld [(.int .i64 0),(.int .i64 0),(.sl []),(.sl []),(.str ⟨#[]⟩),(.bool false),(.int .i64 0),(.int .i64 0),(.sl []),(.sl []),(.str ⟨#[]⟩),(.str ⟨#[]⟩),(.bool false),(.sl [])] [⟨0,10,(.t 24)⟩,⟨10,3,(.t 25)⟩],some 26,none,[27],[]⟩,⟨.bsl 14 43 [(.t 26)],some 27,none,[],[]⟩,⟨.mv (.t 27),some 8,none,[],[]⟩]
def zxd:Reg:=⟨[],zg5,[27],[],false⟩
def zxc:Reg:=⟨[],[⟨.mv (.c (.int .i64 0)),some 9,none,[],[]⟩],[],[],false⟩
def zg4:List ROp:=[⟨.mv (.t 9),some 28,none,[],[]⟩,⟨.mv (.t 8),some 29,none,[],[]⟩,⟨.len false (.t 29),some 30,none,[],[]⟩,⟨.bin .lss (.t 28) (.t 30),some 31,none,[],[]⟩]
def zxb:Reg:=⟨[],zg4,[],[],false⟩
def zg3:List ROp:=[⟨.mv (.t 8),some 34,none,[10],[]⟩,⟨.mv (.t 9),some 35,none,[10],[]⟩,⟨.iaddr 14 (.t 34) (.t 35),some 36,none,[10],[]⟩,⟨.load 14 true (.t 36),some 37,none,[10],[]⟩,⟨.alloc 14 43 (.agg [(.int .i64 0),(.int .i64 0),(.sl []),(.sl []),(.str ⟨#[]⟩),(.bool false),(.int .i64 0),(.int .i64 0),(.sl []),(.sl []),(.str ⟨#[]⟩),(.str ⟨#[]⟩),(.bool false),(.sl [])]),some 10,none,[],[]⟩,⟨.store 14 (.t 10) (.t 37),none,none,[],[]⟩]
def zxa:Reg:=⟨[],zg3,[10],[],false⟩
def zg2:List ROp:=[⟨.mv (.t 8),some 38,none,[],[]⟩,⟨.len false (.t 38),some 39,none,[],[]⟩,⟨.mv (.t 0),some 40,none,[],[]⟩,⟨.len false (.t 40),some 41,none,[],[]⟩,⟨.bin .gtr (.t 39) (.t 41),some 42,none,[],[]⟩]
def zx9:Reg:=⟨[],zg2,[],[],false⟩
def zg1:List ROp:=[⟨.mv (.t 8),some 43,none,[],[]⟩,⟨.mv (.t 43),some 4,none,[],[]⟩,⟨.mv (.c (.bool false)),some 5,none,[],[]⟩]
def zx8:Reg:=⟨[],zg1,[],[],false⟩
def zbb:List ROp:=[⟨.faddr 0 (.t 10),some 44,none,[],[]⟩,⟨.faddr 1 (.t 44),some 45,none,[],[]⟩,⟨.load 1 false (.t 45),some 46,none,[],[]⟩,⟨.bin .eql (.t 46) (.c (.int .i64 0)),some 47,none,[],[]⟩]
def zpz:Reg:=⟨[],zbb,[],[],false⟩
def zba:List ROp:=[⟨.faddr 0 (.t 10),some 48,none,[59],[]⟩,⟨.faddr 1 (.t 48),some 49,none,[59],[]⟩,⟨.load 1 false (.t 49),some 50,none,[59],[]⟩,⟨.bin .lss (.t 50) (.c (.int .i64 0)),some 51,none,[59],[]⟩,⟨.mv (.t 51),some 52,none,[59],[]⟩,⟨.faddr 0 (.t 10),some 53,(some (52,false)),[59],[]⟩,⟨.faddr 2 (.t 53),some 54,(some (52,false)),[59],[]⟩,⟨.load 1 false (.t 54),some 55,(some (52,false)),[59],[]⟩,⟨.faddr 0 (.t 10),some 56,(some (52,false)),[59],[]⟩,⟨.faddr 3 (.t 56),some 57,(some (52,false)),[59],[]⟩,⟨.load 1 false (.t 57),some 58,(some (52,false)),[59],[]⟩,⟨.callv (.c (.clo 29 [] [])) [(.t 55),(.t 58)],some 59,(some (52,false)),[],[]⟩,⟨.un .not (.t 59),some 60,(some (52,false)),[],[]⟩,⟨.pick (.t 52) (.c (.bool true)) (.t 60),some 61,none,[],[]⟩]
def zpy:Reg:=⟨[],zba,[59],[],false⟩
def zb9:List ROp:=[⟨.mv (.t 8),some 62,none,[],[]⟩,⟨.mv (.t 62),some 4,none,[],[]⟩,⟨.mv (.c (.bool false)),some 5,none,[],[]⟩]
def zpx:Reg:=⟨[],zb9,[],[],false⟩
def zpw:Reg:=⟨[],[⟨.mv (.c (.int .i64 0)),some 11,none,[],[]⟩],[],[],false⟩
def zb8:List ROp:=[⟨.mv (.t 11),some 63,none,[],[]⟩,⟨.faddr 0 (.t 10),some 64,none,[],[]⟩,⟨.faddr 3 (.t 64),some 65,none,[],[]⟩,⟨.load 1 false (.t 65),some 66,none,[],[]⟩,⟨.len false (.t 66),some 67,none,[],[]⟩,⟨.bin .lss (.t 63) (.t 67),some 68,none,[],[]⟩]
def zpv:Reg:=⟨[],zb8,[],[],false⟩
def zb7:List ROp:=[⟨.mv (.t 0),some 72,none,[79,12],[]⟩,⟨.faddr 0 (.t 10),some 73,none,[79,12],[]⟩,⟨.faddr 3 (.t 73),some 74,none,[79,12],[]⟩,⟨.load 1 false (.t 74),some 75,none,[79,12],[]⟩,⟨.mv (.t 11),some 76,none,[79,12],[]⟩,⟨.iaddr 1 (.t 75) (.t 76),some 77,none,[79,12],[]⟩,⟨.load 1 false (.t 77),some 78,none,[79,12],[]⟩,⟨.callv (.c (.clo 28 [] [])) [(.t 72),(.t 78)],some 79,none,[12],[]⟩,⟨.mv (.t 79),some 71,none,[12],[]⟩,⟨.ext 0 (.t 71),some 80,none,[12],[]⟩,⟨.ext 1 (.t 71),some 81,none,[12],[]⟩,⟨.alloc 10 27 (.agg [(.int .i64 0),(.int .i64 0),(.sl []),(.sl []),(.str ⟨#[]⟩),(.bool false),(.int .i64 0),(.int .i64 0),(.sl []),(.sl [])]),some 12,none,[],[]⟩,⟨.store 10 (.t 12) (.t 80),none,none,[],[]⟩,⟨.mv (.t 81),some 13,none,[],[]⟩]
def zpu:Reg:=⟨[],zb7,[79,12],[],false⟩
def zb6:List ROp:=[⟨.mv (.t 13),some 82,none,[],[]⟩,⟨.un .not (.t 82),some 83,none,[],[]⟩,⟨.mv (.t 83),some 84,none,[],[]⟩,⟨.faddr 1 (.t 12),some 85,(some (84,false)),[],[]⟩,⟨.load 1 false (.t 85),some 86,(some (84,false)),[],[]⟩,⟨.faddr 0 (.t 10),some 87,(some (84,false)),[],[]⟩,⟨.faddr 1 (.t 87),some 88,(some (84,false)),[],[]⟩,⟨.load 1 false (.t 88),some 89,(some (84,false)),[],[]⟩,⟨.bin .sub (.t 89) (.c (.int .i64 1)),some 90,(some (84,false)),[],[]⟩,⟨.bin .neq (.t 86) (.t 90),some 91,(some (84,false)),[],[]⟩,⟨.pick (.t 84) (.c (.bool true)) (.t 91),some 92,none,[],[]⟩]
def zpt:Reg:=⟨[],zb6,[],[],false⟩
def zb5:List ROp:=[⟨.mv (.t 8),some 93,none,[],[]⟩,⟨.mv (.t 93),some 4,none,[],[]⟩,⟨.mv (.c (.bool false)),some 5,none,[],[]⟩]
def zps:Reg:=⟨[],zb5,[],[],false⟩
def zdi:List ROp:=[⟨.faddr 10 (.t 10),some 94,none,[100,101,14],[]⟩,⟨.load 3 true (.t 94),some 95,none,[100,101,14],[]⟩,⟨.faddr 0 (.t 10),some 96,none,[100,101,14],[]⟩,⟨.faddr 2 (.t 96),some 97,none,[100,101,14],[]⟩,⟨.load 1 false (.t 97),some 98,none,[100,101,14],[]⟩,⟨.mv (.t 11),some 99,none,[100,101,14],[]⟩,⟨.callv (.c (.clo 31 [] [])) [(.t 98),(.t 99)],some 100,none,[101,14],[]⟩,⟨.callv (.c (.clo 30 [] [])) [(.t 95),(.t 100)],some 101,none,[14],[]⟩,⟨.alloc 3 29 (.agg [(.str ⟨#[]⟩),(.str ⟨#[]⟩),(.bool false)]),some 14,none,[100,101],[]⟩]
def zpr:Reg:=⟨zdi,[⟨.store 3 (.t 14) (.t 101),none,none,[],[14]⟩],[100,101,14],[],true⟩
def zb4:List ROp:=[⟨.callv (.c (.clo 33 [] [])) [(.t 108),(.t 109)],some 110,none,[111,112],[]⟩,⟨.bsl 1 24 [(.t 106),(.t 110)],some 111,none,[112],[]⟩,⟨.callv (.c (.clo 32 [] [])) [(.t 111)],some 112,none,[],[]⟩,⟨.mv (.t 112),some 15,none,[],[]⟩]
def zdh:List ROp:=[⟨.faddr 0 (.t 10),some 102,none,[106,110,111,112],[]⟩,⟨.faddr 8 (.t 102),some 103,none,[106,110,111,112],[]⟩,⟨.load 1 false (.t 103),some 104,none,[106,110,111,112],[]⟩,⟨.load 3 true (.t 14),some 105,none,[106,110,111,112],[]⟩,⟨.callv (.c (.clo 33 [] [])) [(.t 104),(.t 105)],some 106,none,[110,111,112],[]⟩,⟨.faddr 13 (.t 10),some 107,none,[106,110,111,112],[]⟩,⟨.load 1 false (.t 107),some 108,none,[106,110,111,112],[]⟩,⟨.load 3 true (.t 14),some 109,none,[106,110,111,112],[]⟩]
def zpq:Reg:=⟨zdh,zb4,[106,110,111,112],[],true⟩
def zb3:List ROp:=[⟨.mv (.t 8),some 113,none,[118],[]⟩,⟨.load 10 true (.t 12),some 114,none,[118],[]⟩,⟨.load 3 true (.t 14),some 115,none,[118],[]⟩,⟨.mv (.t 15),some 116,none,[118],[]⟩,⟨.bld [(.int .i64 0),(.int .i64 0),(.sl []),(.sl []),(.str ⟨#[]⟩),(.bool false),(.int .i64 0),(.int .i64 0),(.sl []),(.sl []),(.str ⟨#[]⟩),(.str ⟨#[]⟩),(.bool false),(.sl [])] [⟨0,10,(.t 114)⟩,⟨10,3,(.t 115)⟩,⟨13,1,(.t 116)⟩],some 117,none,[118],[]⟩,⟨.bsl 14 43 [(.t 117)],some 118,none,[],[]⟩,⟨.append 14 43 216 (.t 113) (.t 118),some 119,none,[],[]⟩,⟨.mv (.t 119),some 8,none,[],[]⟩]
def zpp:Reg:=⟨[],zb3,[118],[],false⟩
def zb2:List ROp:=[⟨.mv (.t 11),some 69,none,[],[]⟩,⟨.bin .add (.t 69) (.c (.int .i64 1)),some 70,none,[],[]⟩,⟨.mv (.t 70),some 11,none,[],[]⟩]
def zpo:Reg:=⟨[],zb2,[],[],false⟩
def z8k:IR:=(.seq (.seq (.reg zpv)
 (.cond (.t 68) .skip
 (.exit 2)))
 (.seq (.block 3 (.seq (.reg zpu)
 (.seq (.seq (.reg zpt)
 (.cond (.t 92) (.seq (.reg zps)
 .ret)
 .skip))
 (.seq (.reg zpr)
 (.seq (.reg zpq)
 (.reg zpp))))))
 (.reg zpo)))
def zb1:List ROp:=[⟨.mv (.t 9),some 32,none,[],[]⟩,⟨.bin .add (.t 32) (.c (.int .i64 1)),some 33,none,[],[]⟩,⟨.mv (.t 33),some 9,none,[],[]⟩]
def zpn:Reg:=⟨[],zb1,[],[],false⟩
def zj5:IR:=(.seq (.seq (.reg zxb)
 (.cond (.t 31) .skip
 (.exit 0)))
 (.seq (.block 1 (.seq (.reg zxa)
 (.seq (.seq (.reg zx9)
 (.cond (.t 42) (.seq (.reg zx8)
 .ret)
 .skip))
 (.seq (.seq (.reg zpz)
 (.cond (.t 47) (.exit 1)
 .skip))
 (.seq (.seq (.reg zpy)
 (.cond (.t 61) (.seq (.reg zpx)
 .ret)
 .skip))
 (.seq (.reg zpw)
 (.block 2 (.loop z8k))))))))
 (.reg zpn)))
def zb0:List ROp:=[⟨.mv (.t 8),some 120,none,[],[]⟩,⟨.mv (.t 120),some 4,none,[],[]⟩,⟨.mv (.c (.bool true)),some 5,none,[],[]⟩]
def zpm:Reg:=⟨[],zb0,[],[],false⟩
def y8h:IR:=(.seq (.reg zxh)
 (.seq (.reg zxg)
 (.seq (.seq (.reg zxf)
 (.cond (.t 23) (.seq (.reg zxe)
 .ret)
 .skip))
 (.seq (.reg zxd)
 (.seq (.seq (.reg zxc)
 (.block 0 (.loop zj5)))
 (.seq (.reg zpm)
 .ret))))))
def zwc:List RDesc:=[(.tmp 4),(.tmp 5)]
theorem e_seats_0:EqR zxh [⟨.mknil 14 43,some 4,none,[],[]⟩,⟨.mv (.c (.bool false)),some 5,none,[],[]⟩] [4]:=fun _ _ _=>rfl
theorem e_seats_1:EqR zxg zg6 [19,6]:=fun _ _ _=>rfl
theorem e_seats_2:EqR zxf [⟨.mv (.t 7),some 22,none,[],[]⟩,⟨.un .not (.t 22),some 23,none,[],[]⟩] []:=fun _ _ _=>rfl
theorem e_seats_3:EqR zxe [⟨.mknil 14 43,some 4,none,[],[]⟩,⟨.mv (.c (.bool false)),some 5,none,[],[]⟩] [4]:=fun _ _ _=>rfl
theorem e_seats_4:EqR zxd zg5 [27]:=fun _ _ _=>rfl
theorem e_seats_5:EqR zxc [⟨.mv (.c (.int .i64 0)),some 9,none,[],[]⟩] []:=fun _ _ _=>rfl
theorem e_seats_6:EqR zxb zg4 []:=fun _ _ _=>rfl
theorem e_seats_7:EqR zxa zg3 [10]:=fun _ _ _=>rfl
theorem e_seats_8:EqR zx9 zg2 []:=fun _ _ _=>rfl
theorem e_seats_9:EqR zx8 zg1 []:=fun _ _ _=>rfl
theorem e_seats_10:EqR zpz zbb []:=fun _ _ _=>rfl
theorem e_seats_11:EqR zpy zba [59]:=fun _ _ _=>rfl
theorem e_seats_12:EqR zpx zb9 []:=fun _ _ _=>rfl
theorem e_seats_13:EqR zpw [⟨.mv (.c (.int .i64 0)),some 11,none,[],[]⟩] []:=fun _ _ _=>rfl
theorem e_seats_14:EqR zpv zb8 []:=fun _ _ _=>rfl
theorem e_seats_15:EqR zpu zb7 [79,12]:=fun _ _ _=>rfl
theorem e_seats_16:EqR zpt zb6 []:=fun _ _ _=>rfl
theorem e_seats_17:EqR zps zb5 []:=fun _ _ _=>rfl
theorem e_seats_18 (C:FuncId->List AV->AV->Prop) (σ:St) (K:St->Prop):z0m C zpr σ K = z07 C [] [⟨.store 3 (.t 14) (.t 101),none,none,[],[14]⟩] zdi (σ.kills [100,101,14]) K:=rfl
theorem e_seats_19 (C:FuncId->List AV->AV->Prop) (σ:St) (K:St->Prop):z0m C zpq σ K = z07 C [] zb4 zdh (σ.kills [106,110,111,112]) K:=rfl
theorem e_seats_20:EqR zpp zb3 [118]:=fun _ _ _=>rfl
theorem e_seats_21:EqR zpo zb2 []:=fun _ _ _=>rfl
theorem e_seats_23:EqR zpn zb1 []:=fun _ _ _=>rfl
theorem e_seats_25:EqR zpm zb0 []:=fun _ _ _=>rfl
theorem fn_seats {args:List AV} {r:AV} (ha:args.length.ble Tryd.f11.ntmps = true) (h:run (AFn Tryd.prog) y8h (endQ zwc r) (z0a args)):AFn Tryd.prog 11 args r :=
 AFn.of_code (pv:=false) (hint:=fun _=>[]) (c:=Tryd.f11.body.getD .skip) (by kernel_rfl) (by kernel_rfl) Tryd.func11 (by kernel_rfl) (by kernel_rfl) (by kernel_rfl) (of_decide_eq_true (by kernel_rfl)) (Nat.le_of_ble_eq_true ha) (Nat.le_of_ble_eq_true (by kernel_rfl)) (z0b h)
attribute [local go_sem ↓] y8h
attribute [local go_sem] zwc e_seats_0 e_seats_1 zg6 e_seats_2 e_seats_3 e_seats_4 zg5 e_seats_5 e_seats_6 zg4 e_seats_7 zg3 e_seats_8 zg2 e_seats_9 zg1 e_seats_10 zbb e_seats_11 zba e_seats_12 zb9 e_seats_13 e_seats_14 zb8 e_seats_15 zb7 e_seats_16 zb6 e_seats_17 zb5 e_seats_18 zdi e_seats_19 zb4 zdh e_seats_20 zb3 e_seats_21 zb2 e_seats_23 zb1 e_seats_25 zb0
def kdInv (l:List Nd) (x:Seat) (i:Nat) (out:List Seat) (R:List Seat × Bool) (k:Nat) (σ:St):Prop :=
 ∃ (j:Nat) (done:List Seat),j≤x.n.kids.length∧k = x.n.kids.length - j∧done.length = j∧σ.T 0 = .sl (l.map Nd.a)∧σ.T 8 = .rs 27 0 (out ++ done).length∧σ.H 27 = some ⟨14,43,(out ++ done).map Seat.a,0⟩ ∧
  σ.T 9 = .int .i64 i∧σ.T 10 = .ptr 10 0 0∧σ.H 10 = some ⟨14,43,[x.a],0⟩∧σ.T 11 = .int .i64 j∧(done ++ (z0p l x j (x.n.kids.drop j)).1,(z0p l x j (x.n.kids.drop j)).2) = R
def stEnd (l:List Nd) (i:Nat) (o:List Seat) (σ:St):Prop :=
 σ.T 0 = .sl (l.map Nd.a)∧σ.T 8 = .rs 27 0 o.length∧σ.H 27 = some ⟨14,43,o.map Seat.a,0⟩∧σ.T 9 = .int .i64 i
def stRet (o:List Seat) (σ:St):Prop :=
 σ.T 4 = .rs 27 0 o.length∧σ.H 27 = some ⟨14,43,o.map Seat.a,0⟩∧σ.T 5 = .bool false
set_option maxHeartbeats 4000000 in
theorem kids_step (Q:XK->St->Prop) (l:List Nd) (x:Seat) (b i:Nat) (out:List Seat) (R:List Seat × Bool) (hl:l.length≤1000) (hn:∀ n,n ∈ l->n.Lt) (ho:SeatOk x b) (hb:b≤500000) (hlev:0 < x.n.level)
  (hr:x.n.kids.length = x.n.pivots.length + 1) (hout:out.length≤100000) (hEnd:∀ σ,R.2 = true->stEnd l i (out ++ R.1) σ->Q (.exit 2) σ) (hRet:∀ σ,R.2 = false->stRet (out ++ R.1) σ->Q .ret σ)
  (k:Nat) (σ:St) (hI:kdInv l x i out R k σ):run (AFn Tryd.prog) z8k (z30 (fun σ'=>∃ m,m < k∧kdInv l x i out R m σ') Q) σ:=by
 obtain ⟨j,done,hj,rfl,hd,t0,t8,h27,t9,t10,h10,t11,hR⟩:=hI
 simp only [z8k]
 have hlt:=ho.lt
 simp only [Seat.a] at h10
 by_cases hlt':j < x.n.kids.length
 ·have hltI:(j:Int) < (x.n.kids.length:Int):=by omega
  obtain ⟨kd,hx⟩:=z0f hlt'
  have hgj:=z0j (f:=AV.int .i64) hx
  have hw:=z1j (j:=j) (by have:=hlt.nkid; omega)
  have cf:=find_ok l kd (by omega)
  have fl:=zfj hn kd
  have hwl:IntKind.i64.wrap (x.n.level - 1) = x.n.level - 1:=IntWalk.i64_in _ (by have:=hlt.lev; omega)
  rw [z0c hx,z0p] at hR
  have hj9:j≤x.n.pivots.length:=by omega
  have cr:=range15_ok x.n.pivots j (by have:=hlt.npiv; omega) hj9 (fun y hy=>by have:=hlt.piv y hy; omega)
  have r1:=zwv hlt.piv j
  have cm:=y36 x.s (z0y x.n.pivots j) (zlt ho.s (by omega)) (zlt r1 (by omega))
  have r2:=zv9 ho.s r1
  have c1:=y2d x.n.msgs (x.s.meet (z0y x.n.pivots j)) 2000 (by omega) (by have:=hlt.nmsg; omega) hlt.msgs r2
  have c2:=y2d x.ms (x.s.meet (z0y x.n.pivots j)) 2000 (by omega) (by have:=ho.nms; omega) ho.ms r2
  have l1:=z9y x.n.msgs (x.s.meet (z0y x.n.pivots j))
  have l2:=z9y x.ms (x.s.meet (z0y x.n.pivots j))
  have c3:=lists_ok (z6y x.n.msgs (x.s.meet (z0y x.n.pivots j))) (z6y x.ms (x.s.meet (z0y x.n.pivots j))) (by have:=hlt.nmsg; omega) (by have:=ho.nms; omega)
  have ht:∀ o:List Seat,List.take o.length (o.map Seat.a) = o.map Seat.a:=fun o=>List.take_of_length_le (by rw [List.length_map]; exact Nat.le_refl _)
  have htm:∀ o:List Msg,List.take o.length (o.map Msg.a) = o.map Msg.a:=fun o=>List.take_of_length_le (by rw [List.length_map]; exact Nat.le_refl _)
  unfold zvd at hR
  generalize z6y x.n.msgs (x.s.meet (z0y x.n.pivots j)) = ca at *
  generalize z6y x.ms (x.s.meet (z0y x.n.pivots j)) = cb at *
  generalize z1t ca cb = mm at *
  generalize x.s.meet (z0y x.n.pivots j) = ns at *
  generalize z0y x.n.pivots j = rg at *
  generalize (z28 l kd).1 = kid at *
  generalize (z28 l kd).2 = is at *
  cases is
  ·rw [if_neg (by simp)] at hR
   subst hR
   (repeat (first | simp (maxSteps:=9^7) only [go_sem,↓reduceIte,reduceCtorEq,Nat.reduceEqDiff,Nat.reduceBEq,Nat.reduceAdd,Nat.reduceSub,Nat.reduceMul,Nat.reduceLT,Nat.reduceLeDiff,Nat.reduceBNe,Int.reduceBEq,Int.reduceBNe,Int.reduceLT,Int.reduceLE,Spn.a,Msg.a,Par.a,Nd.a,Seat.a,t0,t8,h27,t9,t10,h10,t11,hltI,hgj,List.length_map,Int.toNat_natCast,hwl] | refine z01 (cf) ?_ | refine z00 (cf) ?_ | refine And.intro (by omega) ?_ | refine And.intro (fun d hd=>by (repeat (rcases hd with rfl | hd; · exact ⟨rfl,rfl⟩)); cases hd) ?_))
   refine hRet _ rfl ⟨?_,?_,?_⟩
   iterate 3 focus ((simp (maxSteps:=9^7) only [go_sem,↓reduceIte,reduceCtorEq,Nat.reduceEqDiff,Nat.reduceBEq,Nat.reduceAdd,Nat.reduceSub,Nat.reduceMul,Nat.reduceLT,Nat.reduceLeDiff,Nat.reduceBNe,Int.reduceBEq,Int.reduceBNe,Int.reduceLT,Int.reduceLE,Spn.a,Msg.a,Par.a,Nd.a,Seat.a,t8,List.append_nil,h27]) <;> rfl)
  by_cases hv:kid.level = x.n.level - 1
  case neg =>
   have hv':(kid.level != x.n.level - 1) = true:=by simp [hv]
   rw [if_neg (fun h=>hv h.2)] at hR
   subst hR
   (repeat (first | simp (maxSteps:=9^7) only [go_sem,↓reduceIte,reduceCtorEq,Nat.reduceEqDiff,Nat.reduceBEq,Nat.reduceAdd,Nat.reduceSub,Nat.reduceMul,Nat.reduceLT,Nat.reduceLeDiff,Nat.reduceBNe,Int.reduceBEq,Int.reduceBNe,Int.reduceLT,Int.reduceLE,Spn.a,Msg.a,Par.a,Nd.a,Seat.a,t0,t8,h27,t9,t10,h10,t11,hltI,hgj,List.length_map,Int.toNat_natCast,hwl,hv'] | refine z01 (cf) ?_ | refine z00 (cf) ?_ | refine And.intro (by omega) ?_ | refine And.intro (fun d hd=>by (repeat (rcases hd with rfl | hd; · exact ⟨rfl,rfl⟩)); cases hd) ?_))
   refine hRet _ rfl ⟨?_,?_,?_⟩
   iterate 3 focus ((simp (maxSteps:=9^7) only [go_sem,↓reduceIte,reduceCtorEq,Nat.reduceEqDiff,Nat.reduceBEq,Nat.reduceAdd,Nat.reduceSub,Nat.reduceMul,Nat.reduceLT,Nat.reduceLeDiff,Nat.reduceBNe,Int.reduceBEq,Int.reduceBNe,Int.reduceLT,Int.reduceLE,Spn.a,Msg.a,Par.a,Nd.a,Seat.a,t8,List.append_nil,h27]) <;> rfl)
  have hv':(kid.level != x.n.level - 1) = false:=by simp [hv]
  rw [if_pos ⟨rfl,hv⟩] at hR
  have hlo:(out ++ done).length≤110000:=by rw [List.length_append]; have:=hlt.nkid; omega
  have hoa:(out ++ (done ++ [(⟨kid,ns,mm⟩:Seat)])) = (out ++ done) ++ [(⟨kid,ns,mm⟩:Seat)]:=by rw [List.append_assoc]
  have hR':((done ++ [(⟨kid,ns,mm⟩:Seat)]) ++ (z0p l x (j + 1) (x.n.kids.drop (j + 1))).1,(z0p l x (j + 1) (x.n.kids.drop (j + 1))).2) = R:=by rw [List.append_assoc]; exact hR
  have hta:=ht (out ++ done)
  have hca:=htm ca
  have hcb:=htm cb
  have hmm:=htm mm
  clear ht htm hR
  generalize hod:out ++ done = od at *
  (repeat (first | simp (maxSteps:=9^7) only [go_sem,↓reduceIte,reduceCtorEq,Nat.reduceEqDiff,Nat.reduceBEq,Nat.reduceAdd,Nat.reduceSub,Nat.reduceMul,Nat.reduceLT,Nat.reduceLeDiff,Nat.reduceBNe,Int.reduceBEq,Int.reduceBNe,Int.reduceLT,Int.reduceLE,Spn.a,Msg.a,Par.a,Nd.a,Seat.a,t0,t8,h27,t9,t10,h10,t11,hltI,hgj,List.length_map,Int.toNat_natCast,hwl,hv',hw,hta,hca,hcb,hmm] | refine z01 (cf) ?_ | refine z00 (cf) ?_ | refine z01 (cr) ?_ | refine z00 (cr) ?_ | refine z01 (cm) ?_ | refine z00 (cm) ?_ | refine z01 (c1) ?_ | refine z00 (c1) ?_ | refine z01 (c2) ?_ | refine z00 (c2) ?_ | refine z01 (c3) ?_ | refine z00 (c3) ?_ | refine And.intro (by omega) ?_ | refine And.intro (fun d hd=>by (repeat (rcases hd with rfl | hd; · exact ⟨rfl,rfl⟩)); cases hd) ?_ | refine And.intro (And.intro (by omega) (fun d hd=>by (repeat (rcases hd with rfl | hd; · exact ⟨rfl,rfl⟩)); cases hd)) ?_))
  refine ⟨x.n.kids.length - (j + 1),by omega,j + 1,done ++ [⟨kid,ns,mm⟩],by omega,rfl,by simp; omega,?_,?_,?_,?_,?_,?_,?_,hR'⟩
  ·simp (maxSteps:=9^7) only [go_sem,↓reduceIte,reduceCtorEq,Nat.reduceEqDiff,Nat.reduceBEq,Nat.reduceAdd,Nat.reduceSub,Nat.reduceMul,Nat.reduceLT,Nat.reduceLeDiff,Nat.reduceBNe,Int.reduceBEq,Int.reduceBNe,Int.reduceLT,Int.reduceLE,Spn.a,Msg.a,Par.a,Nd.a,Seat.a,t0]
  ·rw [hoa]
   simp (maxSteps:=9^7) only [go_sem,↓reduceIte,reduceCtorEq,Nat.reduceEqDiff,Nat.reduceBEq,Nat.reduceAdd,Nat.reduceSub,Nat.reduceMul,Nat.reduceLT,Nat.reduceLeDiff,Nat.reduceBNe,Int.reduceBEq,Int.reduceBNe,Int.reduceLT,Int.reduceLE,Spn.a,Msg.a,Par.a,Nd.a,Seat.a,List.length_append,List.length_cons,List.length_nil]
  ·rw [hoa]
   simp (maxSteps:=9^7) only [go_sem,↓reduceIte,reduceCtorEq,Nat.reduceEqDiff,Nat.reduceBEq,Nat.reduceAdd,Nat.reduceSub,Nat.reduceMul,Nat.reduceLT,Nat.reduceLeDiff,Nat.reduceBNe,Int.reduceBEq,Int.reduceBNe,Int.reduceLT,Int.reduceLE,Spn.a,Msg.a,Par.a,Nd.a,Seat.a,List.map_append,List.map_cons,List.map_nil,hta]
  iterate 4 focus ((simp (maxSteps:=9^7) only [go_sem,↓reduceIte,reduceCtorEq,Nat.reduceEqDiff,Nat.reduceBEq,Nat.reduceAdd,Nat.reduceSub,Nat.reduceMul,Nat.reduceLT,Nat.reduceLeDiff,Nat.reduceBNe,Int.reduceBEq,Int.reduceBNe,Int.reduceLT,Int.reduceLE,Spn.a,Msg.a,Par.a,Nd.a,Seat.a,t9,t10,h10,hw]) <;> rfl)
 ·have hltI:¬ (j:Int) < (x.n.kids.length:Int):=by omega
  rw [List.drop_eq_nil_of_le (by omega),z0p,List.append_nil] at hR
  subst hR
  simp (maxSteps:=9^7) only [go_sem,↓reduceIte,reduceCtorEq,Nat.reduceEqDiff,Nat.reduceBEq,Nat.reduceAdd,Nat.reduceSub,Nat.reduceMul,Nat.reduceLT,Nat.reduceLeDiff,Nat.reduceBNe,Int.reduceBEq,Int.reduceBNe,Int.reduceLT,Int.reduceLE,Spn.a,Msg.a,Par.a,Nd.a,Seat.a,t0,t8,h27,t9,t10,h10,t11,hltI,List.length_map]
  refine hEnd _ rfl ⟨?_,?_,?_,?_⟩
  iterate 4 focus ((simp (maxSteps:=9^7) only [go_sem,↓reduceIte,reduceCtorEq,Nat.reduceEqDiff,Nat.reduceBEq,Nat.reduceAdd,Nat.reduceSub,Nat.reduceMul,Nat.reduceLT,Nat.reduceLeDiff,Nat.reduceBNe,Int.reduceBEq,Int.reduceBNe,Int.reduceLT,Int.reduceLE,Spn.a,Msg.a,Par.a,Nd.a,Seat.a,t0,t8,h27,t9]) <;> rfl)
theorem SeatOk.mono {x:Seat} {b c:Nat} (h:SeatOk x b) (hb:b≤c):SeatOk x c:=⟨h.lt,h.s,h.ms,Nat.le_trans h.nms hb⟩
theorem z9p {l:List Nd} {x:Seat} {b:Nat} (hn:∀ n,n ∈ l->n.Lt) (h:SeatOk x b):∀ (ks:List Int) (j:Nat),(z0p l x j ks).1.length≤ks.length∧∀ y,y ∈ (z0p l x j ks).1->SeatOk y (b + 2000)
 | [],j=>⟨Nat.le_refl _,fun y hy=>by cases hy⟩
 | k :: ks,j=>by
  rw [z0p]
  split
  ·obtain ⟨r1,r2⟩:=z9p hn h ks (j + 1)
   refine ⟨Nat.succ_le_succ r1,fun y hy=>?_⟩
   rcases List.mem_cons.1 hy with rfl | hy
   ·exact kidSeat_ok h j (zfj hn k)
   ·exact r2 y hy
  ·exact ⟨Nat.zero_le _,fun y hy=>by cases hy⟩
def z94 (out:List Seat):Prop:=∀ (i:Nat) (x:Seat),out[i]? = some x->SeatOk x (2000 * i)
theorem zi2 {l:List Nd} {out:List Seat} {x:Seat} {i:Nat} (hn:∀ n,n ∈ l->n.Lt) (h:z94 out) (hx:out[i]? = some x) (ks:List Int):z94 (out ++ (z0p l x 0 ks).1):=by
 intro k y hy
 rcases Nat.lt_or_ge k out.length with hk | hk
 ·rw [List.getElem?_append_left hk] at hy
  exact h k y hy
 ·rw [List.getElem?_append_right hk] at hy
  have hi:=(List.getElem?_eq_some_iff.1 hx).1
  exact ((z9p hn (h i x hx) ks 0).2 y (List.mem_of_getElem? hy)).mono (by omega)
def stInv (l:List Nd) (R:List Seat × Bool) (k:Nat) (σ:St):Prop :=
 ∃ (i:Nat) (out:List Seat),i≤l.length∧k = l.length + 1 - i∧stEnd l i out σ∧z1a l (l.length + 1 - i) out i = R∧z94 out∧out.length≤10000
set_option maxHeartbeats 4000000 in
theorem y6k (l:List Nd) (root:Int) (hl:l.length≤200) (hn:∀ n,n ∈ l->n.Lt):AFn Tryd.prog 11 [.sl (l.map Nd.a),.int .i64 root] (.tup [.sl ((z1l l root).1.map Seat.a),.bool (z1l l root).2]):=by
 refine fn_seats rfl ?_
 have cf:=find_ok l root (by omega)
 have fl:=zfj hn root
 have ht:∀ o:List Seat,List.take o.length (o.map Seat.a) = o.map Seat.a:=fun o=>List.take_of_length_le (by rw [List.length_map]; exact Nat.le_refl _)
 unfold z1l
 generalize (z28 l root).1 = nd at *
 generalize (z28 l root).2 = is at *
 cases is
 ·rw [if_neg (by simp)]
  (repeat (first | simp (maxSteps:=9^7) only [go_sem,↓reduceIte,reduceCtorEq,Nat.reduceEqDiff,Nat.reduceBEq,Nat.reduceAdd,Nat.reduceSub,Nat.reduceMul,Nat.reduceLT,Nat.reduceLeDiff,Nat.reduceBNe,Int.reduceBEq,Int.reduceBNe,Int.reduceLT,Int.reduceLE,Spn.a,Msg.a,Par.a,Nd.a,Seat.a] | refine z01 (cf) ?_ | refine z00 (cf) ?_ | refine And.intro (by omega) ?_ | refine And.intro (fun d hd=>by (repeat (rcases hd with rfl | hd; · exact ⟨rfl,rfl⟩)); cases hd) ?_))
  all_goals first | rfl | exact ⟨rfl,rfl⟩
 rw [if_pos rfl]
 have h0:z94 [(⟨nd,⟨nul0,nul0,true⟩,[]⟩:Seat)]:=by
  intro i x hx
  cases i with
  | zero=>cases hx; exact ⟨fl,⟨Nat.zero_le _,Nat.zero_le _⟩,fun m hm=>(by cases hm),Nat.zero_le _⟩
  | succ i=>simp at hx
 obtain ⟨R,hR⟩:∃ R,z1a l (l.length + 1) [(⟨nd,⟨nul0,nul0,true⟩,[]⟩:Seat)] 0 = R:=⟨_,rfl⟩
 rw [hR]
 (repeat (first | simp (maxSteps:=9^7) only [go_sem,↓reduceIte,reduceCtorEq,Nat.reduceEqDiff,Nat.reduceBEq,Nat.reduceAdd,Nat.reduceSub,Nat.reduceMul,Nat.reduceLT,Nat.reduceLeDiff,Nat.reduceBNe,Int.reduceBEq,Int.reduceBNe,Int.reduceLT,Int.reduceLE,Spn.a,Msg.a,Par.a,Nd.a,Seat.a] | refine z01 (cf) ?_ | refine z00 (cf) ?_ | refine And.intro (by omega) ?_ | refine And.intro (fun d hd=>by (repeat (rcases hd with rfl | hd; · exact ⟨rfl,rfl⟩)); cases hd) ?_))
 refine z08 (stInv l R) (k:=l.length + 1) ⟨0,[⟨nd,⟨nul0,nul0,true⟩,[]⟩],by omega,rfl,⟨?_,?_,?_,?_⟩,hR,h0,by simp⟩ ?_
 iterate 4 focus ((simp (maxSteps:=9^7) only [go_sem,↓reduceIte,reduceCtorEq,Nat.reduceEqDiff,Nat.reduceBEq,Nat.reduceAdd,Nat.reduceSub,Nat.reduceMul,Nat.reduceLT,Nat.reduceLeDiff,Nat.reduceBNe,Int.reduceBEq,Int.reduceBNe,Int.reduceLT,Int.reduceLE,Spn.a,Msg.a,Par.a,Nd.a,Seat.a]) <;> rfl)
 clear hR h0
 rintro k σ ⟨i,out,hi,rfl,⟨t0,t8,h27,t9⟩,hR,hok,hlen⟩
 simp only [zj5]
 obtain ⟨f,hf⟩:∃ f,l.length + 1 - i = f + 1:=⟨l.length - i,by omega⟩
 rw [hf,z1a] at hR
 have hta:=ht out
 by_cases hlt:i < out.length
 case neg =>
  have hlt':¬ (i:Int) < (out.length:Int):=by omega
  rw [List.getElem?_eq_none (by omega)] at hR
  subst hR
  simp (maxSteps:=9^7) only [go_sem,↓reduceIte,reduceCtorEq,Nat.reduceEqDiff,Nat.reduceBEq,Nat.reduceAdd,Nat.reduceSub,Nat.reduceMul,Nat.reduceLT,Nat.reduceLeDiff,Nat.reduceBNe,Int.reduceBEq,Int.reduceBNe,Int.reduceLT,Int.reduceLE,Spn.a,Msg.a,Par.a,Nd.a,Seat.a,t0,t8,h27,t9,hlt',hta]
 have hlt':(i:Int) < (out.length:Int):=by omega
 obtain ⟨x,hx⟩:=z0f hlt
 have xok:=hok i x hx
 rw [hx] at hR
 simp only at hR
 have hgx:=z0j (f:=Seat.a) hx
 have hgx':(out.map Seat.a)[i]? = some x.a:=by rw [List.getElem?_map,hx]; rfl
 simp only [Seat.a] at hgx' hgx
 have hw:=z1j (j:=i) (by omega)
 by_cases hbig:l.length < out.length
 ·have hbig':(l.length:Int) < (out.length:Int):=by omega
  rw [if_pos hbig] at hR
  subst hR
  simp (maxSteps:=9^7) only [go_sem,↓reduceIte,reduceCtorEq,Nat.reduceEqDiff,Nat.reduceBEq,Nat.reduceAdd,Nat.reduceSub,Nat.reduceMul,Nat.reduceLT,Nat.reduceLeDiff,Nat.reduceBNe,Int.reduceBEq,Int.reduceBNe,Int.reduceLT,Int.reduceLE,Spn.a,Msg.a,Par.a,Nd.a,Seat.a,t0,t8,h27,t9,hlt',hta,hgx,hgx',hbig',List.length_map,Int.toNat_natCast,Nat.zero_add]
  all_goals omega
 have hbig':¬ (l.length:Int) < (out.length:Int):=by omega
 rw [if_neg hbig] at hR
 by_cases hz:x.n.level = 0
 ·have hz':(x.n.level == 0) = true:=by simp [hz]
  rw [if_pos hz] at hR
  simp (maxSteps:=9^7) only [go_sem,↓reduceIte,reduceCtorEq,Nat.reduceEqDiff,Nat.reduceBEq,Nat.reduceAdd,Nat.reduceSub,Nat.reduceMul,Nat.reduceLT,Nat.reduceLeDiff,Nat.reduceBNe,Int.reduceBEq,Int.reduceBNe,Int.reduceLT,Int.reduceLE,Spn.a,Msg.a,Par.a,Nd.a,Seat.a,t0,t8,h27,t9,hlt',hta,hgx,hgx',hbig',hz',hw,List.length_map,Int.toNat_natCast,Nat.zero_add]
  (repeat refine And.intro (by omega) ?_)
  refine ⟨l.length + 1 - (i + 1),by omega,i + 1,out,by omega,rfl,⟨?_,?_,?_,?_⟩,by rw [show l.length + 1 - (i + 1) = f by omega]; exact hR,hok,hlen⟩
  iterate 4 focus ((simp (maxSteps:=9^7) only [go_sem,↓reduceIte,reduceCtorEq,Nat.reduceEqDiff,Nat.reduceBEq,Nat.reduceAdd,Nat.reduceSub,Nat.reduceMul,Nat.reduceLT,Nat.reduceLeDiff,Nat.reduceBNe,Int.reduceBEq,Int.reduceBNe,Int.reduceLT,Int.reduceLE,Spn.a,Msg.a,Par.a,Nd.a,Seat.a,t0,t8,h27,hw]) <;> rfl)
 have hz':(x.n.level == 0) = false:=by simp [hz]
 rw [if_neg hz] at hR
 have ck:=znm x.n.pivots x.n.kids (by have:=xok.lt.npiv; omega) (fun y hy=>by have:=xok.lt.piv y hy; omega)
 by_cases hneg:x.n.level < 0
 ·rw [if_pos (.inl hneg)] at hR
  subst hR
  (repeat (first | simp (maxSteps:=9^7) only [go_sem,↓reduceIte,reduceCtorEq,Nat.reduceEqDiff,Nat.reduceBEq,Nat.reduceAdd,Nat.reduceSub,Nat.reduceMul,Nat.reduceLT,Nat.reduceLeDiff,Nat.reduceBNe,Int.reduceBEq,Int.reduceBNe,Int.reduceLT,Int.reduceLE,Spn.a,Msg.a,Par.a,Nd.a,Seat.a,t0,t8,h27,t9,hlt',hta,hgx,hgx',hbig',hz',hneg,List.length_map,Int.toNat_natCast,Nat.zero_add] | refine z01 (ck) ?_ | refine z00 (ck) ?_ | refine And.intro (by omega) ?_ | refine And.intro (fun d hd=>by (repeat (rcases hd with rfl | hd; · exact ⟨rfl,rfl⟩)); cases hd) ?_))
  all_goals omega
 cases hrk:z60 x.n.pivots x.n.kids
 ·rw [if_pos (.inr hrk)] at hR
  subst hR
  rw [hrk] at ck
  (repeat (first | simp (maxSteps:=9^7) only [go_sem,↓reduceIte,reduceCtorEq,Nat.reduceEqDiff,Nat.reduceBEq,Nat.reduceAdd,Nat.reduceSub,Nat.reduceMul,Nat.reduceLT,Nat.reduceLeDiff,Nat.reduceBNe,Int.reduceBEq,Int.reduceBNe,Int.reduceLT,Int.reduceLE,Spn.a,Msg.a,Par.a,Nd.a,Seat.a,t0,t8,h27,t9,hlt',hta,hgx,hgx',hbig',hz',hneg,List.length_map,Int.toNat_natCast,Nat.zero_add] | refine z01 (ck) ?_ | refine z00 (ck) ?_ | refine And.intro (by omega) ?_ | refine And.intro (fun d hd=>by (repeat (rcases hd with rfl | hd; · exact ⟨rfl,rfl⟩)); cases hd) ?_))
  all_goals omega
 rw [if_neg (by rintro (h | h); exact hneg h; rw [hrk] at h; cases h)] at hR
 rw [hrk] at ck
 have hkl:x.n.kids.length = x.n.pivots.length + 1:=by
  unfold z60 at hrk
  rw [Bool.and_eq_true,decide_eq_true_eq] at hrk
  exact hrk.2
 (repeat (first | simp (maxSteps:=9^7) only [go_sem,↓reduceIte,reduceCtorEq,Nat.reduceEqDiff,Nat.reduceBEq,Nat.reduceAdd,Nat.reduceSub,Nat.reduceMul,Nat.reduceLT,Nat.reduceLeDiff,Nat.reduceBNe,Int.reduceBEq,Int.reduceBNe,Int.reduceLT,Int.reduceLE,Spn.a,Msg.a,Par.a,Nd.a,Seat.a,t0,t8,h27,t9,hlt',hta,hgx,hgx',hbig',hz',hneg,List.length_map,Int.toNat_natCast,Nat.zero_add] | refine z01 (ck) ?_ | refine z00 (ck) ?_ | refine And.intro (by omega) ?_ | refine And.intro (fun d hd=>by (repeat (rcases hd with rfl | hd; · exact ⟨rfl,rfl⟩)); cases hd) ?_))
 have hkg:=z9p hn xok x.n.kids 0
 have hap:=zi2 hn hok hx x.n.kids
 have hta2:=ht (out ++ (z0p l x 0 x.n.kids).1)
 have hnk:=xok.lt.nkid
 refine z08 (kdInv l x i out (z0p l x 0 x.n.kids)) (k:=x.n.kids.length) ⟨0,[],by omega,rfl,rfl,?_,?_,?_,?_,?_,?_,?_,rfl⟩ (kids_step _ l x (2000 * i) i out (z0p l x 0 x.n.kids) (by omega) hn xok (by omega) (by omega) hkl (by omega) ?_ ?_)
 iterate 7 focus ((simp (maxSteps:=9^7) only [go_sem,↓reduceIte,reduceCtorEq,Nat.reduceEqDiff,Nat.reduceBEq,Nat.reduceAdd,Nat.reduceSub,Nat.reduceMul,Nat.reduceLT,Nat.reduceLeDiff,Nat.reduceBNe,Int.reduceBEq,Int.reduceBNe,Int.reduceLT,Int.reduceLE,Spn.a,Msg.a,Par.a,Nd.a,Seat.a,t0,t8,List.append_nil,h27,t9]) <;> rfl)
 ·rintro σ h2 ⟨t0,t8,h27,t9⟩
  rw [if_pos h2] at hR
  generalize hoo:out ++ (z0p l x 0 x.n.kids).1 = oo at *
  have hol:oo.length≤10000:=by rw [← hoo,List.length_append]; omega
  simp (maxSteps:=9^7) only [go_sem,↓reduceIte,reduceCtorEq,Nat.reduceEqDiff,Nat.reduceBEq,Nat.reduceAdd,Nat.reduceSub,Nat.reduceMul,Nat.reduceLT,Nat.reduceLeDiff,Nat.reduceBNe,Int.reduceBEq,Int.reduceBNe,Int.reduceLT,Int.reduceLE,Spn.a,Msg.a,Par.a,Nd.a,Seat.a,t0,t8,h27,t9,hw]
  refine ⟨l.length + 1 - (i + 1),by omega,i + 1,oo,by omega,rfl,⟨?_,?_,?_,?_⟩,by rw [show l.length + 1 - (i + 1) = f by omega]; exact hR,hap,hol⟩
  iterate 4 focus ((simp (maxSteps:=9^7) only [go_sem,↓reduceIte,reduceCtorEq,Nat.reduceEqDiff,Nat.reduceBEq,Nat.reduceAdd,Nat.reduceSub,Nat.reduceMul,Nat.reduceLT,Nat.reduceLeDiff,Nat.reduceBNe,Int.reduceBEq,Int.reduceBNe,Int.reduceLT,Int.reduceLE,Spn.a,Msg.a,Par.a,Nd.a,Seat.a,t0,t8,h27,hw]) <;> rfl)
 ·rintro σ h2 ⟨t4,h27,t5⟩
  rw [if_neg (by rw [h2]; simp)] at hR
  subst hR
  simp (maxSteps:=9^7) only [go_sem,↓reduceIte,reduceCtorEq,Nat.reduceEqDiff,Nat.reduceBEq,Nat.reduceAdd,Nat.reduceSub,Nat.reduceMul,Nat.reduceLT,Nat.reduceLeDiff,Nat.reduceBNe,Int.reduceBEq,Int.reduceBNe,Int.reduceLT,Int.reduceLE,Spn.a,Msg.a,Par.a,Nd.a,Seat.a,t4,h27,t5,hta2]
end
section
open Go.RowKit
attribute [local go_sem ↓] z1m z0h
def zxr:Reg:=⟨[],[⟨.mknil 1 9,some 6,none,[],[]⟩],[6],[],false⟩
def zxq:Reg:=⟨[],[⟨.mknil 1 9,some 7,none,[],[]⟩],[7],[],false⟩
def zxp:Reg:=⟨[],[⟨.mv (.c (.int .i64 0)),some 8,none,[],[]⟩],[],[],false⟩
def zgc:List ROp:=[⟨.mv (.t 8),some 11,none,[],[]⟩,⟨.mv (.t 0),some 12,none,[],[]⟩,⟨.len false (.t 12),some 13,none,[],[]⟩,⟨.bin .lss (.t 11) (.t 13),some 14,none,[],[]⟩]
def zxo:Reg:=⟨[],zgc,[],[],false⟩
def zgb:List ROp:=[⟨.mv (.t 0),some 17,none,[9],[]⟩,⟨.mv (.t 8),some 18,none,[9],[]⟩,⟨.iaddr 14 (.t 17) (.t 18),some 19,none,[9],[]⟩,⟨.load 14 true (.t 19),some 20,none,[9],[]⟩,⟨.alloc 14 43 (.agg [(.int .i64 0),(.int .i64 0),(.sl []),(.sl []),(.str ⟨#[]⟩),(.bool false),(.int .i64 0),(.int .i64 0),(.sl []),(.sl []),(.str ⟨#[]⟩),(.str ⟨#[]⟩),(.bool false),(.sl [])]),some 9,none,[],[]⟩,⟨.store 14 (.t 9) (.t 20),none,none,[],[]⟩]
def zxn:Reg:=⟨[],zgb,[9],[],false⟩
def zga:List ROp:=[⟨.faddr 0 (.t 9),some 21,none,[],[]⟩,⟨.faddr 0 (.t 21),some 22,none,[],[]⟩,⟨.load 1 false (.t 22),some 23,none,[],[]⟩,⟨.mv (.t 1),some 24,none,[],[]⟩,⟨.bin .neq (.t 23) (.t 24),some 25,none,[],[]⟩]
def zxm:Reg:=⟨[],zga,[],[],false⟩
def zg9:List ROp:=[⟨.mv (.t 7),some 26,none,[32,33],[]⟩,⟨.faddr 0 (.t 9),some 27,none,[32,33],[]⟩,⟨.load 10 true (.t 27),some 28,none,[32,33],[]⟩,⟨.faddr 10 (.t 9),some 29,none,[32,33],[]⟩,⟨.load 3 true (.t 29),some 30,none,[32,33],[]⟩,⟨.mv (.t 2),some 31,none,[32,33],[]⟩,⟨.callv (.c (.clo 9 [] [])) [(.t 28),(.t 30),(.t 31)],some 32,none,[33],[]⟩,⟨.bsl 1 9 [(.t 32)],some 33,none,[],[]⟩,⟨.append 1 9 16 (.t 26) (.t 33),some 34,none,[],[]⟩,⟨.mv (.t 34),some 7,none,[],[]⟩]
def zxl:Reg:=⟨[],zg9,[32,33],[],false⟩
def zxk:Reg:=⟨[],[⟨.mv (.c (.int .i64 0)),some 10,none,[],[]⟩],[],[],false⟩
def zg8:List ROp:=[⟨.mv (.t 10),some 35,none,[],[]⟩,⟨.faddr 0 (.t 9),some 36,none,[],[]⟩,⟨.faddr 3 (.t 36),some 37,none,[],[]⟩,⟨.load 1 false (.t 37),some 38,none,[],[]⟩,⟨.len false (.t 38),some 39,none,[],[]⟩,⟨.bin .lss (.t 35) (.t 39),some 40,none,[],[]⟩]
def zxj:Reg:=⟨[],zg8,[],[],false⟩
def zg7:List ROp:=[⟨.mv (.t 7),some 43,none,[53],[]⟩,⟨.mv (.t 0),some 44,none,[53],[]⟩,⟨.faddr 0 (.t 9),some 45,none,[53],[]⟩,⟨.faddr 3 (.t 45),some 46,none,[53],[]⟩,⟨.load 1 false (.t 46),some 47,none,[53],[]⟩,⟨.mv (.t 10),some 48,none,[53],[]⟩,⟨.iaddr 1 (.t 47) (.t 48),some 49,none,[53],[]⟩,⟨.load 1 false (.t 49),some 50,none,[53],[]⟩,⟨.mv (.t 2),some 51,none,[53],[]⟩,⟨.bin .add (.t 51) (.c (.int .i64 1)),some 52,none,[53],[]⟩,⟨.callv (.c (.clo 16 [] [])) [(.t 44),(.t 50),(.t 52)],some 53,none,[],[]⟩,⟨.append 1 9 16 (.t 43) (.t 53),some 54,none,[],[]⟩,⟨.mv (.t 54),some 7,none,[],[]⟩]
def zxi:Reg:=⟨[],zg7,[53],[],false⟩
def zbg:List ROp:=[⟨.mv (.t 10),some 41,none,[],[]⟩,⟨.bin .add (.t 41) (.c (.int .i64 1)),some 42,none,[],[]⟩,⟨.mv (.t 42),some 10,none,[],[]⟩]
def zq9:Reg:=⟨[],zbg,[],[],false⟩
def zjt:IR:=(.seq (.seq (.reg zxj)
 (.cond (.t 40) .skip
 (.exit 2)))
 (.seq (.block 3 (.reg zxi))
 (.reg zq9)))
def zbf:List ROp:=[⟨.mv (.t 8),some 15,none,[],[]⟩,⟨.bin .add (.t 15) (.c (.int .i64 1)),some 16,none,[],[]⟩,⟨.mv (.t 16),some 8,none,[],[]⟩]
def zq8:Reg:=⟨[],zbf,[],[],false⟩
def zjs:IR:=(.seq (.seq (.reg zxo)
 (.cond (.t 14) .skip
 (.exit 0)))
 (.seq (.block 1 (.seq (.reg zxn)
 (.seq (.seq (.reg zxm)
 (.cond (.t 25) (.exit 1)
 .skip))
 (.seq (.reg zxl)
 (.seq (.reg zxk)
 (.block 2 (.loop zjt)))))))
 (.reg zq8)))
def zq7:Reg:=⟨[],[⟨.mv (.t 7),some 55,none,[],[]⟩,⟨.mv (.t 55),some 6,none,[],[]⟩],[],[],false⟩
def y8i:IR:=(.seq (.reg zxr)
 (.seq (.reg zxq)
 (.seq (.seq (.reg zxp)
 (.block 0 (.loop zjs)))
 (.seq (.reg zq7)
 .ret))))
def zwd:List RDesc:=[(.tmp 6)]
theorem e_rTree_0:EqR zxr [⟨.mknil 1 9,some 6,none,[],[]⟩] [6]:=fun _ _ _=>rfl
theorem e_rTree_1:EqR zxq [⟨.mknil 1 9,some 7,none,[],[]⟩] [7]:=fun _ _ _=>rfl
theorem e_rTree_2:EqR zxp [⟨.mv (.c (.int .i64 0)),some 8,none,[],[]⟩] []:=fun _ _ _=>rfl
theorem e_rTree_3:EqR zxo zgc []:=fun _ _ _=>rfl
theorem e_rTree_4:EqR zxn zgb [9]:=fun _ _ _=>rfl
theorem e_rTree_5:EqR zxm zga []:=fun _ _ _=>rfl
theorem e_rTree_6:EqR zxl zg9 [32,33]:=fun _ _ _=>rfl
theorem e_rTree_7:EqR zxk [⟨.mv (.c (.int .i64 0)),some 10,none,[],[]⟩] []:=fun _ _ _=>rfl
theorem e_rTree_8:EqR zxj zg8 []:=fun _ _ _=>rfl
theorem e_rTree_9:EqR zxi zg7 [53]:=fun _ _ _=>rfl
theorem e_rTree_10:EqR zq9 zbg []:=fun _ _ _=>rfl
theorem e_rTree_12:EqR zq8 zbf []:=fun _ _ _=>rfl
theorem e_rTree_14:EqR zq7 [⟨.mv (.t 7),some 55,none,[],[]⟩,⟨.mv (.t 55),some 6,none,[],[]⟩] []:=fun _ _ _=>rfl
theorem fn_rTree {args:List AV} {r:AV} (ha:args.length.ble Tryd.f16.ntmps = true) (h:run (AFn Tryd.prog) y8i (endQ zwd r) (z0a args)):AFn Tryd.prog 16 args r :=
 AFn.of_code (pv:=false) (hint:=fun _=>[]) (c:=Tryd.f16.body.getD .skip) (by kernel_rfl) (by kernel_rfl) Tryd.func16 (by kernel_rfl) (by kernel_rfl) (by kernel_rfl) (of_decide_eq_true (by kernel_rfl)) (Nat.le_of_ble_eq_true ha) (Nat.le_of_ble_eq_true (by kernel_rfl)) (z0b h)
attribute [local go_sem ↓] y8i
attribute [local go_sem] zwd e_rTree_0 e_rTree_1 e_rTree_2 e_rTree_3 zgc e_rTree_4 zgb e_rTree_5 zga e_rTree_6 zg9 e_rTree_7 e_rTree_8 zg8 e_rTree_9 zg7 e_rTree_10 zbg e_rTree_12 zbf e_rTree_14
mutual
def z3c (S:List Seat):Nat->Int->Int->List ByteArray
 | 0,_,_=>[]
 | f + 1,slot,d=>S.flatMap fun x=>if x.n.slot = slot then x.n.shp x.s d :: x.n.kids.flatMap (fun k=>z3c S f k (d + 1)) else []
end
def oneF (S:List Seat) (f:Nat) (slot d:Int) (x:Seat):List ByteArray:=if x.n.slot = slot then x.n.shp x.s d :: x.n.kids.flatMap (fun k=>z3c S f k (d + 1)) else []
theorem zne (S:List Seat) (f:Nat) (slot d:Int):z3c S (f + 1) slot d = S.flatMap (oneF S f slot d):=by
 rw [z3c]; rfl
def DeepS (S:List Seat):Nat->Int->Prop
 | 0,_=>False
 | f + 1,slot=>∀ x,x ∈ S->x.n.slot = slot->∀ k,k ∈ x.n.kids->DeepS S f k
theorem fm_next {α β:Type} {f:α->List β} {l:List α} {j:Nat} {x:α} (h:l[j]? = some x):(l.take (j + 1)).flatMap f = (l.take j).flatMap f ++ f x:=by
 rw [za3 h,List.flatMap_append]; simp
theorem y3u {α β:Type} (f:α->List β) (l:List α) (j:Nat):((l.take j).flatMap f).length≤(l.flatMap f).length:=by
 have h:=congrArg (List.flatMap f) (List.take_append_drop j l)
 rw [List.flatMap_append] at h
 rw [← h,List.length_append]; omega
theorem fm_mem {α β:Type} (f:α->List β) {l:List α} {x:α} (h:x ∈ l):(f x).length≤(l.flatMap f).length:=by
 obtain ⟨a,b,rfl⟩:=List.append_of_mem h
 rw [List.flatMap_append,List.flatMap_cons,List.length_append,List.length_append]; omega
theorem strs_one (l:List ByteArray):∀ d,d ∈ l.map AV.str->d.cells.length = 1∧d.cells.all AV.one = true:=by
 intro d hd
 obtain ⟨x,_,rfl⟩:=List.mem_map.1 hd
 exact ⟨rfl,rfl⟩
def dtInv (S:List Seat) (f:Nat) (slot d:Int) (k:Nat) (σ:St):Prop :=
 ∃ i:Nat,i≤S.length∧k = S.length - i∧σ.T 0 = .sl (S.map Seat.a)∧σ.T 1 = .int .i64 slot∧σ.T 2 = .int .i64 d∧σ.T 8 = .int .i64 i∧σ.T 7 = .rs 7 0 ((S.take i).flatMap (oneF S f slot d)).length∧σ.H 7 = some ⟨1,9,((S.take i).flatMap (oneF S f slot d)).map .str,0⟩
def rowT (S:List Seat) (f:Nat) (d:Int) (x:Seat) (pre:List ByteArray) (j:Nat):List ByteArray:=pre ++ (x.n.shp x.s d :: (x.n.kids.take j).flatMap fun k=>z3c S f k (d + 1))
theorem rowT_next {S:List Seat} {f:Nat} {d:Int} {x:Seat} {pre:List ByteArray} {j:Nat} {q:Int} (h:x.n.kids[j]? = some q):rowT S f d x pre (j + 1) = rowT S f d x pre j ++ z3c S f q (d + 1):=by
 unfold rowT
 rw [fm_next h]; simp
theorem rowT_zero (S:List Seat) (f:Nat) (d:Int) (x:Seat) (pre:List ByteArray):rowT S f d x pre 0 = pre ++ [x.n.shp x.s d]:=by
 unfold rowT; simp
theorem rowT_all (S:List Seat) (f:Nat) (d:Int) (x:Seat) (pre:List ByteArray):rowT S f d x pre x.n.kids.length = pre ++ oneF S f x.n.slot d x:=by
 unfold rowT oneF
 rw [List.take_length,if_pos rfl]
theorem rowT_len (S:List Seat) (f:Nat) (d:Int) (x:Seat) (pre:List ByteArray) (j:Nat):(rowT S f d x pre j).length≤(rowT S f d x pre x.n.kids.length).length:=by
 have:=y3u (fun k=>z3c S f k (d + 1)) x.n.kids j
 unfold rowT
 rw [List.take_length]
 simp only [List.length_append,List.length_cons]; omega
def dkInv (S:List Seat) (f:Nat) (slot d:Int) (i:Nat) (x:Seat) (pre:List ByteArray) (k:Nat) (σ:St):Prop :=
 ∃ j:Nat,j≤x.n.kids.length∧k = x.n.kids.length - j∧σ.T 0 = .sl (S.map Seat.a)∧σ.T 1 = .int .i64 slot∧σ.T 2 = .int .i64 d∧σ.T 8 = .int .i64 i∧σ.T 9 = .ptr 9 0 0∧σ.H 9 = some ⟨14,43,[x.a],0⟩∧σ.T 10 = .int .i64 j ∧
  σ.T 7 = .rs 7 0 (rowT S f d x pre j).length∧σ.H 7 = some ⟨1,9,(rowT S f d x pre j).map .str,0⟩
set_option maxHeartbeats 4000000 in
theorem y81 (S:List Seat) (hl:S.length≤1000) (hS:∀ x,x ∈ S->x.n.Thin∧x.s.lo.size≤2000∧x.s.hi.size≤2000):∀ (f:Nat) (slot d:Int),DeepS S f slot->0≤d->d + f≤1000->(z3c S f slot d).length≤1000 ->
  AFn Tryd.prog 16 [.sl (S.map Seat.a),.int .i64 slot,.int .i64 d] (.own 1 9 ((z3c S f slot d).map .str))
 | 0,slot,d,hd,_,_,_=>hd.elim
 | f + 1,slot,d,hdp,h0,h1,hlen=>by
  have ih:=y81 S hl hS f
  refine fn_rTree rfl ?_
  rw [zne] at hlen ⊢
  simp (maxSteps:=9^7) only [go_sem,↓reduceIte,reduceCtorEq,Nat.reduceEqDiff,Nat.reduceBEq,Nat.reduceAdd,Nat.reduceSub,Nat.reduceMul,Nat.reduceLT,Nat.reduceLeDiff,Nat.reduceBNe,Int.reduceBEq,Int.reduceBNe,Int.reduceLT,Int.reduceLE,Spn.a,Msg.a,Par.a,Nd.a,Seat.a]
  refine z08 (dtInv S f slot d) (k:=S.length) ⟨0,by omega,rfl,?_,?_,?_,?_,?_,?_⟩ ?_ <;> try (simp (maxSteps:=9^7) only [go_sem,↓reduceIte,reduceCtorEq,Nat.reduceEqDiff,Nat.reduceBEq,Nat.reduceAdd,Nat.reduceSub,Nat.reduceMul,Nat.reduceLT,Nat.reduceLeDiff,Nat.reduceBNe,Int.reduceBEq,Int.reduceBNe,Int.reduceLT,Int.reduceLE,Spn.a,Msg.a,Par.a,Nd.a,Seat.a])
  ·rfl
  ·rfl
  ·rfl
  rintro k σ ⟨i,hi,rfl,t0,t1,t2,t8,t7,o7⟩
  simp only [zjs]
  have hpre:=y3u (oneF S f slot d) S i
  by_cases hlt:i < S.length
  ·have hlt':(i:Int) < (S.length:Int):=by omega
   obtain ⟨x,hx⟩:=z0f hlt
   have hgi:=z0j (f:=Seat.a) hx
   simp only [Seat.a] at hgi
   have hw:=z1j (j:=i) (by omega)
   have hxm:=List.mem_of_getElem? hx
   obtain ⟨xt,xl,xh⟩:=hS x hxm
   have hn:=fm_next (f:=oneF S f slot d) hx
   by_cases hs:x.n.slot = slot
   case neg =>
    have hs':(x.n.slot != slot) = true:=by simp [bne,hs]
    have ho:oneF S f slot d x = []:=if_neg hs
    rw [ho,List.append_nil] at hn
    simp (maxSteps:=9^7) only [go_sem,↓reduceIte,reduceCtorEq,Nat.reduceEqDiff,Nat.reduceBEq,Nat.reduceAdd,Nat.reduceSub,Nat.reduceMul,Nat.reduceLT,Nat.reduceLeDiff,Nat.reduceBNe,Int.reduceBEq,Int.reduceBNe,Int.reduceLT,Int.reduceLE,Spn.a,Msg.a,Par.a,Nd.a,Seat.a,t0,t1,t2,t8,t7,o7,hlt',hgi,hs',List.length_map,Int.toNat_natCast]
    refine ⟨by omega,S.length - (i + 1),by omega,i + 1,by omega,rfl,?_,?_,?_,?_,?_,?_⟩ <;> (simp (maxSteps:=9^7) only [go_sem,↓reduceIte,reduceCtorEq,Nat.reduceEqDiff,Nat.reduceBEq,Nat.reduceAdd,Nat.reduceSub,Nat.reduceMul,Nat.reduceLT,Nat.reduceLeDiff,Nat.reduceBNe,Int.reduceBEq,Int.reduceBNe,Int.reduceLT,Int.reduceLE,Spn.a,Msg.a,Par.a,Nd.a,Seat.a,t0,t1,t2,t8,t7,o7,hw,hn])
   have hs':(x.n.slot != slot) = false:=by simp [bne,hs]
   have ho:oneF S f slot d x = x.n.shp x.s d :: x.n.kids.flatMap (fun k=>z3c S f k (d + 1)):=if_pos hs
   have c1:=rShp_ok x.n x.s d xt xl xh
   have hnk:=xt.nkid
   have hone:=fm_mem (oneF S f slot d) hxm
   have hall:=rowT_all S f d x ((S.take i).flatMap (oneF S f slot d))
   rw [hs,← hn] at hall
   have hni:=y3u (oneF S f slot d) S (i + 1)
   generalize hpd:(S.take i).flatMap (oneF S f slot d) = pre at *
   have hrl:=rowT_len S f d x pre
   rw [hall] at hrl
   have hz:=rowT_zero S f d x pre
   have htk:(pre.map AV.str).take pre.length = pre.map AV.str:=List.take_of_length_le (by simp)
   have hpz:pre.map AV.str ++ [AV.str (x.n.shp x.s d)] = (rowT S f d x pre 0).map AV.str:=by rw [hz]; simp
   have hpl:pre.length + 1 = (rowT S f d x pre 0).length:=by rw [hz]; simp
   simp only [Spn.a] at c1
   (repeat (first | simp (maxSteps:=9^7) only [go_sem,↓reduceIte,reduceCtorEq,Nat.reduceEqDiff,Nat.reduceBEq,Nat.reduceAdd,Nat.reduceSub,Nat.reduceMul,Nat.reduceLT,Nat.reduceLeDiff,Nat.reduceBNe,Int.reduceBEq,Int.reduceBNe,Int.reduceLT,Int.reduceLE,Spn.a,Msg.a,Par.a,Nd.a,Seat.a,t0,t1,t2,t8,t7,o7,hlt',hgi,hs',htk,List.length_map,Int.toNat_natCast] | refine z01 (c1) ?_ | refine z00 (c1) ?_ | refine And.intro (by omega) ?_ | refine And.intro (fun d hd=>by (repeat (rcases hd with rfl | hd; · exact ⟨rfl,rfl⟩)); cases hd) ?_))
   refine ⟨⟨⟨by omega,by omega⟩,fun d hd=>by rcases hd with rfl | hd; exact ⟨rfl,rfl⟩; cases hd⟩,?_⟩
   refine z08 (dkInv S f slot d i x pre) (k:=x.n.kids.length) ⟨0,by omega,rfl,?_,?_,?_,?_,?_,?_,?_,?_,?_⟩ ?_ <;> try (simp (maxSteps:=9^7) only [go_sem,↓reduceIte,reduceCtorEq,Nat.reduceEqDiff,Nat.reduceBEq,Nat.reduceAdd,Nat.reduceSub,Nat.reduceMul,Nat.reduceLT,Nat.reduceLeDiff,Nat.reduceBNe,Int.reduceBEq,Int.reduceBNe,Int.reduceLT,Int.reduceLE,Spn.a,Msg.a,Par.a,Nd.a,Seat.a,t0,t1,t2,t8,t7,o7,htk,hpz,hpl])
   ·rfl
   rintro k σ ⟨j,hj,rfl,t0,t1,t2,t8,t9,o9,t10,t7,o7⟩
   simp only [zjt]
   have hlj:=hrl j
   have htj:((rowT S f d x pre j).map AV.str).take (rowT S f d x pre j).length = (rowT S f d x pre j).map AV.str:=List.take_of_length_le (by simp)
   by_cases hjl:j < x.n.kids.length
   ·have hjl':(j:Int) < (x.n.kids.length:Int):=by omega
    obtain ⟨q,hq⟩:=z0f hjl
    have hgq:=z0j (f:=AV.int .i64) hq
    have hqm:=List.mem_of_getElem? hq
    have hw1:IntKind.i64.wrap (d + 1) = d + 1:=IntWalk.i64_in _ (by omega)
    have hw2:=z1j (j:=j) (by omega)
    have hkq:=fm_mem (fun k=>z3c S f k (d + 1)) hqm
    have hnx:=rowT_next (S:=S) (f:=f) (d:=d) (pre:=pre) hq
    have hln:=hrl (j + 1)
    have hll:=congrArg List.length hnx
    rw [List.length_append] at hll
    have c2:=ih q (d + 1) (hdp x hxm hs q hqm) (by omega) (by omega) (by omega)
    have hap:(rowT S f d x pre j).map AV.str ++ (z3c S f q (d + 1)).map AV.str = (rowT S f d x pre (j + 1)).map AV.str:=by rw [hnx,List.map_append]
    have hll':=hll.symm
    have htq:((z3c S f q (d + 1)).map AV.str).take (z3c S f q (d + 1)).length = (z3c S f q (d + 1)).map AV.str:=List.take_of_length_le (by simp)
    (repeat (first | simp (maxSteps:=9^7) only [go_sem,↓reduceIte,reduceCtorEq,Nat.reduceEqDiff,Nat.reduceBEq,Nat.reduceAdd,Nat.reduceSub,Nat.reduceMul,Nat.reduceLT,Nat.reduceLeDiff,Nat.reduceBNe,Int.reduceBEq,Int.reduceBNe,Int.reduceLT,Int.reduceLE,Spn.a,Msg.a,Par.a,Nd.a,Seat.a,t0,t1,t2,t8,t9,o9,t10,t7,o7,hjl',hgq,hw1,htj,htq,List.length_map,Int.toNat_natCast] | refine z01 (c2) ?_ | refine z00 (c2) ?_ | refine And.intro (by omega) ?_ | refine And.intro (fun d hd=>by (repeat (rcases hd with rfl | hd; · exact ⟨rfl,rfl⟩)); cases hd) ?_))
    refine ⟨⟨⟨by omega,by omega⟩,strs_one _⟩,x.n.kids.length - (j + 1),by omega,j + 1,by omega,rfl,?_,?_,?_,?_,?_,?_,?_,?_,?_⟩ <;>
     (simp (maxSteps:=9^7) only [go_sem,↓reduceIte,reduceCtorEq,Nat.reduceEqDiff,Nat.reduceBEq,Nat.reduceAdd,Nat.reduceSub,Nat.reduceMul,Nat.reduceLT,Nat.reduceLeDiff,Nat.reduceBNe,Int.reduceBEq,Int.reduceBNe,Int.reduceLT,Int.reduceLE,Spn.a,Msg.a,Par.a,Nd.a,Seat.a,t0,t1,t2,t8,t9,o9,t10,t7,o7,hw2,htj,htq,hap,hll',List.length_map])
   ·have hjl':¬ (j:Int) < (x.n.kids.length:Int):=by omega
    obtain rfl:j = x.n.kids.length:=by omega
    rw [hall] at t7 o7 htj
    have hni':((S.take (i + 1)).flatMap (oneF S f slot d)).map AV.str = ((S.take (i + 1)).flatMap (oneF S f slot d)).map AV.str:=rfl
    simp (maxSteps:=9^7) only [go_sem,↓reduceIte,reduceCtorEq,Nat.reduceEqDiff,Nat.reduceBEq,Nat.reduceAdd,Nat.reduceSub,Nat.reduceMul,Nat.reduceLT,Nat.reduceLeDiff,Nat.reduceBNe,Int.reduceBEq,Int.reduceBNe,Int.reduceLT,Int.reduceLE,Spn.a,Msg.a,Par.a,Nd.a,Seat.a,t0,t1,t2,t8,t9,o9,t10,t7,o7,hjl',List.length_map]
    refine ⟨S.length - (i + 1),by omega,i + 1,by omega,rfl,?_,?_,?_,?_,?_,?_⟩ <;> (simp (maxSteps:=9^7) only [go_sem,↓reduceIte,reduceCtorEq,Nat.reduceEqDiff,Nat.reduceBEq,Nat.reduceAdd,Nat.reduceSub,Nat.reduceMul,Nat.reduceLT,Nat.reduceLeDiff,Nat.reduceBNe,Int.reduceBEq,Int.reduceBNe,Int.reduceLT,Int.reduceLE,Spn.a,Msg.a,Par.a,Nd.a,Seat.a,t0,t1,t2,t8,t7,o7,hw,htj])
  ·have hlt':¬ (i:Int) < (S.length:Int):=by omega
   obtain rfl:i = S.length:=by omega
   rw [List.take_length] at t7 o7
   simp (maxSteps:=9^7) only [go_sem,↓reduceIte,reduceCtorEq,Nat.reduceEqDiff,Nat.reduceBEq,Nat.reduceAdd,Nat.reduceSub,Nat.reduceMul,Nat.reduceLT,Nat.reduceLeDiff,Nat.reduceBNe,Int.reduceBEq,Int.reduceBNe,Int.reduceLT,Int.reduceLE,Spn.a,Msg.a,Par.a,Nd.a,Seat.a,t0,t1,t2,t8,t7,o7,hlt',List.length_map]
end
section
open Go.RowKit
def ndAt (l:List Nd) (s:Int):Option Nd:=if 0≤s then l[s.toNat]? else none
def z3y (l:List Nd):Prop:=∀ (j:Nat) (n:Nd),l[j]? = some n->n.slot = (j:Int)
theorem zdu (s:Int):∀ (l:List Nd) (i:Nat) (o:Nd) (c:Nat),(∀ (j:Nat) (n:Nd),l[j]? = some n->n.slot = ((i + j:Nat):Int)) ->
  z3v s o c l = (((if (i:Int)≤s then l[(s - i).toNat]? else none).map fun n=>(n,c + 1)).getD (o,c))
 | [],i,o,c,h=>by
  rw [z3v]
  split <;> rfl
 | x :: l,i,o,c,h=>by
  have hx:x.slot = (i:Int):=by have:=h 0 x rfl; simpa using this
  have h':∀ (j:Nat) (n:Nd),l[j]? = some n->n.slot = ((i + 1 + j:Nat):Int):=fun j n e=>by
   have:=h (j + 1) n (by simpa using e)
   rw [this]; omega
  rw [z3v,hx]
  by_cases hs:(i:Int) = s
  ·rw [if_pos hs,zdu s l (i + 1) x (c + 1) h',if_neg (by omega),if_pos (by omega),show (s - (i:Int)).toNat = 0 by omega]
   rfl
  ·rw [if_neg hs,zdu s l (i + 1) o c h']
   by_cases h2:(i:Int)≤s
   ·rw [if_pos h2,if_pos (by omega),show (s - (i:Int)).toNat = (s - ((i + 1:Nat):Int)).toNat + 1 by omega,List.getElem?_cons_succ]
   ·rw [if_neg h2,if_neg (by omega)]
theorem z6f {l:List Nd} (h:z3y l) (s:Int):z28 l s = (((ndAt l s).map fun n=>(n,true)).getD (Nd.zero,false)):=by
 have e:=zdu s l 0 Nd.zero 0 (fun j n e=>by rw [h j n e]; omega)
 unfold z28 ndAt
 rw [e]
 by_cases h0:0≤s
 ·rw [if_pos h0,if_pos (by omega),show (s - ((0:Nat):Int)).toNat = s.toNat by omega]
  cases l[s.toNat]? <;> rfl
 ·rw [if_neg h0,if_neg (by omega)]; rfl
theorem z0v {l:List Nd} (h:z3y l) {s:Int} {n:Nd} (e:ndAt l s = some n):n.slot = s∧n ∈ l∧0≤s∧s < l.length:=by
 unfold ndAt at e
 by_cases h0:0≤s
 ·rw [if_pos h0] at e
  have h1:=h _ _ e
  have h2:=(List.getElem?_eq_some_iff.1 e).1
  exact ⟨by rw [h1]; omega,List.mem_of_getElem? e,h0,by omega⟩
 ·rw [if_neg h0] at e; cases e
theorem ndAt_some {l:List Nd} {s:Int} (h0:0≤s) (h1:s < l.length):∃ n,ndAt l s = some n:=by
 unfold ndAt
 rw [if_pos h0]
 exact ⟨l[s.toNat]'(by omega),List.getElem?_eq_getElem _⟩
def nxt (n:Nd):List Int:=n.kids ++ (if n.top then [] else [n.right])
def y2s (l:List Nd) (s:Int):List Int:=((ndAt l s).map nxt).getD []
def z45 (l:List Nd) (s:Int):List Int:=((ndAt l s).map Nd.kids).getD []
structure Lad (l:List Nd):Prop where
 ord:z3y l
 len:l.length≤200
 nk:∀ n,n ∈ l->n.kids.length≤2000
 kid:∀ n,n ∈ l->∀ k,k ∈ n.kids->0≤k∧k < l.length
 rt:∀ n,n ∈ l->n.right < l.length
 top:∀ n,n ∈ l->(0≤n.right ↔ n.top = false)
theorem Lad.step {l:List Nd} (h:Lad l) {s x:Int} (hx:x ∈ y2s l s):0≤x∧x < l.length:=by
 unfold y2s at hx
 cases e:ndAt l s with
 | none=>rw [e] at hx; cases hx
 | some n =>
  rw [e] at hx
  have hn:=(z0v h.ord e).2.1
  rcases List.mem_append.1 (show x ∈ n.kids ++ _ from hx) with q | q
  ·exact h.kid n hn x q
  ·cases ht:n.top with
   | true=>rw [ht] at q; cases q
   | false =>
    rw [ht] at q
    have:x = n.right:=by simpa using q
    exact ⟨by rw [this]; exact (h.top n hn).2 ht,by rw [this]; exact h.rt n hn⟩
inductive Bel (l:List Nd):Int->Int->Prop
 | one {a b:Int}:b ∈ y2s l a->Bel l a b
 | more {a c b:Int}:Bel l a c->b ∈ y2s l c->Bel l a b
def left (N:Nat) (met:List Int):Nat:=(List.range N).countP fun i:Nat=>!met.contains (i:Int)
end
section
open Go.RowKit
def preS (kids:Int->List Int):Nat->Int->List Int
 | 0,_=>[]
 | f + 1,s=>s :: (kids s).flatMap (preS kids f)
structure Forest (kids:Int->List Int) (lev:Int->Int) (ok:Int->Prop):Prop where
 down:∀ s,ok s->∀ k,k ∈ kids s->ok k∧lev k = lev s - 1
 one:∀ s,ok s->(kids s).Nodup
 up:∀ s t k,ok s->ok t->k ∈ kids s->k ∈ kids t->s = t
section
variable {kids:Int->List Int} {lev:Int->Int} {ok:Int->Prop}
theorem z66 (T:Forest kids lev ok):∀ (f:Nat) (s x:Int),ok s->x ∈ preS kids f s->ok x∧(x = s∨(lev x < lev s∧∃ p,p ∈ preS kids f s∧x ∈ kids p))
 | 0,s,x,_,h=>by cases h
 | f + 1,s,x,hs,h=>by
  rw [preS] at h ⊢
  rcases List.mem_cons.1 h with rfl | h
  ·exact ⟨hs,.inl rfl⟩
  ·obtain ⟨k,hk,hx⟩:=List.mem_flatMap.1 h
   obtain ⟨ok1,lv⟩:=T.down s hs k hk
   obtain ⟨o,c⟩:=z66 T f k x ok1 hx
   refine ⟨o,.inr ?_⟩
   rcases c with rfl | ⟨c,p,hp,hxp⟩
   ·exact ⟨by omega,s,List.mem_cons_self ..,hk⟩
   ·exact ⟨by omega,p,List.mem_cons_of_mem _ (List.mem_flatMap.2 ⟨k,hk,hp⟩),hxp⟩
theorem y82 (T:Forest kids lev ok) {f g:Nat} {s t:Int} (hs:ok s) (ht:ok t) (hne:s ≠ t) (hl:lev s = lev t):∀ (n:Nat) (z:Int),(lev s - lev z).toNat = n->z ∈ preS kids f s->z ∈ preS kids g t->False
 | n,z,hn,h1,h2=>by
  obtain ⟨o1,c1⟩:=z66 T f s z hs h1
  obtain ⟨o2,c2⟩:=z66 T g t z ht h2
  rcases c1 with rfl | ⟨l1,p,hp,hz⟩
  ·rcases c2 with rfl | ⟨l2,_⟩
   ·exact hne rfl
   ·omega
  ·rcases c2 with rfl | ⟨l2,p',hp',hz'⟩
   ·omega
   ·have op:=(z66 T f s p hs hp).1
    have op':=(z66 T g t p' ht hp').1
    obtain rfl:=T.up p p' z op op' hz hz'
    have lv:=(T.down p op z hz).2
    have lp:=(z66 T f s p hs hp).2
    have hle:lev p≤lev s:=by
     rcases lp with rfl | ⟨q,_⟩
     ·exact Int.le_refl _
     ·omega
    exact y82 T hs ht hne hl (n - 1) p (by omega) hp hp'
 termination_by n=>n
 decreasing_by omega
theorem y85 {α β:Type} {f:α->List β}:∀ {l:List α},l.Nodup->(∀ a,a ∈ l->(f a).Nodup)->(∀ a b,a ∈ l->b ∈ l->a ≠ b->∀ z,z ∈ f a->z ∈ f b->False)->(l.flatMap f).Nodup
 | [],_,_,_=>List.nodup_nil
 | x :: l,h,h1,h2=>by
  rw [List.flatMap_cons,List.nodup_append]
  have hn:=List.nodup_cons.1 h
  refine ⟨h1 x (List.mem_cons_self ..),y85 hn.2 (fun a ha=>h1 a (List.mem_cons_of_mem _ ha)) (fun a b ha hb=>h2 a b (List.mem_cons_of_mem _ ha) (List.mem_cons_of_mem _ hb)),fun a ha b hb e=>?_⟩
  subst e
  obtain ⟨y,hy,hz⟩:=List.mem_flatMap.1 hb
  exact h2 x y (List.mem_cons_self ..) (List.mem_cons_of_mem _ hy) (fun e=>hn.1 (by rw [e]; exact hy)) a ha hz
theorem zld (T:Forest kids lev ok):∀ (f:Nat) (s:Int),ok s->(preS kids f s).Nodup
 | 0,_,_=>List.nodup_nil
 | f + 1,s,hs=>by
  rw [preS]
  refine List.nodup_cons.2 ⟨fun h=>?_,y85 (T.one s hs) (fun k hk=>zld T f k (T.down s hs k hk).1) (fun a b ha hb hne z h1 h2=>?_)⟩
  ·obtain ⟨k,hk,hx⟩:=List.mem_flatMap.1 h
   obtain ⟨o,lv⟩:=T.down s hs k hk
   rcases (z66 T f k s o hx).2 with e | ⟨e,_⟩
   ·rw [← e] at lv; omega
   ·omega
  ·obtain ⟨oa,la⟩:=T.down s hs a ha
   obtain ⟨ob,lb⟩:=T.down s hs b hb
   exact y82 T oa ob hne (by omega) _ z rfl h1 h2
end
theorem zfd:∀ {l m:List Int},l.Nodup->(∀ x,x ∈ l->x ∈ m)->l.length≤m.length
 | [],_,_,_=>Nat.zero_le _
 | x :: l,m,h,hs=>by
  have hn:=List.nodup_cons.1 h
  have hx:=hs x (List.mem_cons_self ..)
  have:=zfd (l:=l) (m:=m.erase x) hn.2 fun y hy=>(List.mem_erase_of_ne (fun e=>hn.1 (by rw [← e]; exact hy))).2 (hs y (List.mem_cons_of_mem _ hy))
  rw [List.length_erase_of_mem hx] at this
  have:=List.length_pos_of_mem hx
  rw [List.length_cons]; omega
structure Seats (l:List Nd) (S:List Seat):Prop where
 nd:(S.map fun x=>x.n.slot).Nodup
 node:∀ x,x ∈ S->ndAt l x.n.slot = some x.n
 kid:∀ x,x ∈ S->∀ (j:Nat) (k:Int),x.n.kids[j]? = some k->0 < x.n.level∧∃ y,y ∈ S∧y.n.slot = k∧y.s = x.s.meet (z0y x.n.pivots j)∧y.n.level = x.n.level - 1
 lev:∀ x,x ∈ S->0≤x.n.level
 kids:(S.flatMap fun x=>x.n.kids).Nodup
end
section
open Go.RowKit
def y6l (S:List Seat) (s:Int):Option Seat:=S.find? fun x=>decide (x.n.slot = s)
def z33 (S:List Seat) (s:Int):List Int:=((y6l S s).map fun x=>x.n.kids).getD []
def levS (S:List Seat) (s:Int):Int:=((y6l S s).map fun x=>x.n.level).getD 0
theorem z1o:∀ {S:List Seat} {x:Seat},(S.map fun x=>x.n.slot).Nodup->x ∈ S->y6l S x.n.slot = some x
 | [],x,_,h=>by cases h
 | y :: S,x,hn,h=>by
  rw [List.map_cons] at hn
  have hn:=List.nodup_cons.1 hn
  unfold y6l
  rw [List.find?_cons]
  rcases List.mem_cons.1 h with rfl | h
  ·rw [decide_eq_true rfl]
  ·have:¬ y.n.slot = x.n.slot:=fun e=>hn.1 (by rw [e]; exact List.mem_map.2 ⟨x,h,rfl⟩)
   rw [decide_eq_false this]
   exact z1o hn.2 h
theorem fm_only {β:Type} {g:Seat->List β} {s:Int}:∀ {S:List Seat} {x:Seat},(S.map fun x=>x.n.slot).Nodup->x ∈ S->x.n.slot = s->(∀ y,y.n.slot ≠ s->g y = [])->S.flatMap g = g x
 | [],x,_,h,_,_=>by cases h
 | y :: S,x,hn,h,hs,hg=>by
  rw [List.map_cons] at hn
  have hn:=List.nodup_cons.1 hn
  rw [List.flatMap_cons]
  rcases List.mem_cons.1 h with rfl | h
  ·have:S.flatMap g = []:=by
    rw [List.flatMap_eq_nil_iff]
    intro z hz
    exact hg z fun e=>hn.1 (by rw [hs,← e]; exact List.mem_map.2 ⟨z,hz,rfl⟩)
   rw [this,List.append_nil]
  ·have:¬ y.n.slot = s:=fun e=>hn.1 (by rw [e,← hs]; exact List.mem_map.2 ⟨x,h,rfl⟩)
   rw [hg y this,List.nil_append]
   exact fm_only hn.2 h hs hg
theorem fm_nd {α β:Type} {f:α->List β}:∀ {l:List α},(l.flatMap f).Nodup->(∀ a,a ∈ l->(f a).Nodup)∧(∀ a b,a ∈ l->b ∈ l->a ≠ b->∀ z,z ∈ f a->z ∈ f b->False)
 | [],_=>⟨fun a h=>(by cases h),fun a b h=>(by cases h)⟩
 | x :: l,h=>by
  rw [List.flatMap_cons,List.nodup_append] at h
  obtain ⟨h1,h2,h3⟩:=h
  obtain ⟨i1,i2⟩:=fm_nd h2
  refine ⟨fun a ha=>?_,fun a b ha hb hne z hz1 hz2=>?_⟩
  ·rcases List.mem_cons.1 ha with rfl | ha
   ·exact h1
   ·exact i1 a ha
  ·rcases List.mem_cons.1 ha with ea | ha'
   ·rcases List.mem_cons.1 hb with eb | hb'
    ·exact hne (ea.trans eb.symm)
    ·exact h3 z (by rw [← ea]; exact hz1) z (List.mem_flatMap.2 ⟨b,hb',hz2⟩) rfl
   ·rcases List.mem_cons.1 hb with eb | hb'
    ·exact h3 z (by rw [← eb]; exact hz2) z (List.mem_flatMap.2 ⟨a,ha',hz1⟩) rfl
    ·exact i2 a b ha' hb' hne z hz1 hz2
theorem fm_len {α β γ:Type} {f:α->List β} {g:α->List γ}:∀ {l:List α},(∀ a,a ∈ l->(f a).length = (g a).length)->(l.flatMap f).length = (l.flatMap g).length
 | [],_=>rfl
 | x :: l,h=>by
  rw [List.flatMap_cons,List.flatMap_cons,List.length_append,List.length_append,h x (List.mem_cons_self ..),fm_len fun a ha=>h a (List.mem_cons_of_mem _ ha)]
theorem Seats.slots {l:List Nd} {S:List Seat} (h:Seats l S) {x:Seat} (hx:x ∈ S):z33 S x.n.slot = x.n.kids∧levS S x.n.slot = x.n.level:=by
 unfold z33 levS
 rw [z1o h.nd hx]
 exact ⟨rfl,rfl⟩
theorem Seats.kidm {l:List Nd} {S:List Seat} (h:Seats l S) {x:Seat} (hx:x ∈ S) {k:Int} (hk:k ∈ x.n.kids):0 < x.n.level∧∃ y,y ∈ S∧y.n.slot = k∧y.n.level = x.n.level - 1:=by
 obtain ⟨j,hj⟩:=List.mem_iff_getElem?.1 hk
 obtain ⟨a,y,b,c,_,d⟩:=h.kid x hx j k hj
 exact ⟨a,y,b,c,d⟩
theorem Seats.forest {l:List Nd} {S:List Seat} (h:Seats l S):Forest (z33 S) (levS S) (fun s=>s ∈ S.map fun x=>x.n.slot):=by
 obtain ⟨n1,n2⟩:=fm_nd h.kids
 refine ⟨fun s hs k hk=>?_,fun s hs=>?_,fun s t k hs ht h1 h2=>?_⟩
 ·obtain ⟨x,hx,rfl⟩:=List.mem_map.1 hs
  rw [(h.slots hx).1] at hk
  obtain ⟨_,y,hy,rfl,hl⟩:=h.kidm hx hk
  refine ⟨List.mem_map.2 ⟨y,hy,rfl⟩,?_⟩
  rw [(h.slots hy).2,(h.slots hx).2]; exact hl
 ·obtain ⟨x,hx,rfl⟩:=List.mem_map.1 hs
  rw [(h.slots hx).1]
  exact n1 x hx
 ·obtain ⟨x,hx,rfl⟩:=List.mem_map.1 hs
  obtain ⟨y,hy,rfl⟩:=List.mem_map.1 ht
  rw [(h.slots hx).1] at h1
  rw [(h.slots hy).1] at h2
  by_cases e:x = y
  ·rw [e]
  ·exact (n2 x y hx hy e k h1 h2).elim
theorem zvt {l:List Nd} {S:List Seat} (h:Seats l S) (f:Nat) (d:Int) {x:Seat} (hx:x ∈ S):z3c S (f + 1) x.n.slot d = x.n.shp x.s d :: x.n.kids.flatMap (fun k=>z3c S f k (d + 1)):=by
 rw [zne,fm_only (g:=oneF S f x.n.slot d) (s:=x.n.slot) h.nd hx rfl fun y hy=>if_neg hy]
 unfold oneF
 rw [if_pos rfl]
theorem z97 {l:List Nd} {S:List Seat} (h:Seats l S):∀ (f:Nat) (d:Int) (x:Seat),x ∈ S->(z3c S f x.n.slot d).length = (preS (z33 S) f x.n.slot).length
 | 0,d,x,_=>by rw [z3c,preS]; rfl
 | f + 1,d,x,hx=>by
  rw [zvt h f d hx,preS,(h.slots hx).1,List.length_cons,List.length_cons,fm_len fun k hk=>?_]
  obtain ⟨_,y,hy,rfl,_⟩:=h.kidm hx hk
  exact z97 h f (d + 1) y hy
theorem zu7 {l:List Nd} {S:List Seat} (h:Seats l S) (f:Nat) (d:Int) (x:Seat) (hx:x ∈ S):(z3c S f x.n.slot d).length≤S.length:=by
 have hok:x.n.slot ∈ S.map fun x=>x.n.slot:=List.mem_map.2 ⟨x,hx,rfl⟩
 rw [z97 h f d x hx]
 have:=zfd (zld h.forest f x.n.slot hok) (m:=S.map fun x=>x.n.slot) fun z hz=>(z66 h.forest f x.n.slot z hok hz).1
 rwa [List.length_map] at this
theorem deep_of {l:List Nd} {S:List Seat} (h:Seats l S):∀ (f:Nat) (x:Seat),x ∈ S->x.n.level < f->DeepS S f x.n.slot
 | 0,x,hx,hl=>by have:=h.lev x hx; omega
 | f + 1,x,hx,hl=>by
  intro y hy hs k hk
  have e:y = x:=by
   have a:=z1o h.nd hy
   have b:=z1o h.nd hx
   rw [hs,b] at a
   exact (Option.some.inj a).symm
  subst e
  obtain ⟨_,z,hz,rfl,hzl⟩:=h.kidm hx hk
  exact deep_of h f z hz (by omega)
def z3e (g:Int->Spn->List ByteArray) (p:List ByteArray) (s:Spn):Nat->List Int->List ByteArray
 | _,[]=>[]
 | j,k :: ks=>g k (s.meet (z0y p j)) ++ z3e g p s (j + 1) ks
def z4g (l:List Nd):Nat->Int->Spn->Int->List ByteArray
 | 0,_,_,_=>[]
 | f + 1,slot,s,d=>match ndAt l slot with
  | none=>[]
  | some n=>n.shp s d :: z3e (fun k t=>z4g l f k t (d + 1)) n.pivots s 0 n.kids
theorem za2 {l:List Nd} {S:List Seat} (h:Seats l S):∀ (f:Nat) (d:Int) (x:Seat),x ∈ S->z3c S f x.n.slot d = z4g l f x.n.slot x.s d
 | 0,d,x,_=>by rw [z3c,z4g]
 | f + 1,d,x,hx=>by
  rw [zvt h f d hx,z4g,h.node x hx]
  simp only
  congr 1
  have key:∀ (ks:List Int) (j:Nat),(∀ (i:Nat) (k:Int),ks[i]? = some k->x.n.kids[j + i]? = some k)->ks.flatMap (fun k=>z3c S f k (d + 1)) = z3e (fun k t=>z4g l f k t (d + 1)) x.n.pivots x.s j ks:=by
   intro ks
   induction ks with
   | nil=>intro j _; rfl
   | cons k ks ih =>
    intro j hj
    obtain ⟨_,y,hy,e1,e2,_⟩:=h.kid x hx j k (by simpa using hj 0 k rfl)
    rw [List.flatMap_cons,z3e,ih (j + 1) fun i q e=>by
     have:=hj (i + 1) q (by simpa using e)
     rw [show j + 1 + i = j + (i + 1) by omega]; exact this]
    have:=za2 h f (d + 1) y hy
    rw [e1,e2] at this
    rw [this]
  exact key x.n.kids 0 fun i k e=>by rw [Nat.zero_add]; exact e
end
section
open Go.RowKit
theorem z3k {l:List Nd} {x:Seat}:∀ (ks:List Int) (j:Nat) (y:Seat),y ∈ (z0p l x j ks).1->y.n.level = x.n.level - 1
 | [],j,y,h=>by cases h
 | k :: ks,j,y,h=>by
  rw [z0p] at h
  by_cases c:(z28 l k).2 = true∧(z28 l k).1.level = x.n.level - 1
  ·rw [if_pos c] at h
   rcases List.mem_cons.1 h with rfl | h
   ·exact c.2
   ·exact z3k ks (j + 1) y h
  ·rw [if_neg c] at h; cases h
def y69 (S:List Seat):Prop:=S.Pairwise fun x y=>y.n.level≤x.n.level
theorem z4x {l:List Nd}:∀ (f:Nat) (out:List Seat) (i:Nat),y69 out->(∀ x y,out[i]? = some x->y ∈ out->x.n.level - 1≤y.n.level)->∀ S,z1a l f out i = (S,true)->y69 S
 | 0,out,i,h1,h2,S,e=>by
  rw [z1a] at e
  cases e
  exact h1
 | f + 1,out,i,h1,h2,S,e=>by
  rw [z1a] at e
  cases hx:out[i]? with
  | none=>rw [hx] at e; cases e; exact h1
  | some x =>
   rw [hx] at e
   have hlt:=(List.getElem?_eq_some_iff.1 hx).1
   have hxe:=(List.getElem?_eq_some_iff.1 hx).2
   have hle:∀ z,out[i + 1]? = some z->z.n.level≤x.n.level:=fun z hz=>by
    obtain ⟨hz1,hz2⟩:=List.getElem?_eq_some_iff.1 hz
    have:=List.pairwise_iff_getElem.1 h1 i (i + 1) hlt hz1 (by omega)
    rw [hxe,hz2] at this
    exact this
   dsimp only at e
   by_cases q1:l.length < out.length
   ·rw [if_pos q1] at e; cases e
   rw [if_neg q1] at e
   by_cases q2:x.n.level = 0
   ·rw [if_pos q2] at e
    refine z4x f out (i + 1) h1 (fun z y hz hy=>?_) S e
    have a:=h2 x y hx hy
    have b:=hle z hz
    omega
   rw [if_neg q2] at e
   by_cases q3:x.n.level < 0∨z60 x.n.pivots x.n.kids = false
   ·rw [if_pos q3] at e; cases e
   rw [if_neg q3] at e
   by_cases q4:(z0p l x 0 x.n.kids).2 = true
   case neg=>rw [if_neg q4] at e; cases e
   rw [if_pos q4] at e
   refine z4x f (out ++ (z0p l x 0 x.n.kids).1) (i + 1) ?_ (fun z y hz hy=>?_) S e
   ·refine List.pairwise_append.2 ⟨h1,?_,fun a ha b hb=>?_⟩
    ·refine List.pairwise_iff_getElem.2 fun m m' hm hm' _=>?_
     rw [z3k x.n.kids 0 _ (List.getElem_mem hm),z3k x.n.kids 0 _ (List.getElem_mem hm')]
     exact Int.le_refl _
    ·rw [z3k x.n.kids 0 b hb]
     exact h2 x a hx ha
   ·have hy':x.n.level - 1≤y.n.level:=by
     rcases List.mem_append.1 hy with hy | hy
     ·exact h2 x y hx hy
     ·rw [z3k x.n.kids 0 y hy]; exact Int.le_refl _
    have hz':z.n.level≤x.n.level:=by
     rcases Nat.lt_or_ge (i + 1) out.length with q | q
     ·rw [List.getElem?_append_left q] at hz
      exact hle z hz
     ·rw [List.getElem?_append_right q] at hz
      rw [z3k x.n.kids 0 z (List.mem_of_getElem? hz)]; omega
    omega
end
section
open Go.RowKit
def z1p (l:List Nd):List (Int × AV):=l.map fun n=>(n.slot,n.a)
theorem upk_new:∀ {es:List (Int × AV)} {k:Int} {d:AV},(∀ e,e ∈ es->e.1 ≠ k)->upk es k d = es ++ [(k,d)]
 | [],k,d,_=>rfl
 | e :: l,k,d,h=>by
  have h0:=h e (List.mem_cons_self ..)
  rw [upk,if_neg (by simpa using fun q:k = e.1=>h0 q.symm),upk_new fun x hx=>h x (List.mem_cons_of_mem _ hx)]
  rfl
theorem zlo:∀ (l:List Nd) (i:Nat) (k:Int),(∀ (j:Nat) (n:Nd),l[j]? = some n->n.slot = ((i + j:Nat):Int))->lkp (z1p l) k = (if (i:Int)≤k then l[(k - i).toNat]? else none).map Nd.a
 | [],i,k,h=>by
  show none = _
  split <;> rfl
 | x :: l,i,k,h=>by
  have hx:x.slot = (i:Int):=by have:=h 0 x rfl; simpa using this
  have h':∀ (j:Nat) (n:Nd),l[j]? = some n->n.slot = ((i + 1 + j:Nat):Int):=fun j n e=>by
   have:=h (j + 1) n (by simpa using e)
   rw [this]; omega
  show (if k == x.slot then some x.a else lkp (z1p l) k) = _
  rw [hx,zlo l (i + 1) k h']
  by_cases hk:k = (i:Int)
  ·rw [if_pos (by simp [hk]),if_pos (by omega),show (k - (i:Int)).toNat = 0 by omega]; rfl
  ·rw [if_neg (by simpa using hk)]
   by_cases h2:(i:Int)≤k
   ·rw [if_pos h2,if_pos (by omega),show (k - (i:Int)).toNat = (k - ((i + 1:Nat):Int)).toNat + 1 by omega,List.getElem?_cons_succ]
   ·rw [if_neg h2,if_neg (by omega)]
theorem zfe {l:List Nd} (h:z3y l) (k:Int):lkp (z1p l) k = (ndAt l k).map Nd.a:=by
 rw [zlo l 0 k (fun j n e=>by rw [h j n e]; omega)]
 unfold ndAt
 by_cases h0:0≤k
 ·rw [if_pos h0,if_pos (by omega),show (k - ((0:Nat):Int)).toNat = k.toNat by omega]
 ·rw [if_neg h0,if_neg (by omega)]
theorem znd {l:List Nd} (h:z3y l) {j:Nat} {x:Nd} (hx:l[j]? = some x):upk (z1p (l.take j)) x.slot x.a = z1p (l.take (j + 1)):=by
 rw [upk_new]
 ·unfold z1p
  rw [List.take_add_one,hx,List.map_append]; rfl
 ·intro e he hk
  obtain ⟨n,h1,h2⟩:=List.mem_map.1 he
  obtain ⟨i,hi⟩:=List.mem_iff_getElem?.1 h1
  rw [List.getElem?_take] at hi
  split at hi
  ·rename_i hij
   have a:=h i n hi
   have b:=h j x hx
   rw [← h2] at hk
   have hk':n.slot = x.slot:=hk
   rw [a,b] at hk'
   omega
  ·cases hi
end
section
open Go.RowKit
attribute [local go_sem ↓] z1m z0h
def zsx:Reg:=⟨[],[⟨.mv (.c (.cst (.map none))),some 2,none,[],[]⟩],[],[],false⟩
def zsw:List XOp:=[(.mkmap 6 71),(.op [] ⟨.mv (.t 6),some 3,none,[],[]⟩)]
def zcl:List ROp:=[⟨.mv (.t 0),some 7,none,[],[]⟩,⟨.len false (.t 7),some 8,none,[],[]⟩,⟨.mv (.c (.int .i64 0)),some 9,none,[],[]⟩]
def zsv:Reg:=⟨[],zcl,[],[],false⟩
def zsu:Reg:=⟨[],[⟨.bin .lss (.t 9) (.t 8),some 10,none,[],[]⟩],[],[],false⟩
def zck:List ROp:=[⟨.iaddr 10 (.t 7) (.t 9),some 11,none,[5],[]⟩,⟨.load 10 true (.t 11),some 12,none,[5],[]⟩,⟨.alloc 10 27 (.agg [(.int .i64 0),(.int .i64 0),(.sl []),(.sl []),(.str ⟨#[]⟩),(.bool false),(.int .i64 0),(.int .i64 0),(.sl []),(.sl [])]),some 5,none,[],[]⟩,⟨.store 10 (.t 5) (.t 12),none,none,[],[]⟩]
def zss:Reg:=⟨[],zck,[5],[],false⟩
def zsr:List XOp:=[(.op [] ⟨.mv (.t 3),some 13,none,[],[]⟩),(.op [] ⟨.faddr 0 (.t 5),some 14,none,[],[]⟩),(.op [] ⟨.load 1 false (.t 14),some 15,none,[],[]⟩),(.op [] ⟨.load 10 true (.t 5),some 16,none,[],[]⟩),(.mupd (.t 13) (.t 15) (.t 16))]
def zsq:Reg:=⟨[],[⟨.bin .add (.t 9) (.c (.int .i64 1)),some 17,none,[],[]⟩,⟨.mv (.t 17),some 9,none,[],[]⟩],[],[],false⟩
def zl6 (P:Program):IR:=(.seq (.reg zsu)
 (.seq (.cond (.t 10) .skip
 (.exit 0))
 (.seq (.block 1 (.seq (.reg zss)
 (.regx P zsr)))
 (.reg zsq))))
def zsp:Reg:=⟨[],[⟨.mv (.t 3),some 18,none,[],[]⟩,⟨.mv (.t 18),some 2,none,[],[]⟩],[],[],false⟩
def y1i (P:Program):IR:=(.seq (.reg zsx)
 (.seq (.regx P zsw)
 (.seq (.seq (.reg zsv)
 (.block 0 (.loop (zl6 P))))
 (.seq (.reg zsp)
 .ret))))
def zo3:List RDesc:=[(.tmp 2)]
theorem e_bySlot_0:EqR zsx [⟨.mv (.c (.cst (.map none))),some 2,none,[],[]⟩] []:=fun _ _ _=>rfl
theorem e_bySlot_2:EqR zsv zcl []:=fun _ _ _=>rfl
theorem e_bySlot_3:EqR zsu [⟨.bin .lss (.t 9) (.t 8),some 10,none,[],[]⟩] []:=fun _ _ _=>rfl
theorem e_bySlot_4:EqR zss zck [5]:=fun _ _ _=>rfl
theorem e_bySlot_6:EqR zsq [⟨.bin .add (.t 9) (.c (.int .i64 1)),some 17,none,[],[]⟩,⟨.mv (.t 17),some 9,none,[],[]⟩] []:=fun _ _ _=>rfl
theorem e_bySlot_8:EqR zsp [⟨.mv (.t 3),some 18,none,[],[]⟩,⟨.mv (.t 18),some 2,none,[],[]⟩] []:=fun _ _ _=>rfl
theorem fn_bySlot {args:List AV} {r:AV} (ha:args.length.ble Tryd.f72.ntmps = true) (h:run (AFn Tryd.prog) (y1i Tryd.prog) (endQ zo3 r) (z0a args)):AFn Tryd.prog 72 args r :=
 AFn.of_code (pv:=false) (hint:=fun _=>[]) (c:=Tryd.f72.body.getD .skip) (by kernel_rfl) (by kernel_rfl) Tryd.func72 (by kernel_rfl) (by kernel_rfl) (by kernel_rfl) (of_decide_eq_true (by kernel_rfl)) (Nat.le_of_ble_eq_true ha) (Nat.le_of_ble_eq_true (by kernel_rfl)) (z0b h)
def zbz:List ROp:=[⟨.alloc 10 27 (.agg [(.int .i64 0),(.int .i64 0),(.sl []),(.sl []),(.str ⟨#[]⟩),(.bool false),(.int .i64 0),(.int .i64 0),(.sl []),(.sl [])]),some 4,none,[],[]⟩,⟨.mv (.c (.bool false)),some 5,none,[],[]⟩]
def zre:Reg:=⟨[],zbz,[4],[],false⟩
def zrd:List XOp:=[(.op [] ⟨.mv (.t 0),some 10,none,[],[]⟩),(.mlook 11 true (.t 10) (.c (.int .i64 0)) (.agg [(.int .i64 0),(.int .i64 0),(.sl []),(.sl []),(.str ⟨#[]⟩),(.bool false),(.int .i64 0),(.int .i64 0),(.sl []),(.sl [])]) none),(.op [] ⟨.mv (.t 11),some 9,none,[],[]⟩),(.op [] ⟨.ext 0 (.t 9),some 12,none,[],[]⟩),(.op [] ⟨.ext 1 (.t 9),some 13,none,[],[]⟩),(.op [6] ⟨.alloc 10 27 (.agg [(.int .i64 0),(.int .i64 0),(.sl []),(.sl []),(.str ⟨#[]⟩),(.bool false),(.int .i64 0),(.int .i64 0),(.sl []),(.sl [])]),some 6,none,[],[]⟩),(.op [] ⟨.store 10 (.t 6) (.t 12),none,none,[],[]⟩),(.op [] ⟨.mv (.t 13),some 7,none,[],[]⟩)]
def zby:List ROp:=[⟨.mv (.t 7),some 14,none,[],[]⟩,⟨.mv (.t 14),some 15,none,[],[]⟩,⟨.faddr 1 (.t 6),some 16,(some (15,true)),[],[]⟩,⟨.load 1 false (.t 16),some 17,(some (15,true)),[],[]⟩,⟨.mv (.t 1),some 18,(some (15,true)),[],[]⟩,⟨.mx true (.t 18) (.c (.int .i64 0)),some 19,(some (15,true)),[],[]⟩,⟨.bin .gtr (.t 17) (.t 19),some 20,(some (15,true)),[],[]⟩,⟨.pick (.t 15) (.t 20) (.c (.bool false)),some 21,none,[],[]⟩,⟨.mv (.t 21),some 22,none,[],[]⟩,⟨.faddr 3 (.t 6),some 23,(some (22,true)),[],[]⟩,⟨.load 1 false (.t 23),some 24,(some (22,true)),[],[]⟩,⟨.len false (.t 24),some 25,(some (22,true)),[],[]⟩,⟨.bin .gtr (.t 25) (.c (.int .i64 0)),some 26,(some (22,true)),[],[]⟩,⟨.pick (.t 22) (.t 26) (.c (.bool false)),some 27,none,[],[]⟩]
def zrc:Reg:=⟨[],zby,[],[],false⟩
def zbx:List ROp:=[⟨.faddr 1 (.t 6),some 28,none,[],[]⟩,⟨.load 1 false (.t 28),some 29,none,[],[]⟩,⟨.mv (.t 29),some 8,none,[],[]⟩]
def zrb:Reg:=⟨[],zbx,[],[],false⟩
def zra:List XOp:=[(.op [] ⟨.mv (.t 0),some 31,none,[],[]⟩),(.op [] ⟨.faddr 3 (.t 6),some 32,none,[],[]⟩),(.op [] ⟨.load 1 false (.t 32),some 33,none,[],[]⟩),(.op [] ⟨.iaddr 1 (.t 33) (.c (.int .i64 0)),some 34,none,[],[]⟩),(.op [] ⟨.load 1 false (.t 34),some 35,none,[],[]⟩),(.mlook 36 true (.t 31) (.t 35) (.agg [(.int .i64 0),(.int .i64 0),(.sl []),(.sl []),(.str ⟨#[]⟩),(.bool false),(.int .i64 0),(.int .i64 0),(.sl []),(.sl [])]) none),(.op [] ⟨.mv (.t 36),some 30,none,[],[]⟩),(.op [] ⟨.ext 0 (.t 30),some 37,none,[],[]⟩),(.op [] ⟨.ext 1 (.t 30),some 38,none,[],[]⟩),(.op [] ⟨.store 10 (.t 6) (.t 37),none,none,[],[]⟩),(.op [] ⟨.mv (.t 38),some 7,none,[],[]⟩)]
def zbw:List ROp:=[⟨.mv (.t 7),some 39,none,[],[]⟩,⟨.mv (.t 39),some 40,none,[],[]⟩,⟨.faddr 1 (.t 6),some 41,(some (40,true)),[],[]⟩,⟨.load 1 false (.t 41),some 42,(some (40,true)),[],[]⟩,⟨.mv (.t 8),some 43,(some (40,true)),[],[]⟩,⟨.bin .lss (.t 42) (.t 43),some 44,(some (40,true)),[],[]⟩,⟨.pick (.t 40) (.t 44) (.c (.bool false)),some 45,none,[],[]⟩,⟨.mv (.t 45),some 7,none,[],[]⟩]
def zr9:Reg:=⟨[],zbw,[],[],false⟩
def zke (P:Program):IR:=(.seq (.seq (.reg zrc)
 (.cond (.t 27) .skip
 (.exit 0)))
 (.block 1 (.seq (.reg zrb)
 (.seq (.regx P zra)
 (.reg zr9)))))
def zdm:List ROp:=[⟨.load 10 true (.t 6),some 46,none,[],[]⟩,⟨.mv (.t 7),some 47,none,[],[]⟩,⟨.mv (.t 47),some 48,none,[],[]⟩,⟨.faddr 1 (.t 6),some 49,(some (48,true)),[4],[]⟩,⟨.load 1 false (.t 49),some 50,(some (48,true)),[4],[]⟩,⟨.mv (.t 1),some 51,(some (48,true)),[],[]⟩,⟨.bin .eql (.t 50) (.t 51),some 52,(some (48,true)),[],[]⟩,⟨.pick (.t 48) (.t 52) (.c (.bool false)),some 53,none,[],[]⟩,⟨.store 10 (.t 4) (.t 46),none,none,[],[4]⟩]
def zr8:Reg:=⟨zdm,[⟨.mv (.t 53),some 5,none,[],[]⟩],[],[],true⟩
def y1d (P:Program):IR:=(.seq (.reg zre)
 (.seq (.regx P zrd)
 (.seq (.block 0 (.loop (zke P)))
 (.seq (.reg zr8)
 .ret))))
def zny:List RDesc:=[(.cell 4 10 true),(.tmp 5)]
theorem e_qFirst_0:EqR zre zbz [4]:=fun _ _ _=>rfl
theorem e_qFirst_2:EqR zrc zby []:=fun _ _ _=>rfl
theorem e_qFirst_3:EqR zrb zbx []:=fun _ _ _=>rfl
theorem e_qFirst_5:EqR zr9 zbw []:=fun _ _ _=>rfl
theorem e_qFirst_7 (C:FuncId->List AV->AV->Prop) (σ:St) (K:St->Prop):z0m C zr8 σ K = z07 C [] [⟨.mv (.t 53),some 5,none,[],[]⟩] zdm (σ.kills []) K:=rfl
theorem fn_qFirst {args:List AV} {r:AV} (ha:args.length.ble Tryd.f73.ntmps = true) (h:run (AFn Tryd.prog) (y1d Tryd.prog) (endQ zny r) (z0a args)):AFn Tryd.prog 73 args r :=
 AFn.of_code (pv:=false) (hint:=fun _=>[]) (c:=Tryd.f73.body.getD .skip) (by kernel_rfl) (by kernel_rfl) Tryd.func73 (by kernel_rfl) (by kernel_rfl) (by kernel_rfl) (of_decide_eq_true (by kernel_rfl)) (Nat.le_of_ble_eq_true ha) (Nat.le_of_ble_eq_true (by kernel_rfl)) (z0b h)
attribute [local go_sem ↓] y1i
attribute [local go_sem] zo3 e_bySlot_0 e_bySlot_2 zcl e_bySlot_3 e_bySlot_4 zck e_bySlot_6 e_bySlot_8 zsw zsr
attribute [local go_sem ↓] y1d
attribute [local go_sem] zny e_qFirst_0 zbz e_qFirst_2 zby e_qFirst_3 zbx e_qFirst_5 zbw e_qFirst_7 zdm zrd zra
def bsInv (l:List Nd) (k:Nat) (σ:St):Prop :=
 ∃ j:Nat,j≤l.length∧k = l.length - j∧σ.T 3 = .mp 6 (z1p (l.take j))∧σ.H 6 = some ⟨1,71,[],0⟩∧σ.T 7 = .sl (l.map Nd.a)∧σ.T 8 = .int .i64 l.length∧σ.T 9 = .int .i64 j
set_option maxHeartbeats 2000000 in
theorem bySlot_ok (l:List Nd) (h:z3y l) (hl:l.length≤200):AFn Tryd.prog 72 [.sl (l.map Nd.a)] (.mv (z1p l)):=by
 refine fn_bySlot rfl ?_
 simp (maxSteps:=9^7) only [go_sem,↓reduceIte,reduceCtorEq,Nat.reduceEqDiff,Nat.reduceBEq,Nat.reduceAdd,Nat.reduceSub,Nat.reduceMul,Nat.reduceLT,Nat.reduceLeDiff,Nat.reduceBNe,Int.reduceBEq,Int.reduceBNe,Int.reduceLT,Int.reduceLE,Nd.a,Msg.a,Par.a,evM,z0l.eq_1,z0l.eq_2,ents.eq_1,ents.eq_2,kI.eq_1,mpOk.eq_1,mpR.eq_1,lkV.eq_1,lkV.eq_2,List.length_map]
 refine z08 (bsInv l) (k:=l.length) ⟨0,by omega,rfl,?_,?_,?_,?_,?_⟩ ?_
 iterate 5 focus ((simp (maxSteps:=9^7) only [go_sem,↓reduceIte,reduceCtorEq,Nat.reduceEqDiff,Nat.reduceBEq,Nat.reduceAdd,Nat.reduceSub,Nat.reduceMul,Nat.reduceLT,Nat.reduceLeDiff,Nat.reduceBNe,Int.reduceBEq,Int.reduceBNe,Int.reduceLT,Int.reduceLE,Nd.a,Msg.a,Par.a,evM,z0l.eq_1,z0l.eq_2,ents.eq_1,ents.eq_2,kI.eq_1,mpOk.eq_1,mpR.eq_1,lkV.eq_1,lkV.eq_2,List.length_map]) <;> rfl)
 rintro k σ ⟨j,hj,rfl,t3,h6,t7,t8,t9⟩
 simp only [zl6]
 by_cases hlt:j < l.length
 case neg =>
  have hlt':¬ (j:Int) < (l.length:Int):=by omega
  rw [List.take_of_length_le (by omega)] at t3
  simp (maxSteps:=9^7) only [go_sem,↓reduceIte,reduceCtorEq,Nat.reduceEqDiff,Nat.reduceBEq,Nat.reduceAdd,Nat.reduceSub,Nat.reduceMul,Nat.reduceLT,Nat.reduceLeDiff,Nat.reduceBNe,Int.reduceBEq,Int.reduceBNe,Int.reduceLT,Int.reduceLE,Nd.a,Msg.a,Par.a,evM,z0l.eq_1,z0l.eq_2,ents.eq_1,ents.eq_2,kI.eq_1,mpOk.eq_1,mpR.eq_1,lkV.eq_1,lkV.eq_2,t3,h6,t7,t8,t9,hlt']
 have hlt':(j:Int) < (l.length:Int):=by omega
 obtain ⟨x,hx⟩:=z0f hlt
 have hgx:=z0j (f:=Nd.a) hx
 have hn:=znd h hx
 simp only [Nd.a] at hgx hn
 have hw:=z1j (j:=j) (by omega)
 simp (maxSteps:=9^7) only [go_sem,↓reduceIte,reduceCtorEq,Nat.reduceEqDiff,Nat.reduceBEq,Nat.reduceAdd,Nat.reduceSub,Nat.reduceMul,Nat.reduceLT,Nat.reduceLeDiff,Nat.reduceBNe,Int.reduceBEq,Int.reduceBNe,Int.reduceLT,Int.reduceLE,Nd.a,Msg.a,Par.a,evM,z0l.eq_1,z0l.eq_2,ents.eq_1,ents.eq_2,kI.eq_1,mpOk.eq_1,mpR.eq_1,lkV.eq_1,lkV.eq_2,t3,h6,t7,t8,t9,hlt',hgx,hw,hn,List.length_map,Int.toNat_natCast]
 (repeat refine And.intro (by omega) ?_)
 refine ⟨l.length - (j + 1),by omega,j + 1,by omega,rfl,?_,?_,?_,?_,?_⟩
 iterate 5 focus ((simp (maxSteps:=9^7) only [go_sem,↓reduceIte,reduceCtorEq,Nat.reduceEqDiff,Nat.reduceBEq,Nat.reduceAdd,Nat.reduceSub,Nat.reduceMul,Nat.reduceLT,Nat.reduceLeDiff,Nat.reduceBNe,Int.reduceBEq,Int.reduceBNe,Int.reduceLT,Int.reduceLE,Nd.a,Msg.a,Par.a,evM,z0l.eq_1,z0l.eq_2,ents.eq_1,ents.eq_2,kI.eq_1,mpOk.eq_1,mpR.eq_1,lkV.eq_1,lkV.eq_2,t3,hn,h6,t7,t8,hw]) <;> rfl)
structure Lvl (l:List Nd):Prop where
 ord:z3y l
 len:l.length≤200
 lev:∀ n,n ∈ l->0≤n.level∧n.level≤9223372036854775807
 kid:∀ n,n ∈ l->0 < n.level->∃ k r y,n.kids = k :: r∧ndAt l k = some y∧y.level = n.level - 1
def z4e (l:List Nd):Nat->Nd->Nd
 | 0,n=>n
 | f + 1,n=>match n.kids with
  | []=>n
  | k :: _=>match ndAt l k with
   | none=>n
   | some y=>z4e l f y
def lowL (level:Int):Int:=if level < 0 then 0 else level
def qfInv (l:List Nd) (level:Int) (R:Nd) (k:Nat) (σ:St):Prop :=
 ∃ n:Nd,n ∈ l∧k = n.level.toNat∧z4e l (n.level - lowL level).toNat n = R∧σ.T 0 = .mv (z1p l)∧σ.T 1 = .int .i64 level∧σ.T 4 = .ptr 4 0 0∧σ.H 4 = some ⟨10,27,[Nd.zero.a],0⟩∧σ.T 6 = .ptr 6 0 0∧σ.H 6 = some ⟨10,27,[n.a],0⟩∧σ.T 7 = .bool true
set_option maxHeartbeats 4000000 in
theorem first_ok (l:List Nd) (h:Lvl l) (level:Int) (r:Nd) (h0:ndAt l 0 = some r):AFn Tryd.prog 73 [.mv (z1p l),.int .i64 level] (.tup [(z4e l (r.level - lowL level).toNat r).a,.bool (decide ((z4e l (r.level - lowL level).toNat r).level = level))]):=by
 refine fn_qFirst rfl ?_
 have hl0:lkp (z1p l) 0 = some r.a:=by rw [zfe h.ord 0,h0]; rfl
 have hrm:=(z0v h.ord h0).2.1
 obtain ⟨R,hR⟩:∃ R,z4e l (r.level - lowL level).toNat r = R:=⟨_,rfl⟩
 rw [hR]
 simp only [Nd.a] at hl0
 simp (maxSteps:=9^7) only [go_sem,↓reduceIte,reduceCtorEq,Nat.reduceEqDiff,Nat.reduceBEq,Nat.reduceAdd,Nat.reduceSub,Nat.reduceMul,Nat.reduceLT,Nat.reduceLeDiff,Nat.reduceBNe,Int.reduceBEq,Int.reduceBNe,Int.reduceLT,Int.reduceLE,Nd.a,Msg.a,Par.a,evM,z0l.eq_1,z0l.eq_2,ents.eq_1,ents.eq_2,kI.eq_1,mpOk.eq_1,mpR.eq_1,lkV.eq_1,lkV.eq_2,hl0]
 refine z08 (qfInv l level R) (k:=r.level.toNat) ⟨r,hrm,rfl,hR,?_,?_,?_,?_,?_,?_,?_⟩ ?_ <;> try (simp (maxSteps:=9^7) only [go_sem,↓reduceIte,reduceCtorEq,Nat.reduceEqDiff,Nat.reduceBEq,Nat.reduceAdd,Nat.reduceSub,Nat.reduceMul,Nat.reduceLT,Nat.reduceLeDiff,Nat.reduceBNe,Int.reduceBEq,Int.reduceBNe,Int.reduceLT,Int.reduceLE,Nd.a,Msg.a,Par.a,evM,z0l.eq_1,z0l.eq_2,ents.eq_1,ents.eq_2,kI.eq_1,mpOk.eq_1,mpR.eq_1,lkV.eq_1,lkV.eq_2,hl0])
 ·rfl
 clear hR hl0 hrm
 rintro k σ ⟨n,hn,rfl,hr,t0,t1,t4,o4,t6,o6,t7⟩
 simp only [zke]
 have hlv:=h.lev n hn
 have hml:(if level < 0 then 0 else level) = lowL level:=rfl
 by_cases hgo:lowL level < n.level
 ·have hlow:0≤lowL level:=by unfold lowL; split <;> omega
  obtain ⟨q,rest,y,hk,hy,hyl⟩:=h.kid n hn (by omega)
  have hyn:=(z0v h.ord hy).2.1
  have hlk:lkp (z1p l) q = some y.a:=by rw [zfe h.ord q,hy]; rfl
  simp only [Nd.a] at hlk
  have hlen:(0:Int) < ((n.kids.length:Nat):Int):=by rw [hk]; simp only [List.length_cons]; omega
  have hlt:y.level < n.level:=by omega
  have hk0:n.kids.map (AV.int .i64) = AV.int .i64 q :: rest.map (AV.int .i64):=by rw [hk]; rfl
  have hnx:z4e l (n.level - lowL level).toNat n = z4e l (y.level - lowL level).toNat y:=by
   rw [show (n.level - lowL level).toNat = (y.level - lowL level).toNat + 1 by omega,z4e,hk]
   simp only [hy]
  rw [hnx] at hr
  have tn0:Int.toNat 0 = 0:=rfl
  have hl1:(0:Int) < ((rest.length + 1:Nat):Int):=by omega
  simp (maxSteps:=9^7) only [go_sem,↓reduceIte,reduceCtorEq,Nat.reduceEqDiff,Nat.reduceBEq,Nat.reduceAdd,Nat.reduceSub,Nat.reduceMul,Nat.reduceLT,Nat.reduceLeDiff,Nat.reduceBNe,Int.reduceBEq,Int.reduceBNe,Int.reduceLT,Int.reduceLE,Nd.a,Msg.a,Par.a,evM,z0l.eq_1,z0l.eq_2,ents.eq_1,ents.eq_2,kI.eq_1,mpOk.eq_1,mpR.eq_1,lkV.eq_1,lkV.eq_2,t0,t1,t4,o4,t6,o6,t7,hml,hgo,hlen,hlk,hlt,hk0,tn0,hl1,List.length_map]
  refine ⟨y.level.toNat,by omega,y,hyn,rfl,hr,?_,?_,?_,?_,?_,?_,?_⟩ <;> (simp (maxSteps:=9^7) only [go_sem,↓reduceIte,reduceCtorEq,Nat.reduceEqDiff,Nat.reduceBEq,Nat.reduceAdd,Nat.reduceSub,Nat.reduceMul,Nat.reduceLT,Nat.reduceLeDiff,Nat.reduceBNe,Int.reduceBEq,Int.reduceBNe,Int.reduceLT,Int.reduceLE,Nd.a,Msg.a,Par.a,evM,z0l.eq_1,z0l.eq_2,ents.eq_1,ents.eq_2,kI.eq_1,mpOk.eq_1,mpR.eq_1,lkV.eq_1,lkV.eq_2,t0,t1,t4,o4,t6,o6,t7,hml,hgo,hlen,hlk,hlt,hk0,tn0,hl1,List.length_map])
 ·have hz:(n.level - lowL level).toNat = 0:=by omega
  rw [hz,z4e] at hr
  subst hr
  by_cases he:n.level = level
  ·have he':(n.level == level) = true:=by simp [he]
   rw [decide_eq_true he]
   simp (maxSteps:=9^7) only [go_sem,↓reduceIte,reduceCtorEq,Nat.reduceEqDiff,Nat.reduceBEq,Nat.reduceAdd,Nat.reduceSub,Nat.reduceMul,Nat.reduceLT,Nat.reduceLeDiff,Nat.reduceBNe,Int.reduceBEq,Int.reduceBNe,Int.reduceLT,Int.reduceLE,Nd.a,Msg.a,Par.a,evM,z0l.eq_1,z0l.eq_2,ents.eq_1,ents.eq_2,kI.eq_1,mpOk.eq_1,mpR.eq_1,lkV.eq_1,lkV.eq_2,t0,t1,t4,o4,t6,o6,t7,hml,hgo,he']
  ·have he':(n.level == level) = false:=by simp [he]
   rw [decide_eq_false he]
   simp (maxSteps:=9^7) only [go_sem,↓reduceIte,reduceCtorEq,Nat.reduceEqDiff,Nat.reduceBEq,Nat.reduceAdd,Nat.reduceSub,Nat.reduceMul,Nat.reduceLT,Nat.reduceLeDiff,Nat.reduceBNe,Int.reduceBEq,Int.reduceBNe,Int.reduceLT,Int.reduceLE,Nd.a,Msg.a,Par.a,evM,z0l.eq_1,z0l.eq_2,ents.eq_1,ents.eq_2,kI.eq_1,mpOk.eq_1,mpR.eq_1,lkV.eq_1,lkV.eq_2,t0,t1,t4,o4,t6,o6,t7,hml,hgo,he']
end
end Go.Proofs.YtkfciapeikkmfaaDoor
