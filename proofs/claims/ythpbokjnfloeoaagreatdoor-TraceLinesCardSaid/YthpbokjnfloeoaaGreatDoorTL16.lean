/-
  Part 16 of a proof: TeC, RpA.
-/
import Derived.Test.YthpbokjnfloeoaaGreatDoorTL15
namespace Go.Proofs.YthpbokjnfloeoaaGreatDoor
set_option linter.unusedVariables false
section
/-
 Trees of the document: the seats of all nodes: walked.
-/
open Go.RowKit
set_option linter.unusedVariables false
set_option linter.unusedSimpArgs false
set_option maxRecDepth 100000
attribute [local go_sem ↓] z11 z0l
structure Seat where
 n:Nd
 s:Spn
 ms:List Msg
def Seat.a (x:Seat):AV:=.agg [.int .i64 x.n.slot,.int .i64 x.n.level,.sl (x.n.pivots.map AV.str),.sl (x.n.kids.map (AV.int .i64)),.str x.n.high,.bool x.n.top,.int .i64 x.n.right,.int .i64 x.n.seen,.sl (x.n.msgs.map Msg.a),.sl (x.n.rows.map Par.a),.str x.s.lo,.str x.s.hi,.bool x.s.op,.sl (x.ms.map Msg.a)]
/-- the seat of a kid -/
def y9q (x:Seat) (j:Nat) (kid:Nd):Seat :=
 ⟨kid,x.s.meet (z2b x.n.pivots j),z1n (z6z x.n.msgs (x.s.meet (z2b x.n.pivots j))) (z6z x.ms (x.s.meet (z2b x.n.pivots j)))⟩
def z2c (l:List Nd) (x:Seat):Nat->List Int->List Seat × Bool
 | _,[]=>([],true)
 | j,k :: ks=>if (zf4 l k).2 = true∧(zf4 l k).1.level = x.n.level - 1 then (y9q x j (zf4 l k).1 :: (z2c l x (j + 1) ks).1,(z2c l x (j + 1) ks).2) else ([],false)
def z50 (l:List Nd):Nat->List Seat->Nat->List Seat × Bool
 | 0,out,_=>(out,true)
 | f + 1,out,i=>match out[i]? with
  | none=>(out,true)
  | some x=>if l.length < out.length then (out,false) else if x.n.level = 0 then z50 l f out (i + 1)
   else if x.n.level < 0∨zk0 x.n.pivots x.n.kids = false then (out,false)
   else if (z2c l x 0 x.n.kids).2 = true then z50 l f (out ++ (z2c l x 0 x.n.kids).1) (i + 1) else (out ++ (z2c l x 0 x.n.kids).1,false)
def z5j (l:List Nd) (root:Int):List Seat × Bool :=
 if (zf4 l root).2 = true then z50 l (l.length + 1) [⟨(zf4 l root).1,⟨nul0,nul0,true⟩,[]⟩] 0 else ([],false)
/-- a node with few things -/
structure Nd.Lt (n:Nd):Prop where
 lev:-9223372036854775808≤n.level∧n.level≤9223372036854775807
 piv:∀ x,x ∈ n.pivots->x.size≤2000
 npiv:n.pivots.length≤2000
 nkid:n.kids.length≤2000
 high:n.high.size≤2000
 msgs:∀ m,m ∈ n.msgs->m.le 2000
 nmsg:n.msgs.length≤2000
 rows:∀ p,p ∈ n.rows->p.key.size≤2000∧p.val.size≤2000
 nrow:n.rows.length≤2000
theorem Nd.zero_lt:Nd.zero.Lt:=⟨⟨by decide,by decide⟩,fun x h=>(by cases h),by decide,by decide,by decide,fun x h=>(by cases h),by decide,fun x h=>(by cases h),by decide⟩
theorem zf3 (slot:Int):∀ (l:List Nd) (o:Nd) (n:Nat),(z5k slot o n l).1 = o∨(z5k slot o n l).1 ∈ l
 | [],o,n=>.inl rfl
 | x :: l,o,n=>by
  rw [z5k]
  split
  ·rcases zf3 slot l x (n + 1) with h | h
   ·exact .inr (by rw [h]; exact List.mem_cons_self ..)
   ·exact .inr (List.mem_cons_of_mem _ h)
  ·rcases zf3 slot l o n with h | h
   ·exact .inl h
   ·exact .inr (List.mem_cons_of_mem _ h)
theorem zgx {l:List Nd} (h:∀ n,n ∈ l->n.Lt) (slot:Int):(zf4 l slot).1.Lt:=by
 rcases zf3 slot l Nd.zero 0 with e | e
 ·show (z5k slot Nd.zero 0 l).1.Lt
  rw [e]; exact Nd.zero_lt
 ·exact h _ e
theorem y0y {p:List ByteArray} (h:∀ x,x ∈ p->x.size≤2000) (j:Nat):(z2b p j).le 2000:=by
 unfold z2b
 refine norm_le ⟨?_,?_⟩
 ·show (if j = 0 then nul0 else p.getD (j - 1) nul0).size≤2000
  split
  ·exact Nat.zero_le _
  ·rcases Nat.lt_or_ge (j - 1) p.length with q | q
   ·exact h _ (zzn q)
   ·rw [List.getD_eq_getElem?_getD,List.getElem?_eq_none q]; exact Nat.zero_le _
 ·show (if j < p.length then p.getD j nul0 else nul0).size≤2000
  split
  ·rename_i q; exact h _ (zzn q)
  ·exact Nat.zero_le _
theorem clipM_le {m:Msg} {s:Spn} (hm:m.le 2000) (hs:s.le 2000):(zp9 m s).1.le 2000:=by
 unfold zp9
 split
 ·exact ⟨Nat.zero_le _,Nat.zero_le _,Nat.zero_le _⟩
 ·show (if m.kind = 4 then _ else m:Msg).le 2000
  split
  ·rename_i h4
   have:m.span.le 2000:=by
    unfold Msg.span
    rw [if_pos h4]; exact ⟨hm.1,hm.2.1⟩
   have q:=zzc this hs
   exact ⟨q.1,q.2,hm.2.2⟩
  ·exact hm
theorem ygs {l:List Msg} {s:Spn} (hl:∀ m,m ∈ l->m.le 2000) (hs:s.le 2000):∀ m,m ∈ z6z l s->m.le 2000:=by
 intro m hm
 unfold z6z at hm
 rw [List.mem_filterMap] at hm
 obtain ⟨y,hy,e⟩:=hm
 split at e
 ·cases e; exact clipM_le (hl y hy) hs
 ·cases e
/-- seats that a walk may come to: the i-th has not too many messages -/
structure SeatOk (x:Seat) (b:Nat):Prop where
 lt:x.n.Lt
 s:x.s.le 2000
 ms:∀ m,m ∈ x.ms->m.le 2000
 nms:x.ms.length≤b
theorem kidSeat_ok {x:Seat} {b:Nat} (h:SeatOk x b) (j:Nat) {kid:Nd} (hk:kid.Lt):SeatOk (y9q x j kid) (b + 2000):=by
 have hs:=zzc h.s (y0y h.lt.piv j)
 have l1:=zab x.n.msgs (x.s.meet (z2b x.n.pivots j))
 have l2:=zab x.ms (x.s.meet (z2b x.n.pivots j))
 have l3:=h.lt.nmsg
 have l4:=h.nms
 refine ⟨hk,hs,fun m hm=>?_,?_⟩
 ·rcases zeb _ _ _ (Nat.le_refl _) m hm with q | q
  ·exact ygs h.lt.msgs hs m q
  ·exact ygs h.ms hs m q
 ·show (z1n _ _).length≤_
  rw [zec _ _ _ (Nat.le_refl _)]
  omega
/-! ### percolate/percolateref27.Seats -/
def y2e:Reg:=⟨[],[⟨.mknil 14 69,some 4,none,[],[]⟩,⟨.mv (.c (.bool false)),some 5,none,[],[]⟩],[4],[],false⟩
def zhp:List ROp:=[⟨.mv (.t 0),some 17,none,[19,6],[]⟩,⟨.mv (.t 1),some 18,none,[19,6],[]⟩,⟨.callv (.c (.clo 51 [] [])) [(.t 17),(.t 18)],some 19,none,[6],[]⟩,⟨.mv (.t 19),some 16,none,[6],[]⟩,⟨.ext 0 (.t 16),some 20,none,[6],[]⟩,⟨.ext 1 (.t 16),some 21,none,[6],[]⟩,⟨.alloc 10 32 (.agg [(.int .i64 0),(.int .i64 0),(.sl []),(.sl []),(.str ⟨#[]⟩),(.bool false),(.int .i64 0),(.int .i64 0),(.sl []),(.sl [])]),some 6,none,[],[]⟩,⟨.store 10 (.t 6) (.t 20),none,none,[],[]⟩,⟨.mv (.t 21),some 7,none,[],[]⟩]
def y2d:Reg:=⟨[],zhp,[19,6],[],false⟩
def y2c:Reg:=⟨[],[⟨.mv (.t 7),some 22,none,[],[]⟩,⟨.un .not (.t 22),some 23,none,[],[]⟩],[],[],false⟩
def y2b:Reg:=⟨[],[⟨.mknil 14 69,some 4,none,[],[]⟩,⟨.mv (.c (.bool false)),some 5,none,[],[]⟩],[4],[],false⟩
def zho:List ROp:=[⟨.load 10 true (.t 6),some 24,none,[27],[]⟩,⟨.bld [(.str ⟨#[]⟩),(.str ⟨#[]⟩),(.bool false)] [⟨2,1,(.c (.bool true))⟩],some 25,none,[27],[]⟩,⟨.bld [(.int .i64 0),(.int .i64 0),(.sl []),(.sl []),(.str ⟨#[]⟩),(.bool false),(.int .i64 0),(.int .i64 0),(.sl []),(.sl []),(.str ⟨#[]⟩),(.str ⟨#[]⟩),(.bool false),(.sl [])] [⟨0,10,(.t 24)⟩,⟨10,3,(.t 25)⟩],some 26,none,[27],[]⟩,⟨.bsl 14 69 [(.t 26)],some 27,none,[],[]⟩,⟨.mv (.t 27),some 8,none,[],[]⟩]
def y2a:Reg:=⟨[],zho,[27],[],false⟩
def y29:Reg:=⟨[],[⟨.mv (.c (.int .i64 0)),some 9,none,[],[]⟩],[],[],false⟩
def zhn:List ROp:=[⟨.mv (.t 9),some 28,none,[],[]⟩,⟨.mv (.t 8),some 29,none,[],[]⟩,⟨.len false (.t 29),some 30,none,[],[]⟩,⟨.bin .lss (.t 28) (.t 30),some 31,none,[],[]⟩]
def y28:Reg:=⟨[],zhn,[],[],false⟩
def zhm:List ROp:=[⟨.mv (.t 8),some 34,none,[10],[]⟩,⟨.mv (.t 9),some 35,none,[10],[]⟩,⟨.iaddr 14 (.t 34) (.t 35),some 36,none,[10],[]⟩,⟨.load 14 true (.t 36),some 37,none,[10],[]⟩,⟨.alloc 14 69 (.agg [(.int .i64 0),(.int .i64 0),(.sl []),(.sl []),(.str ⟨#[]⟩),(.bool false),(.int .i64 0),(.int .i64 0),(.sl []),(.sl []),(.str ⟨#[]⟩),(.str ⟨#[]⟩),(.bool false),(.sl [])]),some 10,none,[],[]⟩,⟨.store 14 (.t 10) (.t 37),none,none,[],[]⟩]
def y27:Reg:=⟨[],zhm,[10],[],false⟩
def zhl:List ROp:=[⟨.mv (.t 8),some 38,none,[],[]⟩,⟨.len false (.t 38),some 39,none,[],[]⟩,⟨.mv (.t 0),some 40,none,[],[]⟩,⟨.len false (.t 40),some 41,none,[],[]⟩,⟨.bin .gtr (.t 39) (.t 41),some 42,none,[],[]⟩]
def y26:Reg:=⟨[],zhl,[],[],false⟩
def zhk:List ROp:=[⟨.mv (.t 8),some 43,none,[],[]⟩,⟨.mv (.t 43),some 4,none,[],[]⟩,⟨.mv (.c (.bool false)),some 5,none,[],[]⟩]
def y25:Reg:=⟨[],zhk,[],[],false⟩
def zbp:List ROp:=[⟨.faddr 0 (.t 10),some 44,none,[],[]⟩,⟨.faddr 1 (.t 44),some 45,none,[],[]⟩,⟨.load 1 false (.t 45),some 46,none,[],[]⟩,⟨.bin .eql (.t 46) (.c (.int .i64 0)),some 47,none,[],[]⟩]
def zse:Reg:=⟨[],zbp,[],[],false⟩
def zbo:List ROp:=[⟨.faddr 0 (.t 10),some 48,none,[59],[]⟩,⟨.faddr 1 (.t 48),some 49,none,[59],[]⟩,⟨.load 1 false (.t 49),some 50,none,[59],[]⟩,⟨.bin .lss (.t 50) (.c (.int .i64 0)),some 51,none,[59],[]⟩,⟨.mv (.t 51),some 52,none,[59],[]⟩,⟨.faddr 0 (.t 10),some 53,(some (52,false)),[59],[]⟩,⟨.faddr 2 (.t 53),some 54,(some (52,false)),[59],[]⟩,⟨.load 1 false (.t 54),some 55,(some (52,false)),[59],[]⟩,⟨.faddr 0 (.t 10),some 56,(some (52,false)),[59],[]⟩,⟨.faddr 3 (.t 56),some 57,(some (52,false)),[59],[]⟩,⟨.load 1 false (.t 57),some 58,(some (52,false)),[59],[]⟩,⟨.callv (.c (.clo 52 [] [])) [(.t 55),(.t 58)],some 59,(some (52,false)),[],[]⟩,⟨.un .not (.t 59),some 60,(some (52,false)),[],[]⟩,⟨.pick (.t 52) (.c (.bool true)) (.t 60),some 61,none,[],[]⟩]
def zsd:Reg:=⟨[],zbo,[59],[],false⟩
def zbn:List ROp:=[⟨.mv (.t 8),some 62,none,[],[]⟩,⟨.mv (.t 62),some 4,none,[],[]⟩,⟨.mv (.c (.bool false)),some 5,none,[],[]⟩]
def zsc:Reg:=⟨[],zbn,[],[],false⟩
def zsb:Reg:=⟨[],[⟨.mv (.c (.int .i64 0)),some 11,none,[],[]⟩],[],[],false⟩
def zbm:List ROp:=[⟨.mv (.t 11),some 63,none,[],[]⟩,⟨.faddr 0 (.t 10),some 64,none,[],[]⟩,⟨.faddr 3 (.t 64),some 65,none,[],[]⟩,⟨.load 1 false (.t 65),some 66,none,[],[]⟩,⟨.len false (.t 66),some 67,none,[],[]⟩,⟨.bin .lss (.t 63) (.t 67),some 68,none,[],[]⟩]
def zsa:Reg:=⟨[],zbm,[],[],false⟩
def zbl:List ROp:=[⟨.mv (.t 0),some 72,none,[79,12],[]⟩,⟨.faddr 0 (.t 10),some 73,none,[79,12],[]⟩,⟨.faddr 3 (.t 73),some 74,none,[79,12],[]⟩,⟨.load 1 false (.t 74),some 75,none,[79,12],[]⟩,⟨.mv (.t 11),some 76,none,[79,12],[]⟩,⟨.iaddr 1 (.t 75) (.t 76),some 77,none,[79,12],[]⟩,⟨.load 1 false (.t 77),some 78,none,[79,12],[]⟩,⟨.callv (.c (.clo 51 [] [])) [(.t 72),(.t 78)],some 79,none,[12],[]⟩,⟨.mv (.t 79),some 71,none,[12],[]⟩,⟨.ext 0 (.t 71),some 80,none,[12],[]⟩,⟨.ext 1 (.t 71),some 81,none,[12],[]⟩,⟨.alloc 10 32 (.agg [(.int .i64 0),(.int .i64 0),(.sl []),(.sl []),(.str ⟨#[]⟩),(.bool false),(.int .i64 0),(.int .i64 0),(.sl []),(.sl [])]),some 12,none,[],[]⟩,⟨.store 10 (.t 12) (.t 80),none,none,[],[]⟩,⟨.mv (.t 81),some 13,none,[],[]⟩]
def zs9:Reg:=⟨[],zbl,[79,12],[],false⟩
def zbk:List ROp:=[⟨.mv (.t 13),some 82,none,[],[]⟩,⟨.un .not (.t 82),some 83,none,[],[]⟩,⟨.mv (.t 83),some 84,none,[],[]⟩,⟨.faddr 1 (.t 12),some 85,(some (84,false)),[],[]⟩,⟨.load 1 false (.t 85),some 86,(some (84,false)),[],[]⟩,⟨.faddr 0 (.t 10),some 87,(some (84,false)),[],[]⟩,⟨.faddr 1 (.t 87),some 88,(some (84,false)),[],[]⟩,⟨.load 1 false (.t 88),some 89,(some (84,false)),[],[]⟩,⟨.bin .sub (.t 89) (.c (.int .i64 1)),some 90,(some (84,false)),[],[]⟩,⟨.bin .neq (.t 86) (.t 90),some 91,(some (84,false)),[],[]⟩,⟨.pick (.t 84) (.c (.bool true)) (.t 91),some 92,none,[],[]⟩]
def zs8:Reg:=⟨[],zbk,[],[],false⟩
def zbj:List ROp:=[⟨.mv (.t 8),some 93,none,[],[]⟩,⟨.mv (.t 93),some 4,none,[],[]⟩,⟨.mv (.c (.bool false)),some 5,none,[],[]⟩]
def zs7:Reg:=⟨[],zbj,[],[],false⟩
def zen:List ROp:=[⟨.faddr 10 (.t 10),some 94,none,[100,101,14],[]⟩,⟨.load 3 true (.t 94),some 95,none,[100,101,14],[]⟩,⟨.faddr 0 (.t 10),some 96,none,[100,101,14],[]⟩,⟨.faddr 2 (.t 96),some 97,none,[100,101,14],[]⟩,⟨.load 1 false (.t 97),some 98,none,[100,101,14],[]⟩,⟨.mv (.t 11),some 99,none,[100,101,14],[]⟩,⟨.callv (.c (.clo 54 [] [])) [(.t 98),(.t 99)],some 100,none,[101,14],[]⟩,⟨.callv (.c (.clo 53 [] [])) [(.t 95),(.t 100)],some 101,none,[14],[]⟩,⟨.alloc 3 67 (.agg [(.str ⟨#[]⟩),(.str ⟨#[]⟩),(.bool false)]),some 14,none,[100,101],[]⟩]
def zs6:Reg:=⟨zen,[⟨.store 3 (.t 14) (.t 101),none,none,[],[14]⟩],[100,101,14],[],true⟩
def zbi:List ROp:=[⟨.callv (.c (.clo 56 [] [])) [(.t 108),(.t 109)],some 110,none,[111,112],[]⟩,⟨.bsl 1 29 [(.t 106),(.t 110)],some 111,none,[112],[]⟩,⟨.callv (.c (.clo 55 [] [])) [(.t 111)],some 112,none,[],[]⟩,⟨.mv (.t 112),some 15,none,[],[]⟩]
def zem:List ROp:=[⟨.faddr 0 (.t 10),some 102,none,[106,110,111,112],[]⟩,⟨.faddr 8 (.t 102),some 103,none,[106,110,111,112],[]⟩,⟨.load 1 false (.t 103),some 104,none,[106,110,111,112],[]⟩,⟨.load 3 true (.t 14),some 105,none,[106,110,111,112],[]⟩,⟨.callv (.c (.clo 56 [] [])) [(.t 104),(.t 105)],some 106,none,[110,111,112],[]⟩,⟨.faddr 13 (.t 10),some 107,none,[106,110,111,112],[]⟩,⟨.load 1 false (.t 107),some 108,none,[106,110,111,112],[]⟩,⟨.load 3 true (.t 14),some 109,none,[106,110,111,112],[]⟩]
def zs5:Reg:=⟨zem,zbi,[106,110,111,112],[],true⟩
def zbh:List ROp:=[⟨.mv (.t 8),some 113,none,[118],[]⟩,⟨.load 10 true (.t 12),some 114,none,[118],[]⟩,⟨.load 3 true (.t 14),some 115,none,[118],[]⟩,⟨.mv (.t 15),some 116,none,[118],[]⟩,⟨.bld [(.int .i64 0),(.int .i64 0),(.sl []),(.sl []),(.str ⟨#[]⟩),(.bool false),(.int .i64 0),(.int .i64 0),(.sl []),(.sl []),(.str ⟨#[]⟩),(.str ⟨#[]⟩),(.bool false),(.sl [])] [⟨0,10,(.t 114)⟩,⟨10,3,(.t 115)⟩,⟨13,1,(.t 116)⟩],some 117,none,[118],[]⟩,⟨.bsl 14 69 [(.t 117)],some 118,none,[],[]⟩,⟨.append 14 69 216 (.t 113) (.t 118),some 119,none,[],[]⟩,⟨.mv (.t 119),some 8,none,[],[]⟩]
def zs4:Reg:=⟨[],zbh,[118],[],false⟩
def zbg:List ROp:=[⟨.mv (.t 11),some 69,none,[],[]⟩,⟨.bin .add (.t 69) (.c (.int .i64 1)),some 70,none,[],[]⟩,⟨.mv (.t 70),some 11,none,[],[]⟩]
def zs3:Reg:=⟨[],zbg,[],[],false⟩
def z8v:IR:=(.seq (.seq (.reg zsa)
 (.cond (.t 68) .skip
 (.exit 2)))
 (.seq (.block 3 (.seq (.reg zs9)
 (.seq (.seq (.reg zs8)
 (.cond (.t 92) (.seq (.reg zs7)
 .ret)
 .skip))
 (.seq (.reg zs6)
 (.seq (.reg zs5)
 (.reg zs4))))))
 (.reg zs3)))
def zbf:List ROp:=[⟨.mv (.t 9),some 32,none,[],[]⟩,⟨.bin .add (.t 32) (.c (.int .i64 1)),some 33,none,[],[]⟩,⟨.mv (.t 33),some 9,none,[],[]⟩]
def zs2:Reg:=⟨[],zbf,[],[],false⟩
def zko:IR:=(.seq (.seq (.reg y28)
 (.cond (.t 31) .skip
 (.exit 0)))
 (.seq (.block 1 (.seq (.reg y27)
 (.seq (.seq (.reg y26)
 (.cond (.t 42) (.seq (.reg y25)
 .ret)
 .skip))
 (.seq (.seq (.reg zse)
 (.cond (.t 47) (.exit 1)
 .skip))
 (.seq (.seq (.reg zsd)
 (.cond (.t 61) (.seq (.reg zsc)
 .ret)
 .skip))
 (.seq (.reg zsb)
 (.block 2 (.loop z8v))))))))
 (.reg zs2)))
def zbe:List ROp:=[⟨.mv (.t 8),some 120,none,[],[]⟩,⟨.mv (.t 120),some 4,none,[],[]⟩,⟨.mv (.c (.bool true)),some 5,none,[],[]⟩]
def zs1:Reg:=⟨[],zbe,[],[],false⟩
def yfl:IR:=(.seq (.reg y2e)
 (.seq (.reg y2d)
 (.seq (.seq (.reg y2c)
 (.cond (.t 23) (.seq (.reg y2b)
 .ret)
 .skip))
 (.seq (.reg y2a)
 (.seq (.seq (.reg y29)
 (.block 0 (.loop zko)))
 (.seq (.reg zs1)
 .ret))))))
def y0c:List RDesc:=[(.tmp 4),(.tmp 5)]
theorem e_seats_0:EqR y2e [⟨.mknil 14 69,some 4,none,[],[]⟩,⟨.mv (.c (.bool false)),some 5,none,[],[]⟩] [4]:=fun _ _ _=>rfl
theorem e_seats_1:EqR y2d zhp [19,6]:=fun _ _ _=>rfl
theorem e_seats_2:EqR y2c [⟨.mv (.t 7),some 22,none,[],[]⟩,⟨.un .not (.t 22),some 23,none,[],[]⟩] []:=fun _ _ _=>rfl
theorem e_seats_3:EqR y2b [⟨.mknil 14 69,some 4,none,[],[]⟩,⟨.mv (.c (.bool false)),some 5,none,[],[]⟩] [4]:=fun _ _ _=>rfl
theorem e_seats_4:EqR y2a zho [27]:=fun _ _ _=>rfl
theorem e_seats_5:EqR y29 [⟨.mv (.c (.int .i64 0)),some 9,none,[],[]⟩] []:=fun _ _ _=>rfl
theorem e_seats_6:EqR y28 zhn []:=fun _ _ _=>rfl
theorem e_seats_7:EqR y27 zhm [10]:=fun _ _ _=>rfl
theorem e_seats_8:EqR y26 zhl []:=fun _ _ _=>rfl
theorem e_seats_9:EqR y25 zhk []:=fun _ _ _=>rfl
theorem e_seats_10:EqR zse zbp []:=fun _ _ _=>rfl
theorem e_seats_11:EqR zsd zbo [59]:=fun _ _ _=>rfl
theorem e_seats_12:EqR zsc zbn []:=fun _ _ _=>rfl
theorem e_seats_13:EqR zsb [⟨.mv (.c (.int .i64 0)),some 11,none,[],[]⟩] []:=fun _ _ _=>rfl
theorem e_seats_14:EqR zsa zbm []:=fun _ _ _=>rfl
theorem e_seats_15:EqR zs9 zbl [79,12]:=fun _ _ _=>rfl
theorem e_seats_16:EqR zs8 zbk []:=fun _ _ _=>rfl
theorem e_seats_17:EqR zs7 zbj []:=fun _ _ _=>rfl
theorem e_seats_18 (C:FuncId->List AV->AV->Prop) (σ:St) (K:St->Prop):z0k C zs6 σ K = z08 C [] [⟨.store 3 (.t 14) (.t 101),none,none,[],[14]⟩] zen (σ.kills [100,101,14]) K:=rfl
theorem e_seats_19 (C:FuncId->List AV->AV->Prop) (σ:St) (K:St->Prop):z0k C zs5 σ K = z08 C [] zbi zem (σ.kills [106,110,111,112]) K:=rfl
theorem e_seats_20:EqR zs4 zbh [118]:=fun _ _ _=>rfl
theorem e_seats_21:EqR zs3 zbg []:=fun _ _ _=>rfl
theorem e_seats_23:EqR zs2 zbf []:=fun _ _ _=>rfl
theorem e_seats_25:EqR zs1 zbe []:=fun _ _ _=>rfl
theorem fn_seats {args:List AV} {r:AV} (ha:args.length.ble Tryz.f27.ntmps = true) (h:run (AFn Tryz.prog) yfl (endQ y0c r) (z0b args)):AFn Tryz.prog 27 args r :=
 AFn.of_code (pv:=false) (hint:=fun _=>[]) (c:=Tryz.f27.body.getD .skip) (by kernel_rfl) (by kernel_rfl) Tryz.func27 (by kernel_rfl) (by kernel_rfl) (by kernel_rfl) (of_decide_eq_true (by kernel_rfl)) (Nat.le_of_ble_eq_true ha) (Nat.le_of_ble_eq_true (by kernel_rfl)) (z0c h)
attribute [local go_sem ↓] yfl
attribute [local go_sem] y0c e_seats_0 e_seats_1 zhp e_seats_2 e_seats_3 e_seats_4 zho e_seats_5 e_seats_6 zhn e_seats_7 zhm e_seats_8 zhl e_seats_9 zhk e_seats_10 zbp e_seats_11 zbo e_seats_12 zbn e_seats_13 e_seats_14 zbm e_seats_15 zbl e_seats_16 zbk e_seats_17 zbj e_seats_18 zen e_seats_19 zbi zem e_seats_20 zbh e_seats_21 zbg e_seats_23 zbf e_seats_25 zbe
def kdInv (l:List Nd) (x:Seat) (i:Nat) (out:List Seat) (R:List Seat × Bool) (k:Nat) (σ:St):Prop :=
 ∃ (j:Nat) (done:List Seat),j≤x.n.kids.length∧k = x.n.kids.length - j∧done.length = j∧σ.T 0 = .sl (l.map Nd.a)∧σ.T 8 = .rs 27 0 (out ++ done).length∧σ.H 27 = some ⟨14,69,(out ++ done).map Seat.a,0⟩ ∧
  σ.T 9 = .int .i64 i∧σ.T 10 = .ptr 10 0 0∧σ.H 10 = some ⟨14,69,[x.a],0⟩∧σ.T 11 = .int .i64 j∧(done ++ (z2c l x j (x.n.kids.drop j)).1,(z2c l x j (x.n.kids.drop j)).2) = R
def stEnd (l:List Nd) (i:Nat) (o:List Seat) (σ:St):Prop :=
 σ.T 0 = .sl (l.map Nd.a)∧σ.T 8 = .rs 27 0 o.length∧σ.H 27 = some ⟨14,69,o.map Seat.a,0⟩∧σ.T 9 = .int .i64 i
def stRet (o:List Seat) (σ:St):Prop :=
 σ.T 4 = .rs 27 0 o.length∧σ.H 27 = some ⟨14,69,o.map Seat.a,0⟩∧σ.T 5 = .bool false
set_option maxHeartbeats 4000000 in
theorem kids_step (Q:XK->St->Prop) (l:List Nd) (x:Seat) (b i:Nat) (out:List Seat) (R:List Seat × Bool) (hl:l.length≤1000) (hn:∀ n,n ∈ l->n.Lt) (ho:SeatOk x b) (hb:b≤500000) (hlev:0 < x.n.level)
  (hr:x.n.kids.length = x.n.pivots.length + 1) (hout:out.length≤100000) (hEnd:∀ σ,R.2 = true->stEnd l i (out ++ R.1) σ->Q (.exit 2) σ) (hRet:∀ σ,R.2 = false->stRet (out ++ R.1) σ->Q .ret σ)
  (k:Nat) (σ:St) (hI:kdInv l x i out R k σ):run (AFn Tryz.prog) z8v (z30 (fun σ'=>∃ m,m < k∧kdInv l x i out R m σ') Q) σ:=by
 obtain ⟨j,done,hj,rfl,hd,t0,t8,h27,t9,t10,h10,t11,hR⟩:=hI
 simp only [z8v]
 have hlt:=ho.lt
 simp only [Seat.a] at h10
 by_cases hlt':j < x.n.kids.length
 ·have hltI:(j:Int) < (x.n.kids.length:Int):=by omega
  obtain ⟨kd,hx⟩:=z0i hlt'
  have hgj:=z0o (f:=AV.int .i64) hx
  have hw:=z1j (j:=j) (by have:=hlt.nkid; omega)
  have cf:=find_ok l kd (by omega)
  have fl:=zgx hn kd
  have hwl:IntKind.i64.wrap (x.n.level - 1) = x.n.level - 1:=IntWalk.i64_in _ (by have:=hlt.lev; omega)
  rw [z0h hx,z2c] at hR
  have hj9:j≤x.n.pivots.length:=by omega
  have cr:=range15_ok x.n.pivots j (by have:=hlt.npiv; omega) hj9 (fun y hy=>by have:=hlt.piv y hy; omega)
  have r1:=y0y hlt.piv j
  have cm:=y8z x.s (z2b x.n.pivots j) (znq ho.s (by omega)) (znq r1 (by omega))
  have r2:=zzc ho.s r1
  have c1:=y89 x.n.msgs (x.s.meet (z2b x.n.pivots j)) 2000 (by omega) (by have:=hlt.nmsg; omega) hlt.msgs r2
  have c2:=y89 x.ms (x.s.meet (z2b x.n.pivots j)) 2000 (by omega) (by have:=ho.nms; omega) ho.ms r2
  have l1:=zab x.n.msgs (x.s.meet (z2b x.n.pivots j))
  have l2:=zab x.ms (x.s.meet (z2b x.n.pivots j))
  have c3:=lists_ok (z6z x.n.msgs (x.s.meet (z2b x.n.pivots j))) (z6z x.ms (x.s.meet (z2b x.n.pivots j))) (by have:=hlt.nmsg; omega) (by have:=ho.nms; omega)
  have ht:∀ o:List Seat,List.take o.length (o.map Seat.a) = o.map Seat.a:=fun o=>List.take_of_length_le (by rw [List.length_map]; exact Nat.le_refl _)
  have htm:∀ o:List Msg,List.take o.length (o.map Msg.a) = o.map Msg.a:=fun o=>List.take_of_length_le (by rw [List.length_map]; exact Nat.le_refl _)
  unfold y9q at hR
  generalize z6z x.n.msgs (x.s.meet (z2b x.n.pivots j)) = ca at *
  generalize z6z x.ms (x.s.meet (z2b x.n.pivots j)) = cb at *
  generalize z1n ca cb = mm at *
  generalize x.s.meet (z2b x.n.pivots j) = ns at *
  generalize z2b x.n.pivots j = rg at *
  generalize (zf4 l kd).1 = kid at *
  generalize (zf4 l kd).2 = is at *
  cases is
  ·rw [if_neg (by simp)] at hR
   subst hR
   (repeat (first | simp (maxSteps:=9^7) only [go_sem,↓reduceIte,reduceCtorEq,Nat.reduceEqDiff,Nat.reduceBEq,Nat.reduceAdd,Nat.reduceSub,Nat.reduceMul,Nat.reduceLT,Nat.reduceLeDiff,Nat.reduceBNe,Int.reduceBEq,Int.reduceBNe,Int.reduceLT,Int.reduceLE,Spn.a,Msg.a,Par.a,Nd.a,Seat.a,t0,t8,h27,t9,t10,h10,t11,hltI,hgj,List.length_map,Int.toNat_natCast,hwl] | refine z01 (cf) ?_ | refine z00 (cf) ?_ | refine And.intro (by omega) ?_ | refine And.intro (fun d hd=>by (repeat (rcases hd with rfl | hd; · exact ⟨rfl,rfl⟩)); cases hd) ?_))
   refine hRet _ rfl ⟨?_,?_,?_⟩
   iterate 3 focus ((simp (maxSteps:=9^7) only [go_sem,↓reduceIte,reduceCtorEq,Nat.reduceEqDiff,Nat.reduceBEq,Nat.reduceAdd,Nat.reduceSub,Nat.reduceMul,Nat.reduceLT,Nat.reduceLeDiff,Nat.reduceBNe,Int.reduceBEq,Int.reduceBNe,Int.reduceLT,Int.reduceLE,Spn.a,Msg.a,Par.a,Nd.a,Seat.a,t8,List.append_nil,h27]) <;> rfl)
  by_cases hv:kid.level = x.n.level - 1
  case neg =>
   have hv':(kid.level != x.n.level - 1) = true:=by simp [hv]
   rw [if_neg (fun h=>hv h.2)] at hR
   subst hR
   (repeat (first | simp (maxSteps:=9^7) only [go_sem,↓reduceIte,reduceCtorEq,Nat.reduceEqDiff,Nat.reduceBEq,Nat.reduceAdd,Nat.reduceSub,Nat.reduceMul,Nat.reduceLT,Nat.reduceLeDiff,Nat.reduceBNe,Int.reduceBEq,Int.reduceBNe,Int.reduceLT,Int.reduceLE,Spn.a,Msg.a,Par.a,Nd.a,Seat.a,t0,t8,h27,t9,t10,h10,t11,hltI,hgj,List.length_map,Int.toNat_natCast,hwl,hv'] | refine z01 (cf) ?_ | refine z00 (cf) ?_ | refine And.intro (by omega) ?_ | refine And.intro (fun d hd=>by (repeat (rcases hd with rfl | hd; · exact ⟨rfl,rfl⟩)); cases hd) ?_))
   refine hRet _ rfl ⟨?_,?_,?_⟩
   iterate 3 focus ((simp (maxSteps:=9^7) only [go_sem,↓reduceIte,reduceCtorEq,Nat.reduceEqDiff,Nat.reduceBEq,Nat.reduceAdd,Nat.reduceSub,Nat.reduceMul,Nat.reduceLT,Nat.reduceLeDiff,Nat.reduceBNe,Int.reduceBEq,Int.reduceBNe,Int.reduceLT,Int.reduceLE,Spn.a,Msg.a,Par.a,Nd.a,Seat.a,t8,List.append_nil,h27]) <;> rfl)
  have hv':(kid.level != x.n.level - 1) = false:=by simp [hv]
  rw [if_pos ⟨rfl,hv⟩] at hR
  have hlo:(out ++ done).length≤110000:=by rw [List.length_append]; have:=hlt.nkid; omega
  have hoa:(out ++ (done ++ [(⟨kid,ns,mm⟩:Seat)])) = (out ++ done) ++ [(⟨kid,ns,mm⟩:Seat)]:=by rw [List.append_assoc]
  have hR':((done ++ [(⟨kid,ns,mm⟩:Seat)]) ++ (z2c l x (j + 1) (x.n.kids.drop (j + 1))).1,(z2c l x (j + 1) (x.n.kids.drop (j + 1))).2) = R:=by rw [List.append_assoc]; exact hR
  have hta:=ht (out ++ done)
  have hca:=htm ca
  have hcb:=htm cb
  have hmm:=htm mm
  clear ht htm hR
  generalize hod:out ++ done = od at *
  (repeat (first | simp (maxSteps:=9^7) only [go_sem,↓reduceIte,reduceCtorEq,Nat.reduceEqDiff,Nat.reduceBEq,Nat.reduceAdd,Nat.reduceSub,Nat.reduceMul,Nat.reduceLT,Nat.reduceLeDiff,Nat.reduceBNe,Int.reduceBEq,Int.reduceBNe,Int.reduceLT,Int.reduceLE,Spn.a,Msg.a,Par.a,Nd.a,Seat.a,t0,t8,h27,t9,t10,h10,t11,hltI,hgj,List.length_map,Int.toNat_natCast,hwl,hv',hw,hta,hca,hcb,hmm] | refine z01 (cf) ?_ | refine z00 (cf) ?_ | refine z01 (cr) ?_ | refine z00 (cr) ?_ | refine z01 (cm) ?_ | refine z00 (cm) ?_ | refine z01 (c1) ?_ | refine z00 (c1) ?_ | refine z01 (c2) ?_ | refine z00 (c2) ?_ | refine z01 (c3) ?_ | refine z00 (c3) ?_ | refine And.intro (by omega) ?_ | refine And.intro (fun d hd=>by (repeat (rcases hd with rfl | hd; · exact ⟨rfl,rfl⟩)); cases hd) ?_ | refine And.intro (And.intro (by omega) (fun d hd=>by (repeat (rcases hd with rfl | hd; · exact ⟨rfl,rfl⟩)); cases hd)) ?_))
  refine ⟨x.n.kids.length - (j + 1),by omega,j + 1,done ++ [⟨kid,ns,mm⟩],by omega,rfl,by simp; omega,?_,?_,?_,?_,?_,?_,?_,hR'⟩
  ·simp (maxSteps:=9^7) only [go_sem,↓reduceIte,reduceCtorEq,Nat.reduceEqDiff,Nat.reduceBEq,Nat.reduceAdd,Nat.reduceSub,Nat.reduceMul,Nat.reduceLT,Nat.reduceLeDiff,Nat.reduceBNe,Int.reduceBEq,Int.reduceBNe,Int.reduceLT,Int.reduceLE,Spn.a,Msg.a,Par.a,Nd.a,Seat.a,t0]
  ·rw [hoa]
   simp (maxSteps:=9^7) only [go_sem,↓reduceIte,reduceCtorEq,Nat.reduceEqDiff,Nat.reduceBEq,Nat.reduceAdd,Nat.reduceSub,Nat.reduceMul,Nat.reduceLT,Nat.reduceLeDiff,Nat.reduceBNe,Int.reduceBEq,Int.reduceBNe,Int.reduceLT,Int.reduceLE,Spn.a,Msg.a,Par.a,Nd.a,Seat.a,List.length_append,List.length_cons,List.length_nil]
  ·rw [hoa]
   simp (maxSteps:=9^7) only [go_sem,↓reduceIte,reduceCtorEq,Nat.reduceEqDiff,Nat.reduceBEq,Nat.reduceAdd,Nat.reduceSub,Nat.reduceMul,Nat.reduceLT,Nat.reduceLeDiff,Nat.reduceBNe,Int.reduceBEq,Int.reduceBNe,Int.reduceLT,Int.reduceLE,Spn.a,Msg.a,Par.a,Nd.a,Seat.a,List.map_append,List.map_cons,List.map_nil,hta]
  iterate 4 focus ((simp (maxSteps:=9^7) only [go_sem,↓reduceIte,reduceCtorEq,Nat.reduceEqDiff,Nat.reduceBEq,Nat.reduceAdd,Nat.reduceSub,Nat.reduceMul,Nat.reduceLT,Nat.reduceLeDiff,Nat.reduceBNe,Int.reduceBEq,Int.reduceBNe,Int.reduceLT,Int.reduceLE,Spn.a,Msg.a,Par.a,Nd.a,Seat.a,t9,t10,h10,hw]) <;> rfl)
 ·have hltI:¬ (j:Int) < (x.n.kids.length:Int):=by omega
  rw [List.drop_eq_nil_of_le (by omega),z2c,List.append_nil] at hR
  subst hR
  simp (maxSteps:=9^7) only [go_sem,↓reduceIte,reduceCtorEq,Nat.reduceEqDiff,Nat.reduceBEq,Nat.reduceAdd,Nat.reduceSub,Nat.reduceMul,Nat.reduceLT,Nat.reduceLeDiff,Nat.reduceBNe,Int.reduceBEq,Int.reduceBNe,Int.reduceLT,Int.reduceLE,Spn.a,Msg.a,Par.a,Nd.a,Seat.a,t0,t8,h27,t9,t10,h10,t11,hltI,List.length_map]
  refine hEnd _ rfl ⟨?_,?_,?_,?_⟩
  iterate 4 focus ((simp (maxSteps:=9^7) only [go_sem,↓reduceIte,reduceCtorEq,Nat.reduceEqDiff,Nat.reduceBEq,Nat.reduceAdd,Nat.reduceSub,Nat.reduceMul,Nat.reduceLT,Nat.reduceLeDiff,Nat.reduceBNe,Int.reduceBEq,Int.reduceBNe,Int.reduceLT,Int.reduceLE,Spn.a,Msg.a,Par.a,Nd.a,Seat.a,t0,t8,h27,t9]) <;> rfl)
theorem SeatOk.mono {x:Seat} {b c:Nat} (h:SeatOk x b) (hb:b≤c):SeatOk x c:=⟨h.lt,h.s,h.ms,Nat.le_trans h.nms hb⟩
theorem za3 {l:List Nd} {x:Seat} {b:Nat} (hn:∀ n,n ∈ l->n.Lt) (h:SeatOk x b):∀ (ks:List Int) (j:Nat),(z2c l x j ks).1.length≤ks.length∧∀ y,y ∈ (z2c l x j ks).1->SeatOk y (b + 2000)
 | [],j=>⟨Nat.le_refl _,fun y hy=>by cases hy⟩
 | k :: ks,j=>by
  rw [z2c]
  split
  ·obtain ⟨r1,r2⟩:=za3 hn h ks (j + 1)
   refine ⟨Nat.succ_le_succ r1,fun y hy=>?_⟩
   rcases List.mem_cons.1 hy with rfl | hy
   ·exact kidSeat_ok h j (zgx hn k)
   ·exact r2 y hy
  ·exact ⟨Nat.zero_le _,fun y hy=>by cases hy⟩
def z9h (out:List Seat):Prop:=∀ (i:Nat) (x:Seat),out[i]? = some x->SeatOk x (2000 * i)
theorem zjz {l:List Nd} {out:List Seat} {x:Seat} {i:Nat} (hn:∀ n,n ∈ l->n.Lt) (h:z9h out) (hx:out[i]? = some x) (ks:List Int):z9h (out ++ (z2c l x 0 ks).1):=by
 intro k y hy
 rcases Nat.lt_or_ge k out.length with hk | hk
 ·rw [List.getElem?_append_left hk] at hy
  exact h k y hy
 ·rw [List.getElem?_append_right hk] at hy
  have hi:=(List.getElem?_eq_some_iff.1 hx).1
  exact ((za3 hn (h i x hx) ks 0).2 y (List.mem_of_getElem? hy)).mono (by omega)
def stInv (l:List Nd) (R:List Seat × Bool) (k:Nat) (σ:St):Prop :=
 ∃ (i:Nat) (out:List Seat),i≤l.length∧k = l.length + 1 - i∧stEnd l i out σ∧z50 l (l.length + 1 - i) out i = R∧z9h out∧out.length≤10000
set_option maxHeartbeats 4000000 in
theorem seats_ok (l:List Nd) (root:Int) (hl:l.length≤200) (hn:∀ n,n ∈ l->n.Lt):AFn Tryz.prog 27 [.sl (l.map Nd.a),.int .i64 root] (.tup [.sl ((z5j l root).1.map Seat.a),.bool (z5j l root).2]):=by
 refine fn_seats rfl ?_
 have cf:=find_ok l root (by omega)
 have fl:=zgx hn root
 have ht:∀ o:List Seat,List.take o.length (o.map Seat.a) = o.map Seat.a:=fun o=>List.take_of_length_le (by rw [List.length_map]; exact Nat.le_refl _)
 unfold z5j
 generalize (zf4 l root).1 = nd at *
 generalize (zf4 l root).2 = is at *
 cases is
 ·rw [if_neg (by simp)]
  (repeat (first | simp (maxSteps:=9^7) only [go_sem,↓reduceIte,reduceCtorEq,Nat.reduceEqDiff,Nat.reduceBEq,Nat.reduceAdd,Nat.reduceSub,Nat.reduceMul,Nat.reduceLT,Nat.reduceLeDiff,Nat.reduceBNe,Int.reduceBEq,Int.reduceBNe,Int.reduceLT,Int.reduceLE,Spn.a,Msg.a,Par.a,Nd.a,Seat.a] | refine z01 (cf) ?_ | refine z00 (cf) ?_ | refine And.intro (by omega) ?_ | refine And.intro (fun d hd=>by (repeat (rcases hd with rfl | hd; · exact ⟨rfl,rfl⟩)); cases hd) ?_))
  all_goals first | rfl | exact ⟨rfl,rfl⟩
 rw [if_pos rfl]
 have h0:z9h [(⟨nd,⟨nul0,nul0,true⟩,[]⟩:Seat)]:=by
  intro i x hx
  cases i with
  | zero=>cases hx; exact ⟨fl,⟨Nat.zero_le _,Nat.zero_le _⟩,fun m hm=>(by cases hm),Nat.zero_le _⟩
  | succ i=>simp at hx
 obtain ⟨R,hR⟩:∃ R,z50 l (l.length + 1) [(⟨nd,⟨nul0,nul0,true⟩,[]⟩:Seat)] 0 = R:=⟨_,rfl⟩
 rw [hR]
 (repeat (first | simp (maxSteps:=9^7) only [go_sem,↓reduceIte,reduceCtorEq,Nat.reduceEqDiff,Nat.reduceBEq,Nat.reduceAdd,Nat.reduceSub,Nat.reduceMul,Nat.reduceLT,Nat.reduceLeDiff,Nat.reduceBNe,Int.reduceBEq,Int.reduceBNe,Int.reduceLT,Int.reduceLE,Spn.a,Msg.a,Par.a,Nd.a,Seat.a] | refine z01 (cf) ?_ | refine z00 (cf) ?_ | refine And.intro (by omega) ?_ | refine And.intro (fun d hd=>by (repeat (rcases hd with rfl | hd; · exact ⟨rfl,rfl⟩)); cases hd) ?_))
 refine z0d (stInv l R) (k:=l.length + 1) ⟨0,[⟨nd,⟨nul0,nul0,true⟩,[]⟩],by omega,rfl,⟨?_,?_,?_,?_⟩,hR,h0,by simp⟩ ?_
 iterate 4 focus ((simp (maxSteps:=9^7) only [go_sem,↓reduceIte,reduceCtorEq,Nat.reduceEqDiff,Nat.reduceBEq,Nat.reduceAdd,Nat.reduceSub,Nat.reduceMul,Nat.reduceLT,Nat.reduceLeDiff,Nat.reduceBNe,Int.reduceBEq,Int.reduceBNe,Int.reduceLT,Int.reduceLE,Spn.a,Msg.a,Par.a,Nd.a,Seat.a]) <;> rfl)
 clear hR h0
 rintro k σ ⟨i,out,hi,rfl,⟨t0,t8,h27,t9⟩,hR,hok,hlen⟩
 simp only [zko]
 obtain ⟨f,hf⟩:∃ f,l.length + 1 - i = f + 1:=⟨l.length - i,by omega⟩
 rw [hf,z50] at hR
 have hta:=ht out
 by_cases hlt:i < out.length
 case neg =>
  have hlt':¬ (i:Int) < (out.length:Int):=by omega
  rw [List.getElem?_eq_none (by omega)] at hR
  subst hR
  simp (maxSteps:=9^7) only [go_sem,↓reduceIte,reduceCtorEq,Nat.reduceEqDiff,Nat.reduceBEq,Nat.reduceAdd,Nat.reduceSub,Nat.reduceMul,Nat.reduceLT,Nat.reduceLeDiff,Nat.reduceBNe,Int.reduceBEq,Int.reduceBNe,Int.reduceLT,Int.reduceLE,Spn.a,Msg.a,Par.a,Nd.a,Seat.a,t0,t8,h27,t9,hlt',hta]
 have hlt':(i:Int) < (out.length:Int):=by omega
 obtain ⟨x,hx⟩:=z0i hlt
 have xok:=hok i x hx
 rw [hx] at hR
 simp only at hR
 have hgx:=z0o (f:=Seat.a) hx
 have hgx':(out.map Seat.a)[i]? = some x.a:=by rw [List.getElem?_map,hx]; rfl
 simp only [Seat.a] at hgx' hgx
 have hw:=z1j (j:=i) (by omega)
 by_cases hbig:l.length < out.length
 ·have hbig':(l.length:Int) < (out.length:Int):=by omega
  rw [if_pos hbig] at hR
  subst hR
  simp (maxSteps:=9^7) only [go_sem,↓reduceIte,reduceCtorEq,Nat.reduceEqDiff,Nat.reduceBEq,Nat.reduceAdd,Nat.reduceSub,Nat.reduceMul,Nat.reduceLT,Nat.reduceLeDiff,Nat.reduceBNe,Int.reduceBEq,Int.reduceBNe,Int.reduceLT,Int.reduceLE,Spn.a,Msg.a,Par.a,Nd.a,Seat.a,t0,t8,h27,t9,hlt',hta,hgx,hgx',hbig',List.length_map,Int.toNat_natCast,Nat.zero_add]
  all_goals omega
 have hbig':¬ (l.length:Int) < (out.length:Int):=by omega
 rw [if_neg hbig] at hR
 by_cases hz:x.n.level = 0
 ·have hz':(x.n.level == 0) = true:=by simp [hz]
  rw [if_pos hz] at hR
  simp (maxSteps:=9^7) only [go_sem,↓reduceIte,reduceCtorEq,Nat.reduceEqDiff,Nat.reduceBEq,Nat.reduceAdd,Nat.reduceSub,Nat.reduceMul,Nat.reduceLT,Nat.reduceLeDiff,Nat.reduceBNe,Int.reduceBEq,Int.reduceBNe,Int.reduceLT,Int.reduceLE,Spn.a,Msg.a,Par.a,Nd.a,Seat.a,t0,t8,h27,t9,hlt',hta,hgx,hgx',hbig',hz',hw,List.length_map,Int.toNat_natCast,Nat.zero_add]
  (repeat refine And.intro (by omega) ?_)
  refine ⟨l.length + 1 - (i + 1),by omega,i + 1,out,by omega,rfl,⟨?_,?_,?_,?_⟩,by rw [show l.length + 1 - (i + 1) = f by omega]; exact hR,hok,hlen⟩
  iterate 4 focus ((simp (maxSteps:=9^7) only [go_sem,↓reduceIte,reduceCtorEq,Nat.reduceEqDiff,Nat.reduceBEq,Nat.reduceAdd,Nat.reduceSub,Nat.reduceMul,Nat.reduceLT,Nat.reduceLeDiff,Nat.reduceBNe,Int.reduceBEq,Int.reduceBNe,Int.reduceLT,Int.reduceLE,Spn.a,Msg.a,Par.a,Nd.a,Seat.a,t0,t8,h27,hw]) <;> rfl)
 have hz':(x.n.level == 0) = false:=by simp [hz]
 rw [if_neg hz] at hR
 have ck:=zpv x.n.pivots x.n.kids (by have:=xok.lt.npiv; omega) (fun y hy=>by have:=xok.lt.piv y hy; omega)
 by_cases hneg:x.n.level < 0
 ·rw [if_pos (.inl hneg)] at hR
  subst hR
  (repeat (first | simp (maxSteps:=9^7) only [go_sem,↓reduceIte,reduceCtorEq,Nat.reduceEqDiff,Nat.reduceBEq,Nat.reduceAdd,Nat.reduceSub,Nat.reduceMul,Nat.reduceLT,Nat.reduceLeDiff,Nat.reduceBNe,Int.reduceBEq,Int.reduceBNe,Int.reduceLT,Int.reduceLE,Spn.a,Msg.a,Par.a,Nd.a,Seat.a,t0,t8,h27,t9,hlt',hta,hgx,hgx',hbig',hz',hneg,List.length_map,Int.toNat_natCast,Nat.zero_add] | refine z01 (ck) ?_ | refine z00 (ck) ?_ | refine And.intro (by omega) ?_ | refine And.intro (fun d hd=>by (repeat (rcases hd with rfl | hd; · exact ⟨rfl,rfl⟩)); cases hd) ?_))
  all_goals omega
 cases hrk:zk0 x.n.pivots x.n.kids
 ·rw [if_pos (.inr hrk)] at hR
  subst hR
  rw [hrk] at ck
  (repeat (first | simp (maxSteps:=9^7) only [go_sem,↓reduceIte,reduceCtorEq,Nat.reduceEqDiff,Nat.reduceBEq,Nat.reduceAdd,Nat.reduceSub,Nat.reduceMul,Nat.reduceLT,Nat.reduceLeDiff,Nat.reduceBNe,Int.reduceBEq,Int.reduceBNe,Int.reduceLT,Int.reduceLE,Spn.a,Msg.a,Par.a,Nd.a,Seat.a,t0,t8,h27,t9,hlt',hta,hgx,hgx',hbig',hz',hneg,List.length_map,Int.toNat_natCast,Nat.zero_add] | refine z01 (ck) ?_ | refine z00 (ck) ?_ | refine And.intro (by omega) ?_ | refine And.intro (fun d hd=>by (repeat (rcases hd with rfl | hd; · exact ⟨rfl,rfl⟩)); cases hd) ?_))
  all_goals omega
 rw [if_neg (by rintro (h | h); exact hneg h; rw [hrk] at h; cases h)] at hR
 rw [hrk] at ck
 have hkl:x.n.kids.length = x.n.pivots.length + 1:=by
  unfold zk0 at hrk
  rw [Bool.and_eq_true,decide_eq_true_eq] at hrk
  exact hrk.2
 (repeat (first | simp (maxSteps:=9^7) only [go_sem,↓reduceIte,reduceCtorEq,Nat.reduceEqDiff,Nat.reduceBEq,Nat.reduceAdd,Nat.reduceSub,Nat.reduceMul,Nat.reduceLT,Nat.reduceLeDiff,Nat.reduceBNe,Int.reduceBEq,Int.reduceBNe,Int.reduceLT,Int.reduceLE,Spn.a,Msg.a,Par.a,Nd.a,Seat.a,t0,t8,h27,t9,hlt',hta,hgx,hgx',hbig',hz',hneg,List.length_map,Int.toNat_natCast,Nat.zero_add] | refine z01 (ck) ?_ | refine z00 (ck) ?_ | refine And.intro (by omega) ?_ | refine And.intro (fun d hd=>by (repeat (rcases hd with rfl | hd; · exact ⟨rfl,rfl⟩)); cases hd) ?_))
 have hkg:=za3 hn xok x.n.kids 0
 have hap:=zjz hn hok hx x.n.kids
 have hta2:=ht (out ++ (z2c l x 0 x.n.kids).1)
 have hnk:=xok.lt.nkid
 refine z0d (kdInv l x i out (z2c l x 0 x.n.kids)) (k:=x.n.kids.length) ⟨0,[],by omega,rfl,rfl,?_,?_,?_,?_,?_,?_,?_,rfl⟩ (kids_step _ l x (2000 * i) i out (z2c l x 0 x.n.kids) (by omega) hn xok (by omega) (by omega) hkl (by omega) ?_ ?_)
 iterate 7 focus ((simp (maxSteps:=9^7) only [go_sem,↓reduceIte,reduceCtorEq,Nat.reduceEqDiff,Nat.reduceBEq,Nat.reduceAdd,Nat.reduceSub,Nat.reduceMul,Nat.reduceLT,Nat.reduceLeDiff,Nat.reduceBNe,Int.reduceBEq,Int.reduceBNe,Int.reduceLT,Int.reduceLE,Spn.a,Msg.a,Par.a,Nd.a,Seat.a,t0,t8,List.append_nil,h27,t9]) <;> rfl)
 ·rintro σ h2 ⟨t0,t8,h27,t9⟩
  rw [if_pos h2] at hR
  generalize hoo:out ++ (z2c l x 0 x.n.kids).1 = oo at *
  have hol:oo.length≤10000:=by rw [← hoo,List.length_append]; omega
  simp (maxSteps:=9^7) only [go_sem,↓reduceIte,reduceCtorEq,Nat.reduceEqDiff,Nat.reduceBEq,Nat.reduceAdd,Nat.reduceSub,Nat.reduceMul,Nat.reduceLT,Nat.reduceLeDiff,Nat.reduceBNe,Int.reduceBEq,Int.reduceBNe,Int.reduceLT,Int.reduceLE,Spn.a,Msg.a,Par.a,Nd.a,Seat.a,t0,t8,h27,t9,hw]
  refine ⟨l.length + 1 - (i + 1),by omega,i + 1,oo,by omega,rfl,⟨?_,?_,?_,?_⟩,by rw [show l.length + 1 - (i + 1) = f by omega]; exact hR,hap,hol⟩
  iterate 4 focus ((simp (maxSteps:=9^7) only [go_sem,↓reduceIte,reduceCtorEq,Nat.reduceEqDiff,Nat.reduceBEq,Nat.reduceAdd,Nat.reduceSub,Nat.reduceMul,Nat.reduceLT,Nat.reduceLeDiff,Nat.reduceBNe,Int.reduceBEq,Int.reduceBNe,Int.reduceLT,Int.reduceLE,Spn.a,Msg.a,Par.a,Nd.a,Seat.a,t0,t8,h27,hw]) <;> rfl)
 ·rintro σ h2 ⟨t4,h27,t5⟩
  rw [if_neg (by rw [h2]; simp)] at hR
  subst hR
  simp (maxSteps:=9^7) only [go_sem,↓reduceIte,reduceCtorEq,Nat.reduceEqDiff,Nat.reduceBEq,Nat.reduceAdd,Nat.reduceSub,Nat.reduceMul,Nat.reduceLT,Nat.reduceLeDiff,Nat.reduceBNe,Int.reduceBEq,Int.reduceBNe,Int.reduceLT,Int.reduceLE,Spn.a,Msg.a,Par.a,Nd.a,Seat.a,t4,h27,t5,hta2]
end
section
/-
 Pairs that rise and are short: the document's look at them,walked.
-/
open Go.RowKit
set_option linter.unusedVariables false
set_option linter.unusedSimpArgs false
set_option maxRecDepth 100000
attribute [local go_sem ↓] z11 z0l
/-- do pairs rise,and are they short? -/
def z77:List Par->Bool
 | []=>true
 | [p]=>decide (p.key.size≤16) && decide (p.val.size≤16)
 | p :: q :: l=>decide (p.key.size≤16) && decide (p.val.size≤16) && Op.bytesLess p.key.toList q.key.toList && z77 (q :: l)
def z2m (p:Par):Bool:=decide (p.key.size≤16) && decide (p.val.size≤16)
/-- pairs behind one that was -/
def z4a:Option Par->List Par->Bool
 | _,[]=>true
 | none,p :: l=>z2m p && z4a (some p) l
 | some q,p :: l=>z2m p && Op.bytesLess q.key.toList p.key.toList && z4a (some p) l
theorem zk1:∀ (p:Par) (l:List Par),(z2m p && z4a (some p) l) = z77 (p :: l)
 | p,[]=>by simp [z4a,z77,z2m]
 | p,q :: l=>by
  have h:=zk1 q l
  show (z2m p && (z2m q && Op.bytesLess p.key.toList q.key.toList && z4a (some q) l)) = (decide (p.key.size≤16) && decide (p.val.size≤16) && Op.bytesLess p.key.toList q.key.toList && z77 (q :: l))
  rw [← h]
  show _ = (z2m p && Op.bytesLess p.key.toList q.key.toList && (z2m q && z4a (some q) l))
  cases z2m p <;> cases z2m q <;> cases Op.bytesLess p.key.toList q.key.toList <;> simp
theorem y8y (l:List Par):z4a none l = z77 l:=by
 cases l with
 | nil=>rfl
 | cons p l=>exact zk1 p l
def y62 (l:List Par) (j:Nat):Option Par:=if j = 0 then none else l[j - 1]?
theorem prevP_next {l:List Par} {j:Nat} {x:Par} (h:l[j]? = some x):y62 l (j + 1) = some x:=by
 unfold y62
 rw [if_neg (by omega),Nat.add_sub_cancel,h]
/-- one step of it -/
theorem rightG_at {l:List Par} {j:Nat} {x:Par} (h:l[j]? = some x) :
  (j = 0->z4a (y62 l j) (l.drop j) = (z2m x && z4a (y62 l (j + 1)) (l.drop (j + 1)))) ∧
  (∀ y,l[j - 1]? = some y->j ≠ 0->z4a (y62 l j) (l.drop j) = (z2m x && Op.bytesLess y.key.toList x.key.toList && z4a (y62 l (j + 1)) (l.drop (j + 1)))):=by
 rw [prevP_next h,z0h h]
 constructor
 ·rintro rfl; rfl
 ·intro y hy hj
  unfold y62
  rw [if_neg hj,hy]; rfl
theorem rightG_end (l:List Par) (o:Option Par):z4a o (l.drop l.length) = true:=by
 rw [List.drop_eq_nil_of_le (Nat.le_refl _)]
 cases o <;> rfl
/-! ### percolate/percolateref09.Right -/
def zlh:Reg:=⟨[],[⟨.mv (.c (.bool false)),some 2,none,[],[]⟩],[],[],false⟩
def zlg:Reg:=⟨[],[⟨.mv (.c (.int .i64 0)),some 3,none,[],[]⟩],[],[],false⟩
def z7w:List ROp:=[⟨.mv (.t 3),some 4,none,[],[]⟩,⟨.mv (.t 0),some 5,none,[],[]⟩,⟨.len false (.t 5),some 6,none,[],[]⟩,⟨.bin .lss (.t 4) (.t 6),some 7,none,[],[]⟩]
def zlf:Reg:=⟨[],z7w,[],[],false⟩
def z7v:List ROp:=[⟨.callv (.c (.clo 77 [] [])) [(.t 35),(.t 40)],some 41,(some (29,true)),[],[]⟩,⟨.un .not (.t 41),some 42,(some (29,true)),[],[]⟩,⟨.pick (.t 29) (.t 42) (.c (.bool false)),some 43,(some (26,false)),[],[]⟩,⟨.pick (.t 26) (.c (.bool true)) (.t 43),some 44,none,[],[]⟩]
def z97:List ROp:=[⟨.mv (.t 0),some 10,none,[41],[]⟩,⟨.mv (.t 3),some 11,none,[41],[]⟩,⟨.iaddr 2 (.t 10) (.t 11),some 12,none,[41],[]⟩,⟨.faddr 0 (.t 12),some 13,none,[41],[]⟩,⟨.load 1 false (.t 13),some 14,none,[41],[]⟩,⟨.len true (.t 14),some 15,none,[41],[]⟩,⟨.bin .gtr (.t 15) (.c (.int .i64 16)),some 16,none,[41],[]⟩,⟨.mv (.t 16),some 17,none,[41],[]⟩,⟨.mv (.t 0),some 18,(some (17,false)),[41],[]⟩,⟨.mv (.t 3),some 19,(some (17,false)),[41],[]⟩,⟨.iaddr 2 (.t 18) (.t 19),some 20,(some (17,false)),[41],[]⟩,⟨.faddr 1 (.t 20),some 21,(some (17,false)),[41],[]⟩,⟨.load 1 false (.t 21),some 22,(some (17,false)),[41],[]⟩,⟨.len true (.t 22),some 23,(some (17,false)),[41],[]⟩,⟨.bin .gtr (.t 23) (.c (.int .i64 16)),some 24,(some (17,false)),[41],[]⟩,⟨.pick (.t 17) (.c (.bool true)) (.t 24),some 25,none,[41],[]⟩,⟨.mv (.t 25),some 26,none,[41],[]⟩,⟨.mv (.t 3),some 27,(some (26,false)),[41],[]⟩,⟨.bin .gtr (.t 27) (.c (.int .i64 0)),some 28,(some (26,false)),[41],[]⟩,⟨.mv (.t 28),some 29,(some (26,false)),[41],[]⟩,⟨.mv (.t 0),some 30,(some (29,true)),[41],[]⟩,⟨.mv (.t 3),some 31,(some (29,true)),[41],[]⟩,⟨.bin .sub (.t 31) (.c (.int .i64 1)),some 32,(some (29,true)),[41],[]⟩,⟨.iaddr 2 (.t 30) (.t 32),some 33,(some (29,true)),[41],[]⟩,⟨.faddr 0 (.t 33),some 34,(some (29,true)),[41],[]⟩,⟨.load 1 false (.t 34),some 35,(some (29,true)),[41],[]⟩,⟨.mv (.t 0),some 36,(some (29,true)),[41],[]⟩,⟨.mv (.t 3),some 37,(some (29,true)),[41],[]⟩,⟨.iaddr 2 (.t 36) (.t 37),some 38,(some (29,true)),[41],[]⟩,⟨.faddr 0 (.t 38),some 39,(some (29,true)),[41],[]⟩,⟨.load 1 false (.t 39),some 40,(some (29,true)),[41],[]⟩]
def zle:Reg:=⟨z97,z7v,[41],[],true⟩
def zld:Reg:=⟨[],[⟨.mv (.c (.bool false)),some 2,none,[],[]⟩],[],[],false⟩
def z7u:List ROp:=[⟨.mv (.t 3),some 8,none,[],[]⟩,⟨.bin .add (.t 8) (.c (.int .i64 1)),some 9,none,[],[]⟩,⟨.mv (.t 9),some 3,none,[],[]⟩]
def zlc:Reg:=⟨[],z7u,[],[],false⟩
def zfd:IR:=(.seq (.seq (.reg zlf)
 (.cond (.t 7) .skip
 (.exit 0)))
 (.seq (.block 1 (.seq (.reg zle)
 (.cond (.t 44) (.seq (.reg zld)
 .ret)
 .skip)))
 (.reg zlc)))
def zlb:Reg:=⟨[],[⟨.mv (.c (.bool true)),some 2,none,[],[]⟩],[],[],false⟩
def zx6:IR:=(.seq (.reg zlh)
 (.seq (.seq (.reg zlg)
 (.block 0 (.loop zfd)))
 (.seq (.reg zlb)
 .ret)))
def zk7:List RDesc:=[(.tmp 2)]
theorem yau:EqR zlh [⟨.mv (.c (.bool false)),some 2,none,[],[]⟩] []:=fun _ _ _=>rfl
theorem yat:EqR zlg [⟨.mv (.c (.int .i64 0)),some 3,none,[],[]⟩] []:=fun _ _ _=>rfl
theorem yas:EqR zlf z7w []:=fun _ _ _=>rfl
theorem yar (C:FuncId->List AV->AV->Prop) (σ:St) (K:St->Prop):z0k C zle σ K = z08 C [] z7v z97 (σ.kills [41]) K:=rfl
theorem yaq:EqR zld [⟨.mv (.c (.bool false)),some 2,none,[],[]⟩] []:=fun _ _ _=>rfl
theorem yap:EqR zlc z7u []:=fun _ _ _=>rfl
theorem yao:EqR zlb [⟨.mv (.c (.bool true)),some 2,none,[],[]⟩] []:=fun _ _ _=>rfl
theorem fn_rRight9 {args:List AV} {r:AV} (ha:args.length.ble Tryz.f79.ntmps = true) (h:run (AFn Tryz.prog) zx6 (endQ zk7 r) (z0b args)):AFn Tryz.prog 79 args r :=
 AFn.of_code (pv:=false) (hint:=fun _=>[]) (c:=Tryz.f79.body.getD .skip) (by kernel_rfl) (by kernel_rfl) Tryz.func79 (by kernel_rfl) (by kernel_rfl) (by kernel_rfl) (of_decide_eq_true (by kernel_rfl)) (Nat.le_of_ble_eq_true ha) (Nat.le_of_ble_eq_true (by kernel_rfl)) (z0c h)
attribute [local go_sem ↓] zx6
attribute [local go_sem] zk7 yau yat yas z7w yar z7v z97 yaq yap z7u yao
def r9Inv (l:List Par) (r:Bool) (k:Nat) (σ:St):Prop :=
 ∃ j:Nat,j≤l.length∧k = l.length - j∧σ.T 0 = .sl (l.map Par.a)∧σ.T 3 = .int .i64 j∧r = z4a (y62 l j) (l.drop j)
set_option maxHeartbeats 1000000 in
theorem rRight9_ok (l:List Par) (hl:l.length≤1000000000) (hs:∀ p,p ∈ l->p.key.size≤281474976710656):AFn Tryz.prog 79 [.sl (l.map Par.a)] (.bool (z77 l)):=by
 refine fn_rRight9 rfl ?_
 simp (maxSteps:=9^7) only [go_sem,↓reduceIte,reduceCtorEq,Nat.reduceEqDiff,Nat.reduceBEq,Nat.reduceAdd,Nat.reduceSub,Nat.reduceMul,Nat.reduceLT,Nat.reduceLeDiff,Nat.reduceBNe,Int.reduceBEq,Int.reduceBNe,Int.reduceLT,Int.reduceLE,Par.a]
 refine z0d (r9Inv l (z77 l)) (k:=l.length) ⟨0,by omega,rfl,rfl,rfl,?_⟩ ?_
 ·rw [← y8y]; rfl
 rintro k σ ⟨j,hj,rfl,t0,t3,hr⟩
 simp only [zfd]
 generalize hR:z77 l = R at *
 by_cases hlt:j < l.length
 ·have hlt':(j:Int) < (l.length:Int):=by omega
  obtain ⟨x,hx⟩:=z0i hlt
  have hgj:=z0o (f:=Par.a) hx
  simp only [Par.a] at hgj
  have hw:=z1j (j:=j) (by omega)
  obtain ⟨q1,q2⟩:=rightG_at hx
  by_cases hk:(16:Int) < (x.key.size:Int)
  ·have hS:z2m x = false:=by unfold z2m; rw [decide_eq_false (by omega)]; rfl
   have hr':R = false:=by
    by_cases h0:j = 0
    ·rw [hr,q1 h0,hS]; rfl
    ·obtain ⟨y,hy⟩:=z0i (l:=l) (j:=j - 1) (by omega)
     rw [hr,q2 y hy h0,hS]; rfl
   subst hr'
   simp (maxSteps:=9^7) only [go_sem,↓reduceIte,reduceCtorEq,Nat.reduceEqDiff,Nat.reduceBEq,Nat.reduceAdd,Nat.reduceSub,Nat.reduceMul,Nat.reduceLT,Nat.reduceLeDiff,Nat.reduceBNe,Int.reduceBEq,Int.reduceBNe,Int.reduceLT,Int.reduceLE,Par.a,t0,t3,hlt',hgj,hk,List.length_map,Int.toNat_natCast,hw]
   all_goals omega
  by_cases hv:(16:Int) < (x.val.size:Int)
  ·have hS:z2m x = false:=by unfold z2m; rw [decide_eq_false (p:=x.val.size≤16) (by omega),Bool.and_false]
   have hr':R = false:=by
    by_cases h0:j = 0
    ·rw [hr,q1 h0,hS]; rfl
    ·obtain ⟨y,hy⟩:=z0i (l:=l) (j:=j - 1) (by omega)
     rw [hr,q2 y hy h0,hS]; rfl
   subst hr'
   simp (maxSteps:=9^7) only [go_sem,↓reduceIte,reduceCtorEq,Nat.reduceEqDiff,Nat.reduceBEq,Nat.reduceAdd,Nat.reduceSub,Nat.reduceMul,Nat.reduceLT,Nat.reduceLeDiff,Nat.reduceBNe,Int.reduceBEq,Int.reduceBNe,Int.reduceLT,Int.reduceLE,Par.a,t0,t3,hlt',hgj,hk,hv,List.length_map,Int.toNat_natCast,hw]
   all_goals omega
  have hS:z2m x = true:=by unfold z2m; rw [decide_eq_true (by omega),decide_eq_true (by omega)]; rfl
  rw [hS] at q1 q2
  by_cases h0:j = 0
  ·rw [q1 h0] at hr
   have hp:¬ (0:Int) < (j:Int):=by omega
   simp (maxSteps:=9^7) only [go_sem,↓reduceIte,reduceCtorEq,Nat.reduceEqDiff,Nat.reduceBEq,Nat.reduceAdd,Nat.reduceSub,Nat.reduceMul,Nat.reduceLT,Nat.reduceLeDiff,Nat.reduceBNe,Int.reduceBEq,Int.reduceBNe,Int.reduceLT,Int.reduceLE,Par.a,t0,t3,hlt',hgj,hk,hv,hp,List.length_map,Int.toNat_natCast,hw]
   (repeat refine And.intro (by omega) ?_)
   refine ⟨l.length - (j + 1),by omega,j + 1,by omega,rfl,?_,?_,by rw [hr]; simp⟩
   iterate 2 focus ((simp (maxSteps:=9^7) only [go_sem,↓reduceIte,reduceCtorEq,Nat.reduceEqDiff,Nat.reduceBEq,Nat.reduceAdd,Nat.reduceSub,Nat.reduceMul,Nat.reduceLT,Nat.reduceLeDiff,Nat.reduceBNe,Int.reduceBEq,Int.reduceBNe,Int.reduceLT,Int.reduceLE,Par.a,t0,hw]) <;> rfl)
  ·obtain ⟨y,hy⟩:=z0i (l:=l) (j:=j - 1) (by omega)
   have hgy:=z0o (f:=Par.a) hy
   simp only [Par.a] at hgy
   have hp:(0:Int) < (j:Int):=by omega
   have hm:IntKind.i64.wrap ((j:Int) - 1) = ((j - 1:Nat):Int):=by rw [IntWalk.i64_in _ (by omega)]; omega
   have hy':((j - 1:Nat):Int) < (l.length:Int):=by omega
   have cl:=z33 y.key x.key (by have:=hs y (List.mem_of_getElem? hy); omega) (by have:=hs x (List.mem_of_getElem? hx); omega)
   have hB:Op.bytesLess y.key.toList x.key.toList = lt y.key x.key:=rfl
   rw [q2 y hy h0,hB] at hr
   generalize lt y.key x.key = b at *
   cases b
   ·(repeat (first | simp (maxSteps:=9^7) only [go_sem,↓reduceIte,reduceCtorEq,Nat.reduceEqDiff,Nat.reduceBEq,Nat.reduceAdd,Nat.reduceSub,Nat.reduceMul,Nat.reduceLT,Nat.reduceLeDiff,Nat.reduceBNe,Int.reduceBEq,Int.reduceBNe,Int.reduceLT,Int.reduceLE,Par.a,t0,t3,hlt',hgj,hgy,hk,hv,hp,hm,hy',List.length_map,Int.toNat_natCast,hw] | refine z01 (cl) ?_ | refine z00 (cl) ?_ | refine And.intro (by omega) ?_ | refine And.intro (fun d hd=>by (repeat (rcases hd with rfl | hd; · exact ⟨rfl,rfl⟩)); cases hd) ?_))
    all_goals (repeat refine And.intro (by omega) ?_)
    all_goals rw [hr]; rfl
   ·(repeat (first | simp (maxSteps:=9^7) only [go_sem,↓reduceIte,reduceCtorEq,Nat.reduceEqDiff,Nat.reduceBEq,Nat.reduceAdd,Nat.reduceSub,Nat.reduceMul,Nat.reduceLT,Nat.reduceLeDiff,Nat.reduceBNe,Int.reduceBEq,Int.reduceBNe,Int.reduceLT,Int.reduceLE,Par.a,t0,t3,hlt',hgj,hgy,hk,hv,hp,hm,hy',List.length_map,Int.toNat_natCast,hw] | refine z01 (cl) ?_ | refine z00 (cl) ?_ | refine And.intro (by omega) ?_ | refine And.intro (fun d hd=>by (repeat (rcases hd with rfl | hd; · exact ⟨rfl,rfl⟩)); cases hd) ?_))
    refine ⟨l.length - (j + 1),by omega,j + 1,by omega,rfl,?_,?_,by rw [hr]; simp⟩
    iterate 2 focus ((simp (maxSteps:=9^7) only [go_sem,↓reduceIte,reduceCtorEq,Nat.reduceEqDiff,Nat.reduceBEq,Nat.reduceAdd,Nat.reduceSub,Nat.reduceMul,Nat.reduceLT,Nat.reduceLeDiff,Nat.reduceBNe,Int.reduceBEq,Int.reduceBNe,Int.reduceLT,Int.reduceLE,Par.a,t0,hw]) <;> rfl)
 ·have hlt':¬ (j:Int) < (l.length:Int):=by omega
  obtain rfl:j = l.length:=by omega
  simp (maxSteps:=9^7) only [go_sem,↓reduceIte,reduceCtorEq,Nat.reduceEqDiff,Nat.reduceBEq,Nat.reduceAdd,Nat.reduceSub,Nat.reduceMul,Nat.reduceLT,Nat.reduceLeDiff,Nat.reduceBNe,Int.reduceBEq,Int.reduceBNe,Int.reduceLT,Int.reduceLE,Par.a,t0,t3,hlt',List.length_map]
  rw [hr,rightG_end]
end
end Go.Proofs.YthpbokjnfloeoaaGreatDoor
