/-
  'Rows.ShapeTreesSaid' is proved: the law percolatelaw58.ShapeTrees returns true at every input, and its arguments read as they did. No condition.
-/
import Derived.SizedLaws
import Derived.Test.YtkfciapeikkmfaaDoorCards
import Derived.Test.YtkfciapeikkmfaaDoorTie
import Derived.Deep.DeepHandedRow
import Derived.LaidLaws
import Derived.Lay
import Derived.SevenTiedAt
import Derived.Test.YtkfciapeikkmfaaDoorST18
set_option linter.unusedVariables false
set_option linter.unusedSimpArgs false
set_option maxRecDepth 100000
namespace Go.Proofs.YtkfciapeikkmfaaDoor
section
open Go.RowKit Go.MapKept
attribute [local go_sem ↓] z1m z0h
def y80:Reg:=⟨[],[⟨.mv (.c (.bool false)),some 0,none,[],[]⟩],[],[],false⟩
def zuw:List ROp:=[⟨.bsl 1 9 [(.c (.str ⟨#[109]⟩))],some 2,none,[3,6,9],[]⟩,⟨.bsl 1 3 [(.c (.int .i64 1)),(.c (.int .i64 2))],some 3,none,[6,9],[]⟩,⟨.bld [(.int .i64 0),(.int .i64 0),(.sl []),(.sl []),(.str ⟨#[]⟩),(.bool false),(.int .i64 0),(.int .i64 0),(.sl []),(.sl [])] [⟨1,1,(.c (.int .i64 1))⟩,⟨5,1,(.c (.bool true))⟩,⟨6,1,(.c (.int .i64 (-1)))⟩,⟨2,1,(.t 2)⟩,⟨3,1,(.t 3)⟩],some 4,none,[6,9],[]⟩,⟨.bld [(.str ⟨#[]⟩),(.str ⟨#[]⟩)] [⟨0,1,(.c (.str ⟨#[97]⟩))⟩],some 5,none,[6,9],[]⟩,⟨.bsl 2 54 [(.t 5)],some 6,none,[9],[]⟩,⟨.bld [(.int .i64 0),(.int .i64 0),(.sl []),(.sl []),(.str ⟨#[]⟩),(.bool false),(.int .i64 0),(.int .i64 0),(.sl []),(.sl [])] [⟨0,1,(.c (.int .i64 1))⟩,⟨4,1,(.c (.str ⟨#[109]⟩))⟩,⟨6,1,(.c (.int .i64 2))⟩,⟨9,1,(.t 6)⟩],some 7,none,[9],[]⟩,⟨.bld [(.int .i64 0),(.int .i64 0),(.sl []),(.sl []),(.str ⟨#[]⟩),(.bool false),(.int .i64 0),(.int .i64 0),(.sl []),(.sl [])] [⟨0,1,(.c (.int .i64 2))⟩,⟨5,1,(.c (.bool true))⟩,⟨6,1,(.c (.int .i64 (-1)))⟩],some 8,none,[9],[]⟩,⟨.bsl 10 27 [(.t 4),(.t 7),(.t 8)],some 9,none,[],[]⟩,⟨.mv (.t 9),some 1,none,[],[]⟩]
def y7z:Reg:=⟨[],zuw,[2,3,6,9],[],false⟩
def zuv:List ROp:=[⟨.mv (.t 1),some 10,none,[11,12,13,16],[]⟩,⟨.callv (.c (.clo 15 [] [])) [(.t 10)],some 11,none,[12,13,16],[]⟩,⟨.bsl 1 9 [(.c (.str ⟨#[48,32,45,46,46,42,32,107,105,100,115,32,50,32,109,115,103,115,32,48]⟩)),(.c (.str ⟨#[32,32,49,32,45,46,46,109,32,114,111,119,115,32,49,32,97]⟩)),(.c (.str ⟨#[32,32,50,32,109,46,46,42,32,114,111,119,115,32,48]⟩))],some 12,none,[13,16],[]⟩,⟨.callv (.c (.clo 14 [] [])) [(.t 11),(.t 12)],some 13,none,[16],[]⟩,⟨.mv (.t 13),some 14,none,[16],[]⟩,⟨.mv (.t 1),some 15,(some (14,true)),[16],[]⟩,⟨.callv (.c (.clo 17 [] [])) [(.t 15),(.c (.int .i64 0))],some 16,(some (14,true)),[],[]⟩,⟨.bin .eql (.t 16) (.c (.str ⟨#[49,58,109,32,50,58,42]⟩)),some 17,(some (14,true)),[],[]⟩,⟨.pick (.t 14) (.t 17) (.c (.bool false)),some 18,none,[],[]⟩,⟨.mv (.t 18),some 0,none,[],[]⟩]
def y7y:Reg:=⟨[],zuv,[11,12,13,16],[],false⟩
def ir_aw58:IR:=(.seq (.reg y80)
 (.seq (.reg y7z)
 (.seq (.reg y7y)
 .ret)))
def y6t:List RDesc:=[(.tmp 0)]
theorem e_aw58_0:EqR y80 [⟨.mv (.c (.bool false)),some 0,none,[],[]⟩] []:=fun _ _ _=>rfl
theorem e_aw58_1:EqR y7z zuw [2,3,6,9]:=fun _ _ _=>rfl
theorem e_aw58_2:EqR y7y zuv [11,12,13,16]:=fun _ _ _=>rfl
theorem fn_aw58 {args:List AV} {r:AV} (ha:args.length.ble Tryd.f7.ntmps = true) (h:run (AFn Tryd.prog) ir_aw58 (endQ y6t r) (z0a args)):AFn Tryd.prog 7 args r :=
 AFn.of_code (pv:=false) (hint:=fun _=>[]) (c:=Tryd.f7.body.getD .skip) (by kernel_rfl) (by kernel_rfl) Tryd.func7 (by kernel_rfl) (by kernel_rfl) (by kernel_rfl) (of_decide_eq_true (by kernel_rfl)) (Nat.le_of_ble_eq_true ha) (Nat.le_of_ble_eq_true (by kernel_rfl)) (z0b h)
attribute [local go_sem ↓] ir_aw58
attribute [local go_sem] y6t e_aw58_0 e_aw58_1 zuw e_aw58_2 zuv
def lS:List Nd:=[⟨0,1,[⟨#[109]⟩],[1,2],⟨#[]⟩,true,-1,0,[],[]⟩,⟨1,0,[],[],⟨#[109]⟩,false,2,0,[],[⟨⟨#[97]⟩,⟨#[]⟩⟩]⟩,⟨2,0,[],[],⟨#[]⟩,true,-1,0,[],[]⟩]
def cS:Cfg:=⟨4,2,36,9,8⟩
theorem lS_tree:z5j cS lS 40 = true:=by decide +kernel
theorem lS_lt:∀ n,n ∈ lS->n.Lt:=by
 intro n hn
 have h:∀ n,n = lS[0]'(by decide)∨n = lS[1]'(by decide)∨n = lS[2]'(by decide)->n.Lt:=by
  rintro n (rfl | rfl | rfl)
  ·exact ⟨by decide,by decide,by decide,by decide,by decide,fun m h=>(by cases h),by decide,fun m h=>(by cases h),by decide⟩
  ·exact ⟨by decide,fun m h=>(by cases h),by decide,by decide,by decide,fun m h=>(by cases h),by decide,by decide,by decide⟩
  ·exact ⟨by decide,fun m h=>(by cases h),by decide,by decide,by decide,fun m h=>(by cases h),by decide,fun m h=>(by cases h),by decide⟩
 refine h n ?_
 rcases List.mem_cons.1 hn with e | hn
 ·exact .inl e
 rcases List.mem_cons.1 hn with e | hn
 ·exact .inr (.inl e)
 ·exact .inr (.inr (List.mem_singleton.1 hn))
theorem lS_sp:∀ x,x ∈ (z1l lS 0).1->x.s.le 2000:=fun x hx=>by
 obtain ⟨i,hi⟩:=List.mem_iff_getElem?.1 hx
 exact ((zi3 (l:=lS) (by decide) lS_lt 0).1 i x hi).s
def tS:List ByteArray:=["0 -..* kids 2 msgs 0".toUTF8, "  1 -..m rows 1 a".toUTF8, "  2 m..* rows 0".toUTF8]
theorem lS_draw:z4g lS lS.length 0 allS 0 = tS:=by decide +kernel
theorem lS_level:z8u ((z2n lS (lS[0]'(by decide)) 0).map levW) (⟨#[32]⟩:ByteArray) = (⟨#[49,58,109,32,50,58,42]⟩:ByteArray):=by decide +kernel
set_option maxHeartbeats 2000000 in
theorem awake58_am:AFn Tryd.prog 7 [] (.bool true):=by
 refine fn_aw58 rfl ?_
 have W:=zvr (by decide) lS_tree
 have h0:ndAt lS 0 = some (lS[0]'(by decide)):=rfl
 have c1:=zw0 lS _ W lS_lt lS_sp
 rw [lS_draw] at c1
 have c2:=zw1 tS (by decide)
 have cc:=y9e lS (W.lvl h0) 0 _ h0
 have c3:=y8e lS W.ord W.few 0 (z2n lS (lS[0]'(by decide)) 0) (by decide +kernel) (by
  intro n hn
  have hx:n ∈ lS∧ndAt lS n.slot = some n:=(by
   have:∀ m,m ∈ z2n lS (lS[0]'(by decide)) 0->m = lS[1]'(by decide)∨m = lS[2]'(by decide):=by
    have e:z2n lS (lS[0]'(by decide)) 0 = [lS[1]'(by decide),lS[2]'(by decide)]:=rfl
    rw [e]
    intro m hm
    rcases List.mem_cons.1 hm with e | hm
    ·exact .inl e
    ·exact .inr (List.mem_singleton.1 hm)
   rcases this n hn with rfl | rfl
   ·exact ⟨by simp [lS],rfl⟩
   ·exact ⟨by simp [lS],rfl⟩)
  have hl:=lS_lt n hx.1
  have hs:=z0v W.ord hx.2
  have:=W.few
  exact ⟨hx.2,by omega,hl.high⟩) cc
 rw [lS_level] at c3
 simp only [lS,Nd.a,Par.a,List.map_cons,List.map_nil] at c1 c3
 (repeat (first | simp (maxSteps:=9^7) only [go_sem,↓reduceIte,reduceCtorEq,Nat.reduceEqDiff,Nat.reduceBEq,Nat.reduceAdd,Nat.reduceSub,Nat.reduceMul,Nat.reduceLT,Nat.reduceLeDiff,Nat.reduceBNe,Int.reduceBEq,Int.reduceBNe,Int.reduceLT,Int.reduceLE,Nd.a,Msg.a,Par.a] | refine z01 (c1) ?_ | refine z00 (c1) ?_ | refine z01 (c2) ?_ | refine z00 (c2) ?_ | refine z01 (c3) ?_ | refine z00 (c3) ?_ | refine And.intro (by omega) ?_ | refine And.intro (fun d hd=>by (repeat (rcases hd with rfl | hd; · exact ⟨rfl,rfl⟩)); cases hd) ?_))
theorem trees_walk (c:Array Value) (v1:Value) (p:Int) (w:World) (hG:Glob w) (f0:∃ ds,z3b w CfgT c.toList ds) (f1:∃ ds,z3b w (.sl NdT) [v1] ds) (f2:-9223372036854775808≤p∧p≤9223372036854775807) :
  Calls Tryd.prog 4 #[.agg c,v1,.int .i64 p] w fun e w'=>e = .returned (.bool true)∧Below w.heap.size w w' :=
 zvs awake58_am (fun l S W h1 h2=>zw0 l S W h1 h2) (fun l level S r W hr=>y9e l (W.lvl hr) level r hr) c v1 p w hG f0 f1 f2
end
section
namespace shapeTrees
open Go.ChangeShapes Go.WideShapes Go.ChangeAt Go.RowKit
open Go.ChangeMaps (open_string shut_string)
set_option maxRecDepth 100000 in
theorem lifted (os:Os) (started:os.Started) (H:Type) (enc:TypeId × Value->H) :
  ReturnsInHanded {} Tryd.checked os 4 .any (fun w args=>(Rows.shapeTreesSpec.pre enc Tryd.prog Tryd.f4 [] false w args∧laidMetH Tryd.prog Rows.shapeTreesRow.laid w)∧sizedMet enc Tryd.prog Tryd.f4 (OpenSpec.ofChange Rows.shapeTreesSpec) false w args) (Rows.shapeTreesSpec.post enc Tryd.prog Tryd.f4 false true false false):=by
 refine returnsInHanded_of_row (C:=Tryd.checked) (s:=OpenSpec.ofChange Rows.shapeTreesSpec) (F:=fun _ _ _=>0) ownK started (by kernel_rfl) Tryd.func4
  (ChangeSpec.witness_shaped (enc:=enc) (C:=Tryd.checked) (os:=os) (X:=fun w _=>laidMetH Tryd.prog Rows.shapeTreesRow.laid w) false (World.laidAll Tryd.prog os Rows.shapeTreesRow.laid) #[.agg #[.int .i64 0,.int .i64 0,.int .i64 0,.int .i64 0,.int .i64 0],.slice none 0 0,.int .i64 0] 8 (World.laidAll_os _ _ _)
   (World.shaped_of_ZipB (by kernel_rfl) (by kernel_rfl)) (by kernel_rfl) (by kernel_rfl) (by kernel_rfl)
   (by rw [MakeChecks.laidMetH_plain _ _ _ (by kernel_rfl)]; exact laidMet_laidAll _ (by kernel_rfl) (by kernel_rfl))) ?_
 intro W base args ds gs before hval0 hW hcnd hk hsz hL hsh _
 have hval:∀ (j:Nat) t v,Tryd.f4.params[j]? = some t->args[j]? = some v->Value.okWide Tryd.prog W .any base t v:=hval0
 have hW':=hW
 obtain ⟨p,q,hA0,hV,rfl,hfz,hnd⟩:=hW
 have hA:DataW.TrodAll enc Tryd.prog W 0 (fun _=>true) true Tryd.f4.params.toList args.toList ds p:=hA0
 rw [Tryd.params4] at hA hval
 obtain ⟨v0,vs0,d0,ds0,p0,q0,hargs,rfl,rfl,h0,r0⟩:=trodAll_cons hA
 obtain ⟨v1,vs1,d1,ds1,p1,q1,rfl,rfl,rfl,h1,r1⟩:=trodAll_cons r0
 obtain ⟨v2,vs2,d2,ds2,p2,q2,rfl,rfl,rfl,h2,r2⟩:=trodAll_cons r1
 obtain ⟨rfl,rfl,rfl⟩:=trodAll_nil r2
 obtain rfl:args = #[v0,v1,v2]:=by cases args; simp_all
 obtain ⟨rfl,rfl⟩:=trodVars_none hV
 have hw0:(d0.weights Tryd.prog 37).all (·≤reachBytes) = true:=z3o hsz 0 37 d0 rfl rfl
 obtain ⟨c0,rfl,hc0⟩:=okWide_struct Tryd.underlying37 (hval 0 37 v0 rfl rfl)
 obtain ⟨fu0,ht0⟩:=h0
 have f0:∃ ds,z3b W (CfgT) c0.toList ds:=z95 8 (x:=(d0,p0)) (by kernel_rfl) hw0 ht0
 have hw1:(d1.weights Tryd.prog 31).all (·≤reachBytes) = true:=z3o hsz 1 31 d1 rfl rfl
 obtain ⟨s1,n1,c1,rfl⟩:=okWide_slice Tryd.underlying31 (hval 1 31 v1 rfl rfl)
 obtain ⟨fu1,ht1⟩:=h1
 have f1:∃ ds,z3b W (.sl NdT) [.slice s1 n1 c1] ds:=z95 8 (x:=(d1,p1)) (by kernel_rfl) hw1 ht1
 obtain ⟨a2,rfl,hd2,hp2,w2⟩:=open_int Tryd.underlying3 (hval 2 3 v2 rfl rfl) h2
 have f2:=bounds_i64 w2
 have hL':=hL
 rw [MakeChecks.laidMetH_plain _ _ _ (by kernel_rfl)] at hL'
 have hL3:laidMet Tryd.prog (("internal/strconv.uint64pow10",Rows.laid_internal_strconv_uint64pow10) :: []) W:=(laidMet.tail (laidMet.tail hL'))
 rw [show (Rows.laid_internal_strconv_uint64pow10:DataW Unit) = Lib.tabData .u64 Lib.pow10Tab by kernel_rfl] at hL3
 have htab:zmy W:=Lib.tabIs_of_head (g:=1) (t:=136) (e:=109) (n:=20) (by kernel_rfl) (by kernel_rfl) Tryd.underlying136 Tryd.underlying109 (by kernel_rfl) (by kernel_rfl) hL3
 refine (trees_walk c0 _ a2 W (Glob.start hsh htab) f0 f1 f2).mono fun e W' ⟨he,hb⟩=>?_
 subst he
 exact ⟨_,rfl,post_law laidOut hW' rfl rfl rfl rfl rfl Tryd.underlying4 (by intro t ht; rw [Tryd.params4] at ht; simp only [List.mem_cons,List.not_mem_nil,or_false] at ht; rcases ht with rfl | rfl | rfl <;> exact ⟨by kernel_rfl,of_decide_eq_true (by kernel_rfl)⟩) hb⟩
theorem holds:Rows.ShapeTreesSaid :=
 OpenClaim.holds_of_wide 4 Tryd.f4 rfl rfl rfl rfl rfl rfl rfl ⟨rfl,rfl,rfl,rfl,rfl⟩ rfl rfl rfl rfl rfl (by kernel_rfl) Tryd.func4 (by kernel_rfl)
  (of_decide_eq_true (by kernel_rfl)) (by unfold Func.isWrapper; first | (rw [if_pos (by decide +kernel)]; kernel_rfl) | (rw [if_neg (by decide +kernel)]; exact ⟨rfl,rfl⟩))
  (fun os started H enc _=>lifted os started H enc)
theorem proved:Rows.ShapeTreesCardSaid :=
 Claim7.holds_tied_plain_at .later [] [.data,.data,.data] true (true, "65174b724838637a4395bffcbce5ba363d23968bee96d6c48148cbfbc31af104") false holds (fun _ h=>by cases h) (by kernel_rfl) (fun _ h=>by cases h) shapeTrees_row_tie rfl ⟨rfl,rfl⟩ (by kernel_rfl) rfl
  (fun f fn hf hfn=>by
   obtain rfl:f = 4:=Option.some.inj ((show Tryd.prog.funcNamed "percolate/percolatelaw58.ShapeTrees" = some 4 by kernel_rfl).symm.trans hf) |>.symm
   obtain rfl:fn = Tryd.f4:=(Option.some.inj (Tryd.func4.symm.trans hfn)).symm
   exact ⟨by kernel_rfl,fun j t ht=>by
    rw [Tryd.params4] at ht
    have hm:t ∈ [37,31,3]:=by simpa using Array.mem_of_getElem? ht
    have hall:([37,31,3].all fun u=>!Tryd.prog.wantsStandIn u) = true:=by kernel_rfl
    exact (show Tryd.prog.wantsStandIn t = false by simpa using List.all_eq_true.1 hall t hm)⟩)
  (by kernel_rfl)
end shapeTrees
end
end Go.Proofs.YtkfciapeikkmfaaDoor
