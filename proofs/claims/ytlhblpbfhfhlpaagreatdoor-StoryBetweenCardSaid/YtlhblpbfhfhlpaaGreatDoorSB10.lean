/-
  Part 10 of a proof: AmR.
-/
import Derived.Test.YtlhblpbfhfhlpaaGreatDoorSB9
set_option linter.unusedVariables false
section
namespace Go.Proofs.YtlhblpbfhfhlpaaGreatDoor
abbrev EqR (r:Reg) (l:List ROp) (k:List Nat):Prop:=∀ (C:FuncId->List AV->AV->Prop) (σ:St) (K:St->Prop),z1d C r σ K = z0a C l (σ.kills k) K
theorem ev0 :
 (∀ (C:FuncId->List AV->AV->Prop) (Q:XK->St->Prop) (σ:St),run C .skip Q σ = Q .normal σ) ∧
 (∀ (C:FuncId->List AV->AV->Prop) (g:Reg) (Q:XK->St->Prop) (σ:St),run C (.reg g) Q σ = z1d C g σ (Q .normal)) ∧
 (∀ (C:FuncId->List AV->AV->Prop) (x y:IR) (Q:XK->St->Prop) (σ:St),run C (.seq x y) Q σ = run C x (z3j (run C y Q) Q) σ) ∧
 (∀ (C:FuncId->List AV->AV->Prop) (c:IOpd) (x y:IR) (Q:XK->St->Prop) (σ:St),run C (.cond c x y) Q σ = ((σ.get c).isB = true∧if (σ.get c).bv = true then run C x Q σ else run C y Q σ)) ∧
 (∀ (C:FuncId->List AV->AV->Prop) (id:Nat) (b:IR) (Q:XK->St->Prop) (σ:St),run C (.block id b) Q σ = run C b (z4g id Q) σ) ∧
 (∀ (C:FuncId->List AV->AV->Prop) (b:IR) (Q:XK->St->Prop) (σ:St),run C (.loop b) Q σ = awp C (.loop b) Q σ) ∧
 (∀ (C:FuncId->List AV->AV->Prop) (id:Nat) (Q:XK->St->Prop) (σ:St),run C (.exit id) Q σ = Q (.exit id) σ) ∧
 (∀ (C:FuncId->List AV->AV->Prop) (Q:XK->St->Prop) (σ:St),run C .ret Q σ = Q .ret σ) ∧
 (∀ (C:FuncId->List AV->AV->Prop) (σ:St) (K:St->Prop),z0a C [] σ K = K σ) ∧
 (∀ (C:FuncId->List AV->AV->Prop) (io:IOp) (d:Nat) (hid wr:List Nat) (l:List ROp) (σ:St) (K:St->Prop),z0a C (⟨io,some d,none,hid,wr⟩ :: l) σ K = z1y C (z0a C l) K σ d hid io) ∧
 (∀ (C:FuncId->List AV->AV->Prop) (z:Nat) (p x:IOpd) (hid wr:List Nat) (l:List ROp) (σ:St) (K:St->Prop),z0a C (⟨.store z p x,none,none,hid,wr⟩ :: l) σ K = (stOk σ z (σ.get x) (σ.get p)∧z0a C l (stSt σ z (σ.get x) (σ.get p)) K)) ∧
 (∀ (C:FuncId->List AV->AV->Prop) (io:IOp) (d t:Nat) (w:Bool) (hid wr:List Nat) (l:List ROp) (σ:St) (K:St->Prop),z0a C (⟨io,some d,some (t,w),hid,wr⟩ :: l) σ K = (gB (σ.T t) = true∧if gIs w (σ.T t) = true then z1y C (z0a C l) K (σ.set t (.bool w)) d hid io else z0a C l ((if (σ.T t).isB then σ.set t (.bool (!w)) else σ).set d (.tup [])) K)) :=
 ⟨run_skip,run_reg,run_seq,run_cond,run_block,run_loop',run_exit,run_ret,runOps_nil,runOps_op,runOps_st,runOps_g⟩
theorem ev1 :
 (∀ (C:FuncId->List AV->AV->Prop) (F0:List Nat) (tl:List ROp) (σ:St) (K:St->Prop),z07 C F0 tl [] σ K = z0a C tl σ K) ∧
 (∀ (C:FuncId->List AV->AV->Prop) (F0:List Nat) (tl:List ROp) (io:IOp) (d:Nat) (hid wr:List Nat) (l:List ROp) (σ:St) (K:St->Prop),z07 C F0 tl (⟨io,some d,none,hid,wr⟩ :: l) σ K = z0n C F0 (z07 C F0 tl l) K σ d hid io) ∧
 (∀ (C:FuncId->List AV->AV->Prop) (F0:List Nat) (tl:List ROp) (io:IOp) (d t:Nat) (w:Bool) (hid wr:List Nat) (l:List ROp) (σ:St) (K:St->Prop),z07 C F0 tl (⟨io,some d,some (t,w),hid,wr⟩ :: l) σ K = (gB (σ.T t) = true∧if gIs w (σ.T t) = true then z0n C F0 (z07 C F0 tl l) K (σ.set t (.bool w)) d hid io else z07 C F0 tl l ((if (σ.T t).isB then σ.set t (.bool (!w)) else σ).set d (.tup [])) K)) ∧
 (∀ (C:FuncId->List AV->AV->Prop) (F0:List Nat) (tl:List ROp) (z:Nat) (p x:IOpd) (hid wr:List Nat) (l:List ROp) (σ:St) (K:St->Prop),z07 C F0 tl (⟨.store z p x,none,none,hid,wr⟩ :: l) σ K = (zkh F0 hid wr σ z (σ.get x) (σ.get p)∧z07 C F0 tl l (zkg σ z (σ.get x) (σ.get p)) K)) ∧
 (∀ (σ:St),σ.kills [] = σ) ∧
 (∀ (σ:St) (r:Nat) (l:List Nat),σ.kills (r :: l) = (σ.kill r).kills l) ∧
 (∀ (σ:St) (r t:Nat),(σ.kill r).T t = if (σ.T t).name = some r then keepS σ (σ.T t) else σ.T t) ∧
 (∀ (σ:St) (r s:Nat),(σ.kill r).H s = if s = r then none else σ.H s) ∧
 (∀ (σ:St),σ.fzs [] = σ) ∧
 (∀ (σ:St) (r:Nat) (l:List Nat),σ.fzs (r :: l) = (σ.fz r).fzs l) ∧
 (∀ (σ:St) (r t:Nat),(σ.fz r).T t = σ.T t) ∧
 (∀ (σ:St) (r s:Nat),(σ.fz r).H s = if s = r then (σ.H r).map Arr.freeze else σ.H s) :=
 ⟨zkq,runHead_op,runHead_g,runHead_st,kills_nil,kills_cons,kill_T,kill_H,fzs_nil,fzs_cons,fz_T',fz_H'⟩
theorem ev2 :
 (∀ (σ:St) (t:Nat),σ.get (.t t) = σ.T t) ∧
 (∀ (σ:St) (v:AV),σ.get (.c v) = v) ∧
 (∀ (σ:St) (t s:Nat) (v:AV) (o:Option Arr),(σ.made t v o).T s = if s = t then v else σ.T s) ∧
 (∀ (σ:St) (t s:Nat) (v:AV),(σ.made t v none).H s = σ.H s) ∧
 (∀ (σ:St) (t s:Nat) (v:AV) (arr:Arr),(σ.made t v (some arr)).H s = if s = t then some arr else σ.H s) ∧
 (∀ (σ:St) (t s:Nat) (v:AV),(σ.set t v).T s = if s = t then v else σ.T s) ∧
 (∀ (σ:St) (t:Nat) (v:AV),(σ.set t v).H = σ.H) ∧
 (∀ (T:Nat->AV) (r t:Nat),z6e T r t = if (T t).name = some r then .und else T t) ∧
 (∀ (args:List AV) (t:Nat),(z0h args).T t = args.getD t .und) ∧
 (∀ (args:List AV) (t:Nat),(z0h args).H t = none) ∧
 (∀ (K:St->Prop) (Q:XK->St->Prop) (σ:St),z3j K Q .normal σ = K σ) ∧
 (∀ (K:St->Prop) (Q:XK->St->Prop) (σ:St),z3j K Q .ret σ = Q .ret σ) :=
 ⟨get_t,get_c,made_T,zla,zl9,set_T,set_H,sweep_at,init_T,init_H,zg5,thenQ_ret⟩
theorem ev3 :
 (∀ (K:St->Prop) (Q:XK->St->Prop) (i:Nat) (σ:St),z3j K Q (.exit i) σ = Q (.exit i) σ) ∧
 (∀ (i:Nat) (Q:XK->St->Prop) (σ:St),z4g i Q .normal σ = Q .normal σ) ∧
 (∀ (i:Nat) (Q:XK->St->Prop) (σ:St),z4g i Q .ret σ = Q .ret σ) ∧
 (∀ (i j:Nat) (Q:XK->St->Prop) (σ:St),z4g i Q (.exit j) σ = if j = i then Q .normal σ else Q (.exit j) σ) ∧
 (∀ (ds:List RDesc) (r:AV) (σ:St),endQ ds r .ret σ = retV ds r σ) ∧
 (∀ (ds:List RDesc) (r:AV) (σ:St),endQ ds r .normal σ = retV ds r σ) ∧
 (∀ (hid:List Nat) (r i f:Nat),z12 hid (.ptr r i f) = !hid.contains r) ∧
 (∀ (hid:List Nat) (r i f:Nat),z12 hid (.rs r i f) = !hid.contains r) ∧
 (∀ (z ty:Nat) (l:List AV) (p:Nat),Arr.freeze ⟨z,ty,l,p⟩ = ⟨z,ty,l,l.length⟩) ∧
 (∀ (σ:St) (z ty bytes:Nat) (v:AV) (r off len:Nat),apOk σ z ty bytes v (.rs r off len) = (byOk [] σ v∧(z1k σ v).isSl = true∧(σ.H r).isSome = true∧objZ (σ.H r) = z∧zht (σ.H r) = ty∧z1o ((σ.fzs (byFz v)).H r)≤off + len∧fitsV (len + (slOf (z1k σ v)).length) bytes∧r < 1000∧∀ d,d ∈ slOf (z1k σ v)->d.cells.length = z∧d.cells.all AV.one = true)) :=
 ⟨thenQ_exit,zfp,blockQ_ret,zmg,endQ_ret,zly,zl3,nameOk_rs',freeze_mk,apOk_rs⟩
theorem ev4 :
 (∀ (C:FuncId->List AV->AV->Prop) (P:Program) (l:List XOp) (Q:XK->St->Prop) (σ:St),run C (.regx P l) Q σ = z0q P C l σ (Q .normal)) ∧
 (∀ (P:Program) (C:FuncId->List AV->AV->Prop) (σ:St) (K:St->Prop),z0q P C [] σ K = K σ) ∧
 (∀ (P:Program) (C:FuncId->List AV->AV->Prop) (k:List Nat) (r:ROp) (l:List XOp) (σ:St) (K:St->Prop),z0q P C (.op k r :: l) σ K = z0a C [r] (σ.kills k) fun σ'=>z0q P C l σ' K) ∧
 (∀ (P:Program) (C:FuncId->List AV->AV->Prop) (d:Nat) (x:IOpd) (l:List XOp) (σ:St) (K:St->Prop),z0q P C (.nilck d x none :: l) σ K = (ckOk σ (σ.get x)∧z0q P C l (σ.set d (σ.get x)) K)) ∧
 (∀ (P:Program) (C:FuncId->List AV->AV->Prop) (d:Nat) (x:IOpd) (t:Nat) (w:Bool) (l:List XOp) (σ:St) (K:St->Prop),z0q P C (.nilck d x (some (t,w)) :: l) σ K = (gB (σ.T t) = true∧if gIs w (σ.T t) = true then ckOk (σ.set t (.bool w)) ((σ.set t (.bool w)).get x)∧z0q P C l ((σ.set t (.bool w)).set d ((σ.set t (.bool w)).get x)) K else z0q P C l ((if (σ.T t).isB then σ.set t (.bool (!w)) else σ).set d (.tup [])) K)) ∧
 (∀ (P:Program) (C:FuncId->List AV->AV->Prop) (d:Nat) (f:FuncId) (x:IOpd) (l:List XOp) (σ:St) (K:St->Prop),z0q P C (.mkclo d f x :: l) σ K = (cloOk σ (σ.get x)∧z0q P C l (σ.set d (.clom f (ptrAt (σ.get x)))) K)) ∧
 (∀ (P:Program) (C:FuncId->List AV->AV->Prop) (d:Nat) (fx:IOpd) (xs:List IOpd) (l:List XOp) (σ:St) (K:St->Prop),z0q P C (.mcall d fx xs :: l) σ K = (mOks σ (xs.map σ.get)∧zi2 (σ.fzs (mFzs (xs.map σ.get))) (σ.get fx)∧z8i P (mFn (σ.get fx)) (mArgs (zlb σ (xs.map σ.get)) (σ.get fx)) σ.T (σ.fzs (mFzs (xs.map σ.get))).H d (z0q P C l) K)) ∧
 (∀ (hid:List Nat) (f:FuncId) (r:Nat),z12 hid (.clom f r) = !hid.contains r) ∧
 (∀ (args:List AV) (H:Nat->Option Arr) (t:Nat),(initM args H).T t = sh (args.getD t .und)) ∧
 (∀ (args:List AV) (H:Nat->Option Arr),(initM args H).H = shH H) ∧
 (∀ (H:Nat->Option Arr) (r:Nat),shH H (r + 1000) = H r) ∧
 (∀ (ds:List RDesc) (r:AV) (H':Nat->Option Arr) (σ:St),endM ds r H' .ret σ = retM ds r H' σ) ∧
 (∀ (ds:List RDesc) (r:AV) (H':Nat->Option Arr) (σ:St),endM ds r H' .normal σ = retM ds r H' σ) ∧
 (∀ (f:FuncId) (r:Nat),(AV.clom f r).name = some r) ∧
 (∀ (f:FuncId) (r:Nat),(AV.clom f r).isC = false) :=
 ⟨run_regx,runXs_nil,runXs_op,zkj,zgf,zkm,zkn,zl5,initM_T,initM_H,shH_big,endM_ret,zlz,fun _ _=>rfl,fun _ _=>rfl⟩
theorem evA :
 (∀ (k:IntKind) (n:Int),(AV.int k n).isI = true) ∧
 (∀ (k:IntKind) (n:Int),(AV.int k n).isB = false) ∧
 (∀ (k:IntKind) (n:Int),(AV.int k n).isS = false) ∧
 (∀ (k:IntKind) (n:Int),(AV.int k n).isA = false) ∧
 (∀ (k:IntKind) (n:Int),(AV.int k n).isTu = false) ∧
 (∀ (k:IntKind) (n:Int),(AV.int k n).isC = false) ∧
 (∀ (b:Bool),(AV.bool b).isI = false) ∧
 (∀ (b:Bool),(AV.bool b).isB = true) ∧
 (∀ (b:Bool),(AV.bool b).isS = false) ∧
 (∀ (b:Bool),(AV.bool b).isA = false) ∧
 (∀ (b:Bool),(AV.bool b).isTu = false) ∧
 (∀ (b:Bool),(AV.bool b).isC = false) ∧
 (∀ (s:ByteArray),(AV.str s).isI = false) ∧
 (∀ (s:ByteArray),(AV.str s).isB = false) ∧
 (∀ (s:ByteArray),(AV.str s).isS = true) ∧
 (∀ (s:ByteArray),(AV.str s).isA = false) ∧
 (∀ (s:ByteArray),(AV.str s).isTu = false) ∧
 (∀ (s:ByteArray),(AV.str s).isC = false) ∧
 (∀ (l:List AV),(AV.agg l).isI = false) ∧
 (∀ (l:List AV),(AV.agg l).isB = false) ∧
 (∀ (l:List AV),(AV.agg l).isS = false) ∧
 (∀ (l:List AV),(AV.agg l).isA = true) ∧
 (∀ (l:List AV),(AV.agg l).isTu = false) ∧
 (∀ (l:List AV),(AV.agg l).isC = false) ∧
 (∀ (l:List AV),(AV.tup l).isI = false) ∧
 (∀ (l:List AV),(AV.tup l).isB = false) ∧
 (∀ (l:List AV),(AV.tup l).isS = false) ∧
 (∀ (l:List AV),(AV.tup l).isA = false) ∧
 (∀ (l:List AV),(AV.tup l).isTu = true) ∧
 (∀ (l:List AV),(AV.tup l).isC = false) ∧
 (∀ (f:FuncId) (x y:List AV),(AV.clo f x y).isI = false) ∧
 (∀ (f:FuncId) (x y:List AV),(AV.clo f x y).isB = false) ∧
 (∀ (f:FuncId) (x y:List AV),(AV.clo f x y).isS = false) ∧
 (∀ (f:FuncId) (x y:List AV),(AV.clo f x y).isA = false) ∧
 (∀ (f:FuncId) (x y:List AV),(AV.clo f x y).isTu = false) ∧
 (∀ (f:FuncId) (x y:List AV),(AV.clo f x y).isC = true) ∧
 (∀ (k:IntKind) (n:Int),(AV.int k n).iv = n) ∧
 (∀ (k:IntKind) (n:Int),(AV.int k n).ik = k) ∧
 (∀ b:Bool,(AV.bool b).bv = b) ∧
 (∀ s:ByteArray,(AV.str s).sv = s) ∧
 (∀ l:List AV,(AV.agg l).av = l) ∧
 (∀ l:List AV,(AV.tup l).tv = l) ∧
 (∀ (f:FuncId) (x y:List AV),(AV.clo f x y).cf = f) ∧
 (∀ (f:FuncId) (x y:List AV),(AV.clo f x y).c1 = x) ∧
 (∀ (f:FuncId) (x y:List AV),(AV.clo f x y).c2 = y) ∧
 (∀ l:List AV,(AV.agg l).cells = l) ∧
 (∀ (k:IntKind) (n:Int),(AV.int k n).cells = [.int k n]) ∧
 (∀ (k:IntKind) (n:Int),(AV.int k n).one = true) ∧
 (∀ (b:Bool),(AV.bool b).cells = [.bool b]) ∧
 (∀ (b:Bool),(AV.bool b).one = true) ∧
 (∀ (s:ByteArray),(AV.str s).cells = [.str s]) ∧
 (∀ (s:ByteArray),(AV.str s).one = true) ∧
 (∀ (l:List AV),(AV.sl l).cells = [.sl l]) ∧
 (∀ (l:List AV),(AV.sl l).one = true) ∧
 (∀ (l:List AV),(AV.rp l).cells = [.rp l]) ∧
 (∀ (l:List AV),(AV.rp l).one = true) ∧
 (∀ (f:FuncId) (x y:List AV),(AV.clo f x y).cells = [.clo f x y]) ∧
 (∀ (f:FuncId) (x y:List AV),(AV.clo f x y).one = true) ∧
 (∀ (v:Value),(AV.cst v).cells = [.cst v]) ∧
 (∀ (v:Value),(AV.cst v).one = true) ∧
 (AV.nilp.cells = [.nilp]) ∧
 (AV.nilp.one = true) ∧
 (∀ r i f:Nat,(AV.ptr r i f).name = some r) ∧
 (∀ r i f:Nat,(AV.rs r i f).name = some r) ∧
 (∀ (k:IntKind) (n:Int),(AV.int k n).name = none) ∧
 (∀ (b:Bool),(AV.bool b).name = none) ∧
 (∀ (s:ByteArray),(AV.str s).name = none) ∧
 (∀ (l:List AV),(AV.sl l).name = none) ∧
 (∀ (l:List AV),(AV.rp l).name = none) ∧
 (∀ (l:List AV),(AV.agg l).name = none) ∧
 (∀ (l:List AV),(AV.tup l).name = none) ∧
 (∀ (f:FuncId) (x y:List AV),(AV.clo f x y).name = none) ∧
 (∀ (v:Value),(AV.cst v).name = none) ∧
 (AV.und.name = none) ∧
 (AV.nilp.name = none):=by
 repeat' apply And.intro
 all_goals (intros; rfl)
theorem evM :
 (∀ (C:FuncId->List AV->AV->Prop) (P:Program) (g:Reg) (lt:List Nat) (mo ko vo:IOpd) (l:List XOp) (Q:XK->St->Prop) (σ:St),run C (.regm P g lt mo ko vo l) Q σ = zdt P C g lt mo ko vo l σ (Q .normal)) ∧
 (∀ σ:St,z83 [] σ = True) ∧
 (∀ (t:Nat) (l:List Nat) (σ:St),z83 (t :: l) σ = ((σ.T t).isMp = false∧z83 l σ)) ∧
 (∀ (C:FuncId->List AV->AV->Prop) (P:Program) (g:Reg) (l:List XOp) (Q:XK->St->Prop) (σ:St),run C (.regd P g l) Q σ = zdu P C g l σ (Q .normal)) ∧
 (∀ (P:Program) (C:FuncId->List AV->AV->Prop) (d:Nat) (ty:TypeId) (l:List XOp) (σ:St) (K:St->Prop),z0q P C (.mkmap d ty :: l) σ K = z0q P C l ((σ.kill d).made d (.mp d []) (some ⟨1,ty,[],0⟩)) K) ∧
 (∀ (P:Program) (C:FuncId->List AV->AV->Prop) (d:Nat) (ok:Bool) (m k:IOpd) (z:AV) (l:List XOp) (σ:St) (K:St->Prop),z0q P C (.mlook d ok m k z none :: l) σ K = (zb7 σ (σ.get m)∧kI (σ.get k) = true∧z0q P C l (σ.set d (lkV ok z (lkp (ents (σ.get m)) (σ.get k).iv))) K)) ∧
 (∀ (P:Program) (C:FuncId->List AV->AV->Prop) (d:Nat) (ok:Bool) (m k:IOpd) (z:AV) (t:Nat) (w:Bool) (l:List XOp) (σ:St) (K:St->Prop),z0q P C (.mlook d ok m k z (some (t,w)) :: l) σ K = (gB (σ.T t) = true∧if gIs w (σ.T t) = true then zb7 (σ.set t (.bool w)) ((σ.set t (.bool w)).get m)∧kI ((σ.set t (.bool w)).get k) = true∧z0q P C l ((σ.set t (.bool w)).set d (lkV ok z (lkp (ents ((σ.set t (.bool w)).get m)) ((σ.set t (.bool w)).get k).iv))) K else z0q P C l ((if (σ.T t).isB then σ.set t (.bool (!w)) else σ).set d (.tup [])) K)) ∧
 (∀ (P:Program) (C:FuncId->List AV->AV->Prop) (m k x:IOpd) (l:List XOp) (σ:St) (K:St->Prop),z0q P C (.mupd m k x :: l) σ K = (mpOk σ (σ.get m)∧kI (σ.get k) = true∧byOk [] σ (σ.get x)∧z0q P C l ⟨remT (mpR (σ.get m)) (upk (ents (σ.get m)) (σ.get k).iv (z1k σ (σ.get x))) σ.T,(σ.fzs (byFz (σ.get x))).H⟩ K)) ∧
 (∀ (hid:List Nat) (r:Nat) (es:List (Int × AV)),z12 hid (.mp r es) = !hid.contains r) ∧
 (∀ (r:Nat) (es:List (Int × AV)),(AV.mp r es).name = some r) ∧
 (∀ es:List (Int × AV),(AV.mv es).name = none) ∧
 (∀ es:List (Int × AV),(AV.mv es).cells = [.mv es]) ∧
 (∀ es:List (Int × AV),(AV.mv es).one = true) ∧
 (∀ (r:Nat) (es:List (Int × AV)) (T:Nat->AV) (t:Nat),remT r es T t = remp r es (T t)) ∧
 (∀ (r s:Nat) (es l:List (Int × AV)),remp r es (.mp s l) = if s = r then .mp r es else .mp s l) :=
 ⟨run_regm,noMps_nil,noMps_cons,run_regd,zkl,zkk,zgg,runXs_mupd,nameOk_mp,fun _ _=>rfl,fun _=>rfl,fun _=>rfl,fun _=>rfl,fun _ _ _ _=>rfl,fun _ _ _ _=>rfl⟩
theorem evP :
 (∀ (C:FuncId->List AV->AV->Prop) (P:Program) (g:Reg) (z s0 tp tv:Nat) (l:List XOp) (Q:XK->St->Prop) (σ:St),run C (.regp P g z s0 tp tv l) Q σ = zkp P C g z s0 tp tv l σ (Q .normal)) ∧
 (∀ (tp tv s0:Nat) (σ:St),stpSrc tp tv s0 σ = (isPtrR (σ.T tp) s0∧isRsR (σ.T tv) tv)) ∧
 (∀ (r i f s:Nat),isPtrR (.ptr r i f) s = (r = s)) ∧
 (∀ (r i f s:Nat),isRsR (.rs r i f) s = (r = s)) ∧
 (∀ (C:FuncId->List AV->AV->Prop) (l:List GIni) (Q:XK->St->Prop) (σ:St),run C (.gini l) Q σ = z6s l σ (Q .normal)) ∧
 (∀ (σ:St) (K:St->Prop),z6s [] σ K = K σ) ∧
 (∀ (r j q z:Nat) (ty:TypeId) (l:List GIni) (σ:St) (K:St->Prop),z6s (⟨r,j,q,z,ty⟩ :: l) σ K = (q < 1000∧0 < z∧z6s l ⟨upd (σ.kill q).T (vt r j) (.vrs q 0 0 (.slice none 0 0)),upd (σ.kill q).H q (some ⟨z,ty,[],0⟩)⟩ K)) ∧
 (∀ (C:FuncId->List AV->AV->Prop) (z:Nat) (p x:IOpd) (hid wr:List Nat) (l:List ROp) (σ:St) (K:St->Prop),z0a C (⟨.storep z p x,none,none,hid,wr⟩ :: l) σ K = (stpOk σ z (σ.get x) (σ.get p)∧z7r fun u=>z0a C l (zg7 σ u (σ.get x) (σ.get p)) K)) ∧
 (∀ (r o:Nat),vt r o = 1000 + 100 * r + o) ∧
 (∀ (r off len:Nat) (u:Value),(AV.vrs r off len u).name = some r) ∧
 (∀ (hid:List Nat) (r off len:Nat) (u:Value),z12 hid (.vrs r off len u) = !hid.contains r) ∧
 (∀ (v:Value),(AV.cst v).cells = [.cst v]) ∧
 (∀ (v:Value),(AV.cst v).one = true) ∧
 (nilV (.slice none 0 0) = .sl []) ∧
 (∀ (r i f:Nat),pRt (.ptr r i f) = r) ∧
 (∀ (σ:St) (r i f:Nat),pOf σ (.ptr r i f) = i * objZ (σ.H r) + f) ∧
 (∀ (r i f:Nat),isPtr (.ptr r i f) = true) :=
 ⟨fun _ _ _ _ _ _ _ _ _ _=>rfl,fun _ _ _ _=>rfl,fun _ _ _ _=>rfl,fun _ _ _ _=>rfl,run_gini,giniV_nil,giniV_cons,runOps_stp,fun _ _=>rfl,fun _ _ _ _=>rfl,fun _ _ _ _ _=>rfl,fun _=>rfl,fun _=>rfl,rfl,fun _ _ _=>rfl,fun _ _ _ _=>rfl,fun _ _ _=>rfl⟩
theorem evCl :
 (∀ (C:FuncId->List AV->AV->Prop) (z:Nat) (x:IOpd) (d:AV) (hid wr:List Nat) (l:List ROp) (σ:St) (K:St->Prop),z0a C (⟨.copy z x (.c d),none,none,hid,wr⟩ :: l) σ K = (clOk σ z d (σ.get x)∧z0a C l (clSt σ d (σ.get x)) K)) ∧
 (∀ (σ:St) (z:Nat) (d:AV) (r off len:Nat),clOk σ z d (.rs r off len) = ((σ.H r).isSome = true∧objZ (σ.H r) = z∧z1o (σ.H r)≤off∧d.cells.length = z∧d.cells.all AV.one = true)) ∧
 (∀ (σ:St) (d:AV) (r off len:Nat),clSt σ d (.rs r off len) = ⟨σ.T,upd σ.H r (clArr d off len (σ.H r))⟩) ∧
 (∀ (d:AV) (off len z:Nat) (ty:TypeId) (l:List AV) (p:Nat),clArr d off len (some ⟨z,ty,l,p⟩) = some ⟨z,ty,l.take off ++ List.replicate len d ++ l.drop (off + len),p⟩) :=
 ⟨runOps_clr,fun _ _ _ _ _ _=>rfl,fun _ _ _ _ _=>rfl,fun _ _ _ _ _ _ _=>rfl⟩
end Go.Proofs.YtlhblpbfhfhlpaaGreatDoor
end
