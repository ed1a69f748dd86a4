/-
  Part 7 of a proof: AmR, Glue, KeyPure.
-/
import Derived.SizedLaws
import Derived.OpenShut
import GoSem.Op.String
import Derived.Test.YtkfciapeikkmfaaDoorST6
set_option linter.unusedVariables false
set_option linter.unusedSimpArgs false
section
namespace Go.Proofs.YtkfciapeikkmfaaDoor
abbrev EqR (r:Reg) (l:List ROp) (k:List Nat):Prop:=∀ (C:FuncId->List AV->AV->Prop) (σ:St) (K:St->Prop),z0m C r σ K = z0d C l (σ.kills k) K
theorem ev0 :
 (∀ (C:FuncId->List AV->AV->Prop) (Q:XK->St->Prop) (σ:St),run C .skip Q σ = Q .normal σ) ∧
 (∀ (C:FuncId->List AV->AV->Prop) (g:Reg) (Q:XK->St->Prop) (σ:St),run C (.reg g) Q σ = z0m C g σ (Q .normal)) ∧
 (∀ (C:FuncId->List AV->AV->Prop) (x y:IR) (Q:XK->St->Prop) (σ:St),run C (.seq x y) Q σ = run C x (z30 (run C y Q) Q) σ) ∧
 (∀ (C:FuncId->List AV->AV->Prop) (c:IOpd) (x y:IR) (Q:XK->St->Prop) (σ:St),run C (.cond c x y) Q σ = ((σ.get c).isB = true∧if (σ.get c).bv = true then run C x Q σ else run C y Q σ)) ∧
 (∀ (C:FuncId->List AV->AV->Prop) (id:Nat) (b:IR) (Q:XK->St->Prop) (σ:St),run C (.block id b) Q σ = run C b (z5f id Q) σ) ∧
 (∀ (C:FuncId->List AV->AV->Prop) (b:IR) (Q:XK->St->Prop) (σ:St),run C (.loop b) Q σ = awp C (.loop b) Q σ) ∧
 (∀ (C:FuncId->List AV->AV->Prop) (id:Nat) (Q:XK->St->Prop) (σ:St),run C (.exit id) Q σ = Q (.exit id) σ) ∧
 (∀ (C:FuncId->List AV->AV->Prop) (Q:XK->St->Prop) (σ:St),run C .ret Q σ = Q .ret σ) ∧
 (∀ (C:FuncId->List AV->AV->Prop) (σ:St) (K:St->Prop),z0d C [] σ K = K σ) ∧
 (∀ (C:FuncId->List AV->AV->Prop) (io:IOp) (d:Nat) (hid wr:List Nat) (l:List ROp) (σ:St) (K:St->Prop),z0d C (⟨io,some d,none,hid,wr⟩ :: l) σ K = z1m C (z0d C l) K σ d hid io) ∧
 (∀ (C:FuncId->List AV->AV->Prop) (z:Nat) (p x:IOpd) (hid wr:List Nat) (l:List ROp) (σ:St) (K:St->Prop),z0d C (⟨.store z p x,none,none,hid,wr⟩ :: l) σ K = (stOk σ z (σ.get x) (σ.get p)∧z0d C l (stSt σ z (σ.get x) (σ.get p)) K)) ∧
 (∀ (C:FuncId->List AV->AV->Prop) (io:IOp) (d t:Nat) (w:Bool) (hid wr:List Nat) (l:List ROp) (σ:St) (K:St->Prop),z0d C (⟨io,some d,some (t,w),hid,wr⟩ :: l) σ K = (gB (σ.T t) = true∧if gIs w (σ.T t) = true then z1m C (z0d C l) K (σ.set t (.bool w)) d hid io else z0d C l ((if (σ.T t).isB then σ.set t (.bool (!w)) else σ).set d (.tup [])) K)) :=
 ⟨run_skip,run_reg,run_seq,run_cond,run_block,run_loop',run_exit,run_ret,runOps_nil,runOps_op,runOps_st,runOps_g⟩
theorem ev1 :
 (∀ (C:FuncId->List AV->AV->Prop) (F0:List Nat) (tl:List ROp) (σ:St) (K:St->Prop),z07 C F0 tl [] σ K = z0d C tl σ K) ∧
 (∀ (C:FuncId->List AV->AV->Prop) (F0:List Nat) (tl:List ROp) (io:IOp) (d:Nat) (hid wr:List Nat) (l:List ROp) (σ:St) (K:St->Prop),z07 C F0 tl (⟨io,some d,none,hid,wr⟩ :: l) σ K = z0h C F0 (z07 C F0 tl l) K σ d hid io) ∧
 (∀ (C:FuncId->List AV->AV->Prop) (F0:List Nat) (tl:List ROp) (io:IOp) (d t:Nat) (w:Bool) (hid wr:List Nat) (l:List ROp) (σ:St) (K:St->Prop),z07 C F0 tl (⟨io,some d,some (t,w),hid,wr⟩ :: l) σ K = (gB (σ.T t) = true∧if gIs w (σ.T t) = true then z0h C F0 (z07 C F0 tl l) K (σ.set t (.bool w)) d hid io else z07 C F0 tl l ((if (σ.T t).isB then σ.set t (.bool (!w)) else σ).set d (.tup [])) K)) ∧
 (∀ (C:FuncId->List AV->AV->Prop) (F0:List Nat) (tl:List ROp) (z:Nat) (p x:IOpd) (hid wr:List Nat) (l:List ROp) (σ:St) (K:St->Prop),z07 C F0 tl (⟨.store z p x,none,none,hid,wr⟩ :: l) σ K = (zhx F0 hid wr σ z (σ.get x) (σ.get p)∧z07 C F0 tl l (zhw σ z (σ.get x) (σ.get p)) K)) ∧
 (∀ (σ:St),σ.kills [] = σ) ∧
 (∀ (σ:St) (r:Nat) (l:List Nat),σ.kills (r :: l) = (σ.kill r).kills l) ∧
 (∀ (σ:St) (r t:Nat),(σ.kill r).T t = if (σ.T t).name = some r then zn8 σ (σ.T t) else σ.T t) ∧
 (∀ (σ:St) (r s:Nat),(σ.kill r).H s = if s = r then none else σ.H s) ∧
 (∀ (σ:St),σ.fzs [] = σ) ∧
 (∀ (σ:St) (r:Nat) (l:List Nat),σ.fzs (r :: l) = (σ.fz r).fzs l) ∧
 (∀ (σ:St) (r t:Nat),(σ.fz r).T t = σ.T t) ∧
 (∀ (σ:St) (r s:Nat),(σ.fz r).H s = if s = r then (σ.H r).map Arr.freeze else σ.H s) :=
 ⟨y33,runHead_op,runHead_g,runHead_st,kills_nil,kills_cons,kill_T,kill_H,fzs_nil,fzs_cons,fz_T',fz_H'⟩
theorem ev2 :
 (∀ (σ:St) (t:Nat),σ.get (.t t) = σ.T t) ∧
 (∀ (σ:St) (v:AV),σ.get (.c v) = v) ∧
 (∀ (σ:St) (t s:Nat) (v:AV) (o:Option Arr),(σ.made t v o).T s = if s = t then v else σ.T s) ∧
 (∀ (σ:St) (t s:Nat) (v:AV),(σ.made t v none).H s = σ.H s) ∧
 (∀ (σ:St) (t s:Nat) (v:AV) (arr:Arr),(σ.made t v (some arr)).H s = if s = t then some arr else σ.H s) ∧
 (∀ (σ:St) (t s:Nat) (v:AV),(σ.set t v).T s = if s = t then v else σ.T s) ∧
 (∀ (σ:St) (t:Nat) (v:AV),(σ.set t v).H = σ.H) ∧
 (∀ (T:Nat->AV) (r t:Nat),z99 T r t = if (T t).name = some r then .und else T t) ∧
 (∀ (args:List AV) (t:Nat),(z0a args).T t = args.getD t .und) ∧
 (∀ (args:List AV) (t:Nat),(z0a args).H t = none) ∧
 (∀ (K:St->Prop) (Q:XK->St->Prop) (σ:St),z30 K Q .normal σ = K σ) ∧
 (∀ (K:St->Prop) (Q:XK->St->Prop) (σ:St),z30 K Q .ret σ = Q .ret σ) :=
 ⟨get_t,get_c,made_T,y3o,y3n,set_T,set_H,sweep_at,init_T,init_H,zvv,thenQ_ret⟩
theorem ev3 :
 (∀ (K:St->Prop) (Q:XK->St->Prop) (i:Nat) (σ:St),z30 K Q (.exit i) σ = Q (.exit i) σ) ∧
 (∀ (i:Nat) (Q:XK->St->Prop) (σ:St),z5f i Q .normal σ = Q .normal σ) ∧
 (∀ (i:Nat) (Q:XK->St->Prop) (σ:St),z5f i Q .ret σ = Q .ret σ) ∧
 (∀ (i j:Nat) (Q:XK->St->Prop) (σ:St),z5f i Q (.exit j) σ = if j = i then Q .normal σ else Q (.exit j) σ) ∧
 (∀ (ds:List RDesc) (r:AV) (σ:St),endQ ds r .ret σ = retV ds r σ) ∧
 (∀ (ds:List RDesc) (r:AV) (σ:St),endQ ds r .normal σ = retV ds r σ) ∧
 (∀ (hid:List Nat) (r i f:Nat),z16 hid (.ptr r i f) = !hid.contains r) ∧
 (∀ (hid:List Nat) (r i f:Nat),z16 hid (.rs r i f) = !hid.contains r) ∧
 (∀ (z ty:Nat) (l:List AV) (p:Nat),Arr.freeze ⟨z,ty,l,p⟩ = ⟨z,ty,l,l.length⟩) ∧
 (∀ (σ:St) (z ty bytes:Nat) (v:AV) (r off len:Nat),apOk σ z ty bytes v (.rs r off len) = (byOk [] σ v∧(z1c σ v).isSl = true∧(σ.H r).isSome = true∧objZ (σ.H r) = z∧z9l (σ.H r) = ty∧z1b ((σ.fzs (byFz v)).H r)≤off + len∧y3v (len + (slOf (z1c σ v)).length) bytes∧r < 1000∧∀ d,d ∈ slOf (z1c σ v)->d.cells.length = z∧d.cells.all AV.one = true)) :=
 ⟨thenQ_exit,zvm,blockQ_ret,y66,endQ_ret,y3z,y3i,nameOk_rs',freeze_mk,apOk_rs⟩
theorem ev4 :
 (∀ (C:FuncId->List AV->AV->Prop) (P:Program) (l:List XOp) (Q:XK->St->Prop) (σ:St),run C (.regx P l) Q σ = z0t P C l σ (Q .normal)) ∧
 (∀ (P:Program) (C:FuncId->List AV->AV->Prop) (σ:St) (K:St->Prop),z0t P C [] σ K = K σ) ∧
 (∀ (P:Program) (C:FuncId->List AV->AV->Prop) (k:List Nat) (r:ROp) (l:List XOp) (σ:St) (K:St->Prop),z0t P C (.op k r :: l) σ K = z0d C [r] (σ.kills k) fun σ'=>z0t P C l σ' K) ∧
 (∀ (P:Program) (C:FuncId->List AV->AV->Prop) (d:Nat) (x:IOpd) (l:List XOp) (σ:St) (K:St->Prop),z0t P C (.nilck d x none :: l) σ K = (ckOk σ (σ.get x)∧z0t P C l (σ.set d (σ.get x)) K)) ∧
 (∀ (P:Program) (C:FuncId->List AV->AV->Prop) (d:Nat) (x:IOpd) (t:Nat) (w:Bool) (l:List XOp) (σ:St) (K:St->Prop),z0t P C (.nilck d x (some (t,w)) :: l) σ K = (gB (σ.T t) = true∧if gIs w (σ.T t) = true then ckOk (σ.set t (.bool w)) ((σ.set t (.bool w)).get x)∧z0t P C l ((σ.set t (.bool w)).set d ((σ.set t (.bool w)).get x)) K else z0t P C l ((if (σ.T t).isB then σ.set t (.bool (!w)) else σ).set d (.tup [])) K)) ∧
 (∀ (P:Program) (C:FuncId->List AV->AV->Prop) (d:Nat) (f:FuncId) (x:IOpd) (l:List XOp) (σ:St) (K:St->Prop),z0t P C (.mkclo d f x :: l) σ K = (cloOk σ (σ.get x)∧z0t P C l (σ.set d (.clom f (ptrAt (σ.get x)))) K)) ∧
 (∀ (P:Program) (C:FuncId->List AV->AV->Prop) (d:Nat) (fx:IOpd) (xs:List IOpd) (l:List XOp) (σ:St) (K:St->Prop),z0t P C (.mcall d fx xs :: l) σ K = (mOks σ (xs.map σ.get)∧z9o (σ.fzs (mFzs (xs.map σ.get))) (σ.get fx)∧zfm P (mFn (σ.get fx)) (zvc (zvb σ (xs.map σ.get)) (σ.get fx)) σ.T (σ.fzs (mFzs (xs.map σ.get))).H d (z0t P C l) K)) ∧
 (∀ (hid:List Nat) (f:FuncId) (r:Nat),z16 hid (.clom f r) = !hid.contains r) ∧
 (∀ (args:List AV) (H:Nat->Option Arr) (t:Nat),(initM args H).T t = sh (args.getD t .und)) ∧
 (∀ (args:List AV) (H:Nat->Option Arr),(initM args H).H = shH H) ∧
 (∀ (H:Nat->Option Arr) (r:Nat),shH H (r + 1000) = H r) ∧
 (∀ (ds:List RDesc) (r:AV) (H':Nat->Option Arr) (σ:St),endM ds r H' .ret σ = retM ds r H' σ) ∧
 (∀ (ds:List RDesc) (r:AV) (H':Nat->Option Arr) (σ:St),endM ds r H' .normal σ = retM ds r H' σ) ∧
 (∀ (f:FuncId) (r:Nat),(AV.clom f r).name = some r) ∧
 (∀ (f:FuncId) (r:Nat),(AV.clom f r).isC = false) :=
 ⟨run_regx,runXs_nil,runXs_op,y2w,zw4,y2z,y30,y3j,initM_T,initM_H,shH_big,endM_ret,y40,fun _ _=>rfl,fun _ _=>rfl⟩
theorem evA :
 (∀ (k:IntKind) (n:Int),(AV.int k n).isI = true) ∧
 (∀ (k:IntKind) (n:Int),(AV.int k n).isB = false) ∧
 (∀ (k:IntKind) (n:Int),(AV.int k n).isS = false) ∧
 (∀ (k:IntKind) (n:Int),(AV.int k n).isA = false) ∧
 (∀ (k:IntKind) (n:Int),(AV.int k n).isTu = false) ∧
 (∀ (k:IntKind) (n:Int),(AV.int k n).isC = false) ∧
 (∀ (b:Bool),(AV.bool b).isI = false) ∧
 (∀ (b:Bool),(AV.bool b).isB = true) ∧
 (∀ (b:Bool),(AV.bool b).isS = false) ∧
 (∀ (b:Bool),(AV.bool b).isA = false) ∧
 (∀ (b:Bool),(AV.bool b).isTu = false) ∧
 (∀ (b:Bool),(AV.bool b).isC = false) ∧
 (∀ (s:ByteArray),(AV.str s).isI = false) ∧
 (∀ (s:ByteArray),(AV.str s).isB = false) ∧
 (∀ (s:ByteArray),(AV.str s).isS = true) ∧
 (∀ (s:ByteArray),(AV.str s).isA = false) ∧
 (∀ (s:ByteArray),(AV.str s).isTu = false) ∧
 (∀ (s:ByteArray),(AV.str s).isC = false) ∧
 (∀ (l:List AV),(AV.agg l).isI = false) ∧
 (∀ (l:List AV),(AV.agg l).isB = false) ∧
 (∀ (l:List AV),(AV.agg l).isS = false) ∧
 (∀ (l:List AV),(AV.agg l).isA = true) ∧
 (∀ (l:List AV),(AV.agg l).isTu = false) ∧
 (∀ (l:List AV),(AV.agg l).isC = false) ∧
 (∀ (l:List AV),(AV.tup l).isI = false) ∧
 (∀ (l:List AV),(AV.tup l).isB = false) ∧
 (∀ (l:List AV),(AV.tup l).isS = false) ∧
 (∀ (l:List AV),(AV.tup l).isA = false) ∧
 (∀ (l:List AV),(AV.tup l).isTu = true) ∧
 (∀ (l:List AV),(AV.tup l).isC = false) ∧
 (∀ (f:FuncId) (x y:List AV),(AV.clo f x y).isI = false) ∧
 (∀ (f:FuncId) (x y:List AV),(AV.clo f x y).isB = false) ∧
 (∀ (f:FuncId) (x y:List AV),(AV.clo f x y).isS = false) ∧
 (∀ (f:FuncId) (x y:List AV),(AV.clo f x y).isA = false) ∧
 (∀ (f:FuncId) (x y:List AV),(AV.clo f x y).isTu = false) ∧
 (∀ (f:FuncId) (x y:List AV),(AV.clo f x y).isC = true) ∧
 (∀ (k:IntKind) (n:Int),(AV.int k n).iv = n) ∧
 (∀ (k:IntKind) (n:Int),(AV.int k n).ik = k) ∧
 (∀ b:Bool,(AV.bool b).bv = b) ∧
 (∀ s:ByteArray,(AV.str s).sv = s) ∧
 (∀ l:List AV,(AV.agg l).av = l) ∧
 (∀ l:List AV,(AV.tup l).tv = l) ∧
 (∀ (f:FuncId) (x y:List AV),(AV.clo f x y).cf = f) ∧
 (∀ (f:FuncId) (x y:List AV),(AV.clo f x y).c1 = x) ∧
 (∀ (f:FuncId) (x y:List AV),(AV.clo f x y).c2 = y) ∧
 (∀ l:List AV,(AV.agg l).cells = l) ∧
 (∀ (k:IntKind) (n:Int),(AV.int k n).cells = [.int k n]) ∧
 (∀ (k:IntKind) (n:Int),(AV.int k n).one = true) ∧
 (∀ (b:Bool),(AV.bool b).cells = [.bool b]) ∧
 (∀ (b:Bool),(AV.bool b).one = true) ∧
 (∀ (s:ByteArray),(AV.str s).cells = [.str s]) ∧
 (∀ (s:ByteArray),(AV.str s).one = true) ∧
 (∀ (l:List AV),(AV.sl l).cells = [.sl l]) ∧
 (∀ (l:List AV),(AV.sl l).one = true) ∧
 (∀ (l:List AV),(AV.rp l).cells = [.rp l]) ∧
 (∀ (l:List AV),(AV.rp l).one = true) ∧
 (∀ (f:FuncId) (x y:List AV),(AV.clo f x y).cells = [.clo f x y]) ∧
 (∀ (f:FuncId) (x y:List AV),(AV.clo f x y).one = true) ∧
 (∀ (v:Value),(AV.cst v).cells = [.cst v]) ∧
 (∀ (v:Value),(AV.cst v).one = true) ∧
 (AV.nilp.cells = [.nilp]) ∧
 (AV.nilp.one = true) ∧
 (∀ r i f:Nat,(AV.ptr r i f).name = some r) ∧
 (∀ r i f:Nat,(AV.rs r i f).name = some r) ∧
 (∀ (k:IntKind) (n:Int),(AV.int k n).name = none) ∧
 (∀ (b:Bool),(AV.bool b).name = none) ∧
 (∀ (s:ByteArray),(AV.str s).name = none) ∧
 (∀ (l:List AV),(AV.sl l).name = none) ∧
 (∀ (l:List AV),(AV.rp l).name = none) ∧
 (∀ (l:List AV),(AV.agg l).name = none) ∧
 (∀ (l:List AV),(AV.tup l).name = none) ∧
 (∀ (f:FuncId) (x y:List AV),(AV.clo f x y).name = none) ∧
 (∀ (v:Value),(AV.cst v).name = none) ∧
 (AV.und.name = none) ∧
 (AV.nilp.name = none):=by
 repeat' apply And.intro
 all_goals (intros; rfl)
theorem evM :
 (∀ (C:FuncId->List AV->AV->Prop) (P:Program) (g:Reg) (lt:List Nat) (mo ko vo:IOpd) (l:List XOp) (Q:XK->St->Prop) (σ:St),run C (.regm P g lt mo ko vo l) Q σ = zuz P C g lt mo ko vo l σ (Q .normal)) ∧
 (∀ σ:St,zf5 [] σ = True) ∧
 (∀ (t:Nat) (l:List Nat) (σ:St),zf5 (t :: l) σ = ((σ.T t).isMp = false∧zf5 l σ)) ∧
 (∀ (C:FuncId->List AV->AV->Prop) (P:Program) (g:Reg) (l:List XOp) (Q:XK->St->Prop) (σ:St),run C (.regd P g l) Q σ = zv0 P C g l σ (Q .normal)) ∧
 (∀ (P:Program) (C:FuncId->List AV->AV->Prop) (d:Nat) (ty:TypeId) (l:List XOp) (σ:St) (K:St->Prop),z0t P C (.mkmap d ty :: l) σ K = z0t P C l ((σ.kill d).made d (.mp d []) (some ⟨1,ty,[],0⟩)) K) ∧
 (∀ (P:Program) (C:FuncId->List AV->AV->Prop) (d:Nat) (ok:Bool) (m k:IOpd) (z:AV) (l:List XOp) (σ:St) (K:St->Prop),z0t P C (.mlook d ok m k z none :: l) σ K = (z0l σ (σ.get m)∧kI (σ.get k) = true∧z0t P C l (σ.set d (lkV ok z (lkp (ents (σ.get m)) (σ.get k).iv))) K)) ∧
 (∀ (P:Program) (C:FuncId->List AV->AV->Prop) (d:Nat) (ok:Bool) (m k:IOpd) (z:AV) (t:Nat) (w:Bool) (l:List XOp) (σ:St) (K:St->Prop),z0t P C (.mlook d ok m k z (some (t,w)) :: l) σ K = (gB (σ.T t) = true∧if gIs w (σ.T t) = true then z0l (σ.set t (.bool w)) ((σ.set t (.bool w)).get m)∧kI ((σ.set t (.bool w)).get k) = true∧z0t P C l ((σ.set t (.bool w)).set d (lkV ok z (lkp (ents ((σ.set t (.bool w)).get m)) ((σ.set t (.bool w)).get k).iv))) K else z0t P C l ((if (σ.T t).isB then σ.set t (.bool (!w)) else σ).set d (.tup [])) K)) ∧
 (∀ (P:Program) (C:FuncId->List AV->AV->Prop) (m k x:IOpd) (l:List XOp) (σ:St) (K:St->Prop),z0t P C (.mupd m k x :: l) σ K = (mpOk σ (σ.get m)∧kI (σ.get k) = true∧byOk [] σ (σ.get x)∧z0t P C l ⟨remT (mpR (σ.get m)) (upk (ents (σ.get m)) (σ.get k).iv (z1c σ (σ.get x))) σ.T,(σ.fzs (byFz (σ.get x))).H⟩ K)) ∧
 (∀ (hid:List Nat) (r:Nat) (es:List (Int × AV)),z16 hid (.mp r es) = !hid.contains r) ∧
 (∀ (r:Nat) (es:List (Int × AV)),(AV.mp r es).name = some r) ∧
 (∀ es:List (Int × AV),(AV.mv es).name = none) ∧
 (∀ es:List (Int × AV),(AV.mv es).cells = [.mv es]) ∧
 (∀ es:List (Int × AV),(AV.mv es).one = true) ∧
 (∀ (r:Nat) (es:List (Int × AV)) (T:Nat->AV) (t:Nat),remT r es T t = remp r es (T t)) ∧
 (∀ (r s:Nat) (es l:List (Int × AV)),remp r es (.mp s l) = if s = r then .mp r es else .mp s l) :=
 ⟨run_regm,noMps_nil,noMps_cons,run_regd,y2y,y2x,zw5,runXs_mupd,nameOk_mp,fun _ _=>rfl,fun _=>rfl,fun _=>rfl,fun _=>rfl,fun _ _ _ _=>rfl,fun _ _ _ _=>rfl⟩
theorem evP :
 (∀ (C:FuncId->List AV->AV->Prop) (P:Program) (g:Reg) (z s0 tp tv:Nat) (l:List XOp) (Q:XK->St->Prop) (σ:St),run C (.regp P g z s0 tp tv l) Q σ = y32 P C g z s0 tp tv l σ (Q .normal)) ∧
 (∀ (tp tv s0:Nat) (σ:St),stpSrc tp tv s0 σ = (isPtrR (σ.T tp) s0∧isRsR (σ.T tv) tv)) ∧
 (∀ (r i f s:Nat),isPtrR (.ptr r i f) s = (r = s)) ∧
 (∀ (r i f s:Nat),isRsR (.rs r i f) s = (r = s)) ∧
 (∀ (C:FuncId->List AV->AV->Prop) (l:List GIni) (Q:XK->St->Prop) (σ:St),run C (.gini l) Q σ = z9s l σ (Q .normal)) ∧
 (∀ (σ:St) (K:St->Prop),z9s [] σ K = K σ) ∧
 (∀ (r j q z:Nat) (ty:TypeId) (l:List GIni) (σ:St) (K:St->Prop),z9s (⟨r,j,q,z,ty⟩ :: l) σ K = (q < 1000∧0 < z∧z9s l ⟨upd (σ.kill q).T (vt r j) (.vrs q 0 0 (.slice none 0 0)),upd (σ.kill q).H q (some ⟨z,ty,[],0⟩)⟩ K)) ∧
 (∀ (C:FuncId->List AV->AV->Prop) (z:Nat) (p x:IOpd) (hid wr:List Nat) (l:List ROp) (σ:St) (K:St->Prop),z0d C (⟨.storep z p x,none,none,hid,wr⟩ :: l) σ K = (zn1 σ z (σ.get x) (σ.get p)∧ze0 fun u=>z0d C l (zf2 σ u (σ.get x) (σ.get p)) K)) ∧
 (∀ (r o:Nat),vt r o = 1000 + 100 * r + o) ∧
 (∀ (r off len:Nat) (u:Value),(AV.vrs r off len u).name = some r) ∧
 (∀ (hid:List Nat) (r off len:Nat) (u:Value),z16 hid (.vrs r off len u) = !hid.contains r) ∧
 (∀ (v:Value),(AV.cst v).cells = [.cst v]) ∧
 (∀ (v:Value),(AV.cst v).one = true) ∧
 (nilV (.slice none 0 0) = .sl []) ∧
 (∀ (r i f:Nat),pRt (.ptr r i f) = r) ∧
 (∀ (σ:St) (r i f:Nat),pOf σ (.ptr r i f) = i * objZ (σ.H r) + f) ∧
 (∀ (r i f:Nat),isPtr (.ptr r i f) = true) :=
 ⟨fun _ _ _ _ _ _ _ _ _ _=>rfl,fun _ _ _ _=>rfl,fun _ _ _ _=>rfl,fun _ _ _ _=>rfl,run_gini,giniV_nil,giniV_cons,runOps_stp,fun _ _=>rfl,fun _ _ _ _=>rfl,fun _ _ _ _ _=>rfl,fun _=>rfl,fun _=>rfl,rfl,fun _ _ _=>rfl,fun _ _ _ _=>rfl,fun _ _ _=>rfl⟩
theorem evCl :
 (∀ (C:FuncId->List AV->AV->Prop) (z:Nat) (x:IOpd) (d:AV) (hid wr:List Nat) (l:List ROp) (σ:St) (K:St->Prop),z0d C (⟨.copy z x (.c d),none,none,hid,wr⟩ :: l) σ K = (clOk σ z d (σ.get x)∧z0d C l (clSt σ d (σ.get x)) K)) ∧
 (∀ (σ:St) (z:Nat) (d:AV) (r off len:Nat),clOk σ z d (.rs r off len) = ((σ.H r).isSome = true∧objZ (σ.H r) = z∧z1b (σ.H r)≤off∧d.cells.length = z∧d.cells.all AV.one = true)) ∧
 (∀ (σ:St) (d:AV) (r off len:Nat),clSt σ d (.rs r off len) = ⟨σ.T,upd σ.H r (clArr d off len (σ.H r))⟩) ∧
 (∀ (d:AV) (off len z:Nat) (ty:TypeId) (l:List AV) (p:Nat),clArr d off len (some ⟨z,ty,l,p⟩) = some ⟨z,ty,l.take off ++ List.replicate len d ++ l.drop (off + len),p⟩) :=
 ⟨runOps_clr,fun _ _ _ _ _ _=>rfl,fun _ _ _ _ _=>rfl,fun _ _ _ _ _ _ _=>rfl⟩
end Go.Proofs.YtkfciapeikkmfaaDoor
end
section
namespace Go.Proofs.YtkfciapeikkmfaaDoor
open Go.ChangeShapes Go.WideShapes Go.ChangeAt Go.RowKit Go.Deep
inductive Ty where
 | int (k:IntKind)
 | str
 | bool
 | sl (e:Ty)
 | st (fs:List Ty)
def zlv (P:Program):List (Nat × TypeId)->Nat->Option Nat
 | [],o=>some o
 | (f,t) :: l,o=>if f = o then zlv P l (o + P.cellsOf t) else none
def y0p {α β:Type} (f:α->Option β):List α->Option (List β)
 | []=>some []
 | a :: l=>match f a,y0p f l with
  | some b,some r=>some (b :: r)
  | _,_=>none
def z2m (m z:Nat) (e:TypeId):Nat->List (Nat × TypeId)
 | 0=>[]
 | k + 1=>((m - (k + 1)) * z,e) :: z2m m z e k
def y5z (P:Program):Nat->TypeId->Option Ty
 | 0,_=>none
 | n + 1,t=>match P.underlying t with
  | some (.int k)=>some (.int k)
  | some .string=>some .str
  | some .bool=>some .bool
  | some (.slice e)=>if 1≤P.bytesOf e∧1≤P.cellsOf e then (y5z P n e).map .sl else none
  | some (.struct fs)=>if zlv P (fs.toList.map fun f=>(f.offset,f.type)) 0 = some (P.cellsOf t) then (y0p (y5z P n) (fs.toList.map (·.type))).map .st else none
  | some (.array m e)=>if zlv P (z2m m (P.cellsOf e) e m) 0 = some (P.cellsOf t) then (y0p (y5z P n) (List.replicate m e)).map .st else none
  | _=>none
def zn6:Ty->List AV->AV
 | .st _,cs=>.agg cs
 | _,cs=>cs.headD .und
inductive TypedC:Ty->List AV->Prop
 | int (k:IntKind) (n:Int) (h:(Lit.int k n).wf = true):TypedC (.int k) [.int k n]
 | str (s:ByteArray) (h:s.size≤281474976710656):TypedC .str [.str s]
 | bool (b:Bool):TypedC .bool [.bool b]
 | sl (T:Ty) (ls:List (List AV)) (hlen:ls.length≤281474976710656) (h:∀ c,c ∈ ls->TypedC T c):TypedC (.sl T) [.sl (ls.map (zn6 T))]
 | nil:TypedC (.st []) []
 | cons {T:Ty} {fs:List Ty} {c r:List AV} (h:TypedC T c) (hr:TypedC (.st fs) r):TypedC (.st (T :: fs)) (c ++ r)
theorem zla {T:Ty} {c:List AV} (h:TypedC T c):(zn6 T c).cells = c:=by
 cases h <;> rfl
theorem y0x {P:Program}:∀ {l:List (Nat × TypeId)} {o tot:Nat},zlv P l o = some tot->o≤tot
 | [],o,tot,h=>by cases h; exact Nat.le_refl _
 | (f,t) :: l,o,tot,h=>by
  rw [zlv] at h
  split at h
  ·have:=y0x h; omega
  ·cases h
section
variable {H:Type} {enc:TypeId × Value->H} {P:Program} {w:World} {sp:Nat->Bool} {held:Bool}
def z3b (w:World) (T:Ty) (cs:List Value) (ds:List AV):Prop :=
 TypedC T ds∧ds.length = cs.length∧∀ (j:Nat) (d:AV) (v:Value),ds[j]? = some d->cs[j]? = some v->VR (fun b _=>b < w.heap.size) w d v
theorem z7a {n m:Nat} (ih:∀ {t:TypeId} {T:Ty} {fuel:Nat} {cs:List Value} {x:DataW H × List MemPlace},y5z P n t = some T->(x.1.weights P t).all (·≤reachBytes) = true->DataW.trod enc P w 0 sp held fuel t cs = some x->∃ ds,z3b w T cs ds)
  {cs:List Value}:∀ (pl:List (Nat × TypeId)) (o:Nat) (Ts:List Ty) (xs:List (DataW H × List MemPlace)),zlv P pl o = some cs.length->y0p (y5z P n) (pl.map (·.2)) = some Ts->xs.length = pl.length ->
   (∀ (i:Nat) (f:Nat × TypeId),pl[i]? = some f->DataW.trod enc P w 0 sp held m f.2 ((cs.drop f.1).take (P.cellsOf f.2)) = xs[i]?) ->
   (DataW.weightsEach P (pl.map (·.2)) (xs.map (·.1))).all (·≤reachBytes) = true->∃ ds,z3b w (.st Ts) (cs.drop o) ds
 | [],o,Ts,xs,hl,ho,hx,ht,hw=>by
  cases hl; cases ho
  exact ⟨[],.nil,by simp,fun j d v h=>by simp at h⟩
 | (f,t) :: pl,o,Ts,xs,hl,ho,hx,ht,hw=>by
  rw [zlv] at hl
  split at hl
  case isFalse=>cases hl
  rename_i hf
  subst hf
  rw [List.map_cons,y0p] at ho
  split at ho
  case h_2=>cases ho
  rename_i T Ts' h1 h2
  cases ho
  cases xs with
  | nil=>simp at hx
  | cons x xs =>
   rw [List.map_cons,List.map_cons,DataW.weightsEach,List.all_append,Bool.and_eq_true] at hw
   obtain ⟨d0,t0,l0,v0⟩:=ih h1 hw.1 (ht 0 _ rfl)
   obtain ⟨dr,tr,lr,vr⟩:=z7a ih pl (f + P.cellsOf t) Ts' xs hl h2 (by simpa using hx) (fun i g hg=>ht (i + 1) g (by simpa using hg)) hw.2
   have hle:=y0x hl
   have hz:d0.length = P.cellsOf t:=by
    rw [l0,List.length_take,List.length_drop]; show min (P.cellsOf t) (cs.length - f) = _; omega
   refine ⟨d0 ++ dr,.cons t0 tr,?_,fun j d v hd hv=>?_⟩
   ·rw [List.length_append,hz,lr,List.length_drop,List.length_drop]; omega
   ·rw [List.getElem?_drop] at hv
    rcases Nat.lt_or_ge j d0.length with hj | hj
    ·rw [List.getElem?_append_left hj] at hd
     refine v0 j d v hd ?_
     show (List.take (P.cellsOf t) (List.drop f cs))[j]? = _
     rw [List.getElem?_take,if_pos (by omega),List.getElem?_drop]
     exact hv
    ·rw [List.getElem?_append_right hj] at hd
     refine vr _ d v hd ?_
     rw [List.getElem?_drop,hz,show f + P.cellsOf t + (j - P.cellsOf t) = f + j by omega]
     exact hv
theorem zfn {e:TypeId}:∀ {m:Nat} {l:List (DataW H)},l.length = m->(DataW.weightsAll P e l).all (·≤reachBytes) = true->(DataW.weightsEach P (List.replicate m e) l).all (·≤reachBytes) = true
 | 0,[],_,_=>rfl
 | m + 1,x :: l,hl,h=>by
  simp only [DataW.weightsAll,List.all_append,Bool.and_eq_true] at h
  rw [List.replicate_succ,DataW.weightsEach,List.all_append,Bool.and_eq_true]
  exact ⟨h.1,zfn (by simpa using hl) h.2⟩
theorem y0o (m z:Nat) (e:TypeId):∀ (k i:Nat) (f:Nat × TypeId),k≤m->(z2m m z e k)[i]? = some f->i < k∧f = ((m - k + i) * z,e):=by
 intro k
 induction k with
 | zero=>intro i f _ h; simp [z2m] at h
 | succ k ih =>
  intro i f hk h
  cases i with
  | zero=>simp [z2m] at h; exact ⟨by omega,h.symm⟩
  | succ i =>
   obtain ⟨h1,rfl⟩:=ih i f (by omega) (by simpa [z2m] using h)
   exact ⟨by omega,by rw [show m - k + i = m - (k + 1) + (i + 1) by omega]⟩
theorem z95:∀ (n:Nat) {t:TypeId} {T:Ty} {fuel:Nat} {cs:List Value} {x:DataW H × List MemPlace},y5z P n t = some T->(x.1.weights P t).all (·≤reachBytes) = true->DataW.trod enc P w 0 sp held fuel t cs = some x->∃ ds,z3b w T cs ds
 | 0,t,T,fuel,cs,x,ht,hw,h=>by cases ht
 | n + 1,t,T,fuel,cs,x,ht,hw,h=>by
  rw [y5z] at ht
  split at ht
  ·rename_i k hu
   cases ht
   obtain ⟨m,rfl,rfl,hb⟩:=DataW.trod_int hu h
   exact ⟨[.int k m],.int k m hb,rfl,fun j d v hd hv=>by
    cases j with
    | zero=>cases hd; cases hv; exact .int _ _
    | succ j=>simp at hd⟩
  ·rename_i hu
   cases ht
   obtain ⟨s,rfl,rfl,hb⟩:=DataW.trod_string hu h
   exact ⟨[.str s],.str s (str_reach hw),rfl,fun j d v hd hv=>by
    cases j with
    | zero=>cases hd; cases hv; exact .str _
    | succ j=>simp at hd⟩
  ·rename_i hu
   cases ht
   obtain ⟨b,rfl,rfl⟩:=DataW.trod_bool hu h
   exact ⟨[.bool b],.bool b,rfl,fun j d v hd hv=>by
    cases j with
    | zero=>cases hd; cases hv; exact .bool _
    | succ j=>simp at hd⟩
  ·rename_i e hu
   split at ht
   case isFalse=>cases ht
   rename_i hz
   obtain ⟨Te,hTe,rfl⟩:=Option.map_eq_some_iff.1 ht
   rcases open_slice hu h with ⟨hv,_⟩ | ⟨a,len,cap,m,n',D,Pl,hv,_,hl,hm,hmm,hx,hi⟩
   ·subst hv
    refine ⟨[.sl []],.sl Te [] (by simp) (fun c hc=>by cases hc),rfl,fun j d v hd hv=>?_⟩
    cases j with
    | zero =>
     cases hd; cases hv
     exact .sl [] none 0 1 (fun _ _=>.bool false) (by simp) (by simp) (fun h=>by simp at h) (fun i d j c hi=>by simp at hi)
    | succ j=>simp at hd
   ·subst hv
    have hlm:len≤m:=by rw [hmm]; split <;> omega
    rw [hx] at hw
    simp only [DataW.weights,hu,List.all_cons,Bool.and_eq_true,decide_eq_true_eq,List.length_map,List.length_range,List.all_append] at hw
    have hlr:len≤reachBytes:=Nat.le_trans (Nat.le_trans (Nat.le_add_right len (m - len)) (Nat.le_mul_of_pos_right _ hz.1)) hw.1
    have hwi:∀ i,i < len->((D i).weights P e).all (·≤reachBytes) = true:=fun i hil=>zn0 hw.2.1 (List.mem_map.2 ⟨i,List.mem_range.2 hil,rfl⟩)
    have each:∀ i,i < len->∃ y:List Value × List AV,w.cells? 0 (a.add (i * P.cellsOf e)) (P.cellsOf e) = some y.1∧z3b w Te y.1 y.2:=fun i him=>by
     obtain ⟨cs',h1,h2⟩:=hi i (by omega)
     obtain ⟨ds,hd⟩:=z95 n hTe (hwi i him) h2
     exact ⟨(cs',ds),h1,hd⟩
    obtain ⟨S,hS⟩:=choose_lt each
    have hL:((List.range len).map fun i=>(S i).2).length = len:=by simp
    have hcell:∀ i,i < len->∀ (j:Nat) (u:Value),((S i).1)[j]? = some u->w.cell? (a.add (i * P.cellsOf e + j)) = some u:=by
     intro i hil j u hj
     obtain ⟨_,hlen,hat⟩:=World.cells?_some (hS i hil).1
     have hjl:j < P.cellsOf e:=by rw [← hlen]; exact (List.getElem?_eq_some_iff.1 hj).1
     rw [← Go.Deep.add_add,hat j hjl,hj]
    refine ⟨[.sl (((List.range len).map fun i=>(S i).2).map (zn6 Te))],.sl Te _ (by rw [hL]; exact Nat.le_trans hlr (by decide)) (fun c hc=>?_),rfl,fun j d v hd hv=>?_⟩
    ·obtain ⟨i,hir,rfl⟩:=List.mem_map.1 hc
     exact (hS i (List.mem_range.1 hir)).2.1
    ·cases j with
     | succ j=>simp at hd
     | zero =>
      cases hd; cases hv
      have hL2:(((List.range len).map fun i=>(S i).2).map (zn6 Te)).length = len:=by simp
      have hget:∀ (i:Nat) (d:AV),(((List.range len).map fun i=>(S i).2).map (zn6 Te))[i]? = some d->i < len∧d = zn6 Te (S i).2:=by
       intro i d hd
       rw [List.getElem?_map,List.getElem?_map] at hd
       by_cases hlt:i < len
       ·rw [List.getElem?_range hlt] at hd; simp at hd
        exact ⟨hlt,hd.symm⟩
       ·rw [List.getElem?_eq_none (by simp; omega)] at hd; cases hd
      have key:VR (fun b _=>b < w.heap.size) w (.sl (((List.range len).map fun i=>(S i).2).map (zn6 Te))) (.slice (some a) (((List.range len).map fun i=>(S i).2).map (zn6 Te)).length cap):=by
       refine .sl _ (some a) cap (P.cellsOf e) (fun i j=>((S i).1).getD j (.bool false)) (by rw [hL2]; omega) hm (fun h0=>?_) (fun i d j c hi hj=>?_)
       ·rw [hL2] at h0
        obtain ⟨ab,ao,asp⟩:=a
        obtain ⟨_,hlen,_⟩:=World.cells?_some (hS 0 h0).1
        have hu0:((S 0).1)[0]? = some (((S 0).1)[0]'(by omega)):=List.getElem?_eq_getElem _
        have hc0:=hcell 0 h0 0 _ hu0
        have e0:(⟨ab,ao,asp⟩:Addr).add (0 * P.cellsOf e + 0) = ⟨ab,ao,asp⟩:=by simp [Addr.add]
        rw [e0] at hc0
        have hsp:asp = none:=by
         cases asp with
         | none=>rfl
         | some k =>
          simp only [World.cell?] at hc0
          split at hc0
          ·simp at hc0
          ·cases hc0
        subst hsp
        have hlt:=block_lt_of_cell hc0
        refine ⟨ab,ao,rfl,hlt,fun d hd=>?_,fun i j hi hj=>⟨hlt,?_⟩⟩
        ·obtain ⟨c,hc,rfl⟩:=List.mem_map.1 hd
         obtain ⟨i,hir,rfl⟩:=List.mem_map.1 hc
         have h2:=(hS i (List.mem_range.1 hir)).2
         obtain ⟨_,hlen,_⟩:=World.cells?_some (hS i (List.mem_range.1 hir)).1
         rw [zla h2.1,h2.2.1,hlen]
        ·rw [hL2] at hi
         obtain ⟨_,hlen,_⟩:=World.cells?_some (hS i hi).1
         have hv:((S i).1)[j]? = some (((S i).1).getD j (.bool false)):=by
          rw [List.getD_eq_getElem?_getD,List.getElem?_eq_getElem (by omega)]; rfl
         have:=hcell i hi j _ hv
         have e:(⟨ab,ao,none⟩:Addr).add (i * P.cellsOf e + j) = ⟨ab,ao + (i * P.cellsOf e + j),none⟩:=by
          unfold Addr.add; split
          ·rename_i h; rw [h]; rfl
          ·rfl
         rwa [e] at this
       ·obtain ⟨hlt,rfl⟩:=hget i d hi
        obtain ⟨q1,q2,q3⟩:=(hS i hlt).2
        rw [zla q1] at hj
        have hjl:=(List.getElem?_eq_some_iff.1 hj).1
        refine q3 j c _ hj ?_
        rw [List.getD_eq_getElem?_getD,List.getElem?_eq_getElem (by omega)]; rfl
      rw [hL2] at key
      exact key
  ·rename_i fs hu
   split at ht
   case isFalse=>cases ht
   rename_i hoff
   obtain ⟨Ts,hTs,rfl⟩:=Option.map_eq_some_iff.1 ht
   obtain ⟨xs,m,_,rfl,hl,hxs,hf⟩:=DataW.trod_struct hu h
   simp only [DataW.weights,hu] at hw
   have:=z7a (n:=n) (m:=m) (fun h1 h2 h3=>z95 n h1 h2 h3) (cs:=cs) (fs.toList.map fun f=>(f.offset,f.type)) 0 Ts xs (by rw [hl]; exact hoff) (by rw [List.map_map]; exact hTs) (by simpa using hxs)
    (fun i f hfi=>by
     rw [List.getElem?_map,Option.map_eq_some_iff] at hfi
     obtain ⟨g,hg,rfl⟩:=hfi
     exact hf i g (by simpa using hg)) (by rw [List.map_map]; exact hw)
   simpa using this
  ·rename_i k e hu
   split at ht
   case isFalse=>cases ht
   rename_i hoff
   obtain ⟨Ts,hTs,rfl⟩:=Option.map_eq_some_iff.1 ht
   obtain ⟨xs,m,_,rfl,hl,hxs,hf⟩:=DataW.trod_array hu h
   simp only [DataW.weights,hu] at hw
   have hm:(z2m k (P.cellsOf e) e k).map (·.2) = List.replicate k e:=by
    have:∀ j,(z2m k (P.cellsOf e) e j).map (·.2) = List.replicate j e:=by
     intro j
     induction j with
     | zero=>rfl
     | succ j ih=>rw [z2m,List.map_cons,ih,List.replicate_succ]
    exact this k
   have hlen:(z2m k (P.cellsOf e) e k).length = k:=by
    have:=congrArg List.length hm
    simpa using this
   have:=z7a (n:=n) (m:=m) (fun h1 h2 h3=>z95 n h1 h2 h3) (cs:=cs) (z2m k (P.cellsOf e) e k) 0 Ts xs (by rw [hl]; exact hoff) (by rw [hm]; exact hTs) (by rw [hlen,hxs])
    (fun i f hfi=>by
     obtain ⟨h1,rfl⟩:=y0o _ _ _ _ _ _ (Nat.le_refl _) hfi
     rw [Nat.sub_self,Nat.zero_add]
     exact hf i h1) (by rw [hm]; exact zfn (by rw [List.length_map,hxs]) hw)
   simpa using this
  ·cases ht
end
end Go.Proofs.YtkfciapeikkmfaaDoor
end
section
namespace Go.Proofs.YtkfciapeikkmfaaDoor.kp
open Go.Op (bytesLess)
def common:List UInt8->List UInt8->Nat
 | a :: x,b :: y=>if a = b then common x y + 1 else 0
 | _,_=>0
theorem less_cons (a b:UInt8) (x y:List UInt8):bytesLess (a :: x) (b :: y) = (decide (a < b) || (a == b && bytesLess x y)):=rfl
theorem less_nil (x:List UInt8):bytesLess x [] = false:=by cases x <;> rfl
theorem nil_less (b:UInt8) (y:List UInt8):bytesLess [] (b :: y) = true:=rfl
theorem u8_lt_irrefl (a:UInt8):¬ a < a:=by simp
theorem y2m {a b:UInt8} (h1:¬ a < b) (h2:¬ b < a):a = b:=by
 apply UInt8.toNat.inj; simp [UInt8.lt_iff_toNat_lt] at h1 h2; omega
theorem u8_lt_trans {a b c:UInt8} (h1:a < b) (h2:b < c):a < c:=by simp [UInt8.lt_iff_toNat_lt] at *; omega
theorem less_irrefl:∀ x:List UInt8,bytesLess x x = false
 | []=>rfl
 | a :: x=>by simp [less_cons,less_irrefl x]
theorem less_total:∀ x y:List UInt8,bytesLess x y = false->bytesLess y x = false->x = y
 | [],[],_,_=>rfl
 | [],_ :: _,h,_=>by simp [nil_less] at h
 | _ :: _,[],_,h=>by simp [nil_less] at h
 | a :: x,b :: y,h1,h2=>by
  simp only [less_cons,Bool.or_eq_false_iff,decide_eq_false_iff_not,Bool.and_eq_false_iff] at h1 h2
  have e:=y2m h1.1 h2.1
  subst e
  simp at h1 h2
  rw [less_total x y h1 h2]
theorem less_asymm:∀ x y:List UInt8,bytesLess x y = true->bytesLess y x = false
 | _,[],h=>by simp [less_nil] at h
 | [],b :: y,_=>by simp [less_nil]
 | a :: x,b :: y,h=>by
  simp only [less_cons,Bool.or_eq_true,decide_eq_true_eq,Bool.and_eq_true,beq_iff_eq] at h
  simp only [less_cons,Bool.or_eq_false_iff,decide_eq_false_iff_not,Bool.and_eq_false_iff]
  rcases h with h | ⟨rfl,h⟩
  ·refine ⟨fun h'=>u8_lt_irrefl _ (u8_lt_trans h h'),.inl ?_⟩
   simp only [beq_eq_false_iff_ne]
   intro e; subst e; exact u8_lt_irrefl _ h
  ·exact ⟨u8_lt_irrefl _,.inr (less_asymm x y h)⟩
theorem less_trans:∀ x y z:List UInt8,bytesLess x y = true->bytesLess y z = true->bytesLess x z = true
 | _,[],_,h,_=>by simp [less_nil] at h
 | _,_ :: _,[],_,h=>by simp [less_nil] at h
 | [],_ :: _,_ :: _,_,_=>rfl
 | a :: x,b :: y,c :: z,h1,h2=>by
  simp only [less_cons,Bool.or_eq_true,decide_eq_true_eq,Bool.and_eq_true,beq_iff_eq] at *
  rcases h1 with h1 | ⟨rfl,h1⟩ <;> rcases h2 with h2 | ⟨rfl,h2⟩
  ·exact .inl (u8_lt_trans h1 h2)
  ·exact .inl h1
  ·exact .inl h2
  ·exact .inr ⟨rfl,less_trans x y z h1 h2⟩
end Go.Proofs.YtkfciapeikkmfaaDoor.kp
end
