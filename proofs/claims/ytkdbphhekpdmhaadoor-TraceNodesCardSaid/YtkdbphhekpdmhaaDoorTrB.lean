/-
  Traces in plain terms, and latches, messages, pairs as lines: the code, walked.
-/
import Derived.Test.YtkdbphhekpdmhaaDoorNdA
import Derived.Test.YtkdbphhekpdmhaaDoorJoin
import Derived.Test.YtkdbphhekpdmhaaDoorPkJ
namespace Go.Proofs.YtkdbphhekpdmhaaDoor
open Go.RowKit
set_option linter.unusedVariables false
set_option linter.unusedSimpArgs false
set_option maxRecDepth 100000
attribute [local go_sem ↓] runOp headOp
attribute [local go_sem] ev0 ev1 ev2 ev3 ev4 evA stHOk.eq_1 stHOk.eq_2 stHSt.eq_1 stHSt.eq_2 okV valV fzV okF valF okBld valBld mxOk.eq_1 mxOk.eq_2 mxVal.eq_1 mxVal.eq_2 cellFit.eq_1 cellFit.eq_2 cellFit.eq_3 cellEq.eq_1 cellEq.eq_2 cellEq.eq_3 upd_at AV.flatB AV.flatBs binIok binIV binSok binSV cellsOk.eq_1 cellsOk.eq_2 cellsVal.eq_1 cellsVal.eq_2 objCells.eq_1 objCells.eq_2 objZ.eq_1 objZ.eq_2 objProt.eq_1 objProt.eq_2 oneObj ptrOk.eq_1 ptrOk.eq_2 ptrOk.eq_3 ptrCells.eq_1 ptrCells.eq_2 ptrCells.eq_3 lenOk.eq_1 lenOk.eq_2 lenOk.eq_3 lenOk.eq_4 lenVal.eq_1 lenVal.eq_2 lenVal.eq_3 lenVal.eq_4 faOk.eq_1 faOk.eq_2 faOk.eq_3 faVal.eq_1 faVal.eq_2 faVal.eq_3 iaOk.eq_1 iaOk.eq_2 iaOk.eq_3 iaVal.eq_1 iaVal.eq_2 iaVal.eq_3 slcLen.eq_1 slcLen.eq_2 slcLen.eq_3 slcLen.eq_4 bdOk.eq_1 bdOk.eq_2 bdVal.eq_1 bdVal.eq_2 slcOk.eq_1 slcOk.eq_2 slcOk.eq_3 slcOk.eq_4 slcVal.eq_1 slcVal.eq_2 slcVal.eq_3 slcVal.eq_4 slcFz.eq_1 slcFz.eq_2 byOk.eq_1 byOk.eq_2 byOk.eq_3 byOk.eq_4 byOk.eq_5 byOk.eq_6 byOk.eq_7 byVal.eq_1 byVal.eq_2 byVal.eq_3 byFz.eq_1 byFz.eq_2 byFz.eq_3 byOks byVals byFzs allOne resSt.eq_1 resSt.eq_2 resName.eq_1 resName.eq_2 stOk.eq_1 stOk.eq_2 stArr.eq_1 stArr.eq_2 stSt.eq_1 stSt.eq_2 AV.patch nameOk_none gB.eq_1 gB.eq_2 gB.eq_3 gIs.eq_1 gIs.eq_2 gIs.eq_3 retV resV resVs evalV cellsV St.byval List.getD_cons_zero List.getD_cons_succ List.getD_nil List.map_cons List.map_nil List.length_cons List.length_nil List.take_succ_cons List.take_zero List.drop_succ_cons List.drop_zero List.headD_cons List.set_cons_zero List.append_nil List.nil_append List.cons_append List.contains_cons List.contains_nil List.elem_cons List.elem_nil List.all_cons List.all_nil List.getElem?_cons_zero List.getElem?_cons_succ List.filterMap_cons List.filterMap_nil Option.isSome_some Option.isSome_none Option.map_some Option.map_none Option.some.injEq AV.int.injEq AV.bool.injEq AV.str.injEq AV.tup.injEq AV.agg.injEq AV.sl.injEq List.cons.injEq Bool.false_eq_true Bool.true_eq_false Bool.not_true Bool.not_false Bool.and_true Bool.true_and Bool.or_false Bool.or_true Bool.false_or Bool.true_or Bool.or_self Bool.and_self Bool.not_eq_true' Bool.not_eq_false' Bool.not_not beq_self_eq_true true_and and_true false_and and_false and_self not_true_eq_false not_false_eq_true forall_const true_implies false_implies implies_true imp_self Nat.lt_add_one Nat.le_refl Nat.zero_le Nat.add_zero Nat.zero_add decide_true decide_false decide_eq_true_eq decide_eq_false_iff_not exists_eq_left exists_eq_left' ge_iff_le gt_iff_lt ite_branch ite_branch' nilOk.eq_1 nilOk.eq_2 nilMay.eq_1 nilMay.eq_2 AV.isSl.eq_1 objTy'.eq_1 objTy'.eq_2 apSt.eq_1 apArr.eq_1 apArr.eq_2 slOf.eq_1 fitsV List.mem_cons List.not_mem_nil Bool.false_and Bool.and_false primOk.eq_1 primOk.eq_2 primOk.eq_3 primOk.eq_4 primOk.eq_5 primVal.eq_1 primVal.eq_2 primVal.eq_3 primVal.eq_4 primVal.eq_5 mOk.eq_1 mOk.eq_2 mVal.eq_1 mVal.eq_2 mFz.eq_1 mFz.eq_2 mOks mVals mFzs mCalOk.eq_1 mCalOk.eq_2 mFn.eq_1 mFn.eq_2 mArgs.eq_1 mArgs.eq_2 ckOk.eq_1 ckOk.eq_2 cloOk.eq_1 ptrAt.eq_1 sh.eq_1 sh.eq_2 sh.eq_3 sh.eq_4 sh.eq_5 retM shH_small
theorem ba_nil_l (a : ByteArray) : (⟨#[]⟩ : ByteArray) ++ a = a := by
  apply ba_ext
  simp only [ByteArray.data_append, Array.toList_append]
  rfl
/-- the texts of a list, one behind the other -/
def catF {α : Type} (f : α → ByteArray) : List α → ByteArray
  | [] => ⟨#[]⟩
  | x :: l => f x ++ catF f l
theorem catF_app {α : Type} (f : α → ByteArray) : ∀ a b : List α, catF f (a ++ b) = catF f a ++ catF f b
  | [], b => (ba_nil_l _).symm
  | x :: a, b => by
    show f x ++ catF f (a ++ b) = (f x ++ catF f a) ++ catF f b
    rw [catF_app f a b, ba_assoc]
theorem catF_one {α : Type} (f : α → ByteArray) (x : α) : catF f [x] = f x := ba_nil _
theorem catF_snoc {α : Type} (f : α → ByteArray) (l : List α) (x : α) : catF f (l ++ [x]) = catF f l ++ f x := by rw [catF_app, catF_one]
theorem catF_map {α β : Type} (f : β → ByteArray) (g : α → β) : ∀ l : List α, catF f (l.map g) = catF (fun x => f (g x)) l
  | [] => rfl
  | x :: l => by show f (g x) ++ _ = _; rw [catF_map f g l]; rfl
theorem catF_size {α : Type} (f : α → ByteArray) (n : Nat) : ∀ l : List α, (∀ x, x ∈ l → (f x).size ≤ n) → (catF f l).size ≤ l.length * n
  | [], _ => Nat.zero_le _
  | x :: l, h => by
    have a := catF_size f n l fun y hy => h y (List.mem_cons_of_mem _ hy)
    have b := h x (List.mem_cons_self ..)
    show (f x ++ catF f l).size ≤ _
    rw [ByteArray.size_append, List.length_cons, Nat.add_mul, Nat.one_mul]; omega
theorem catF_take_size {α : Type} (f : α → ByteArray) (n : Nat) (l : List α) (j : Nat) (h : ∀ x, x ∈ l → (f x).size ≤ n) : (catF f (l.take j)).size ≤ l.length * n := by
  have a := catF_size f n (l.take j) fun x hx => h x (List.mem_of_mem_take hx)
  have b : (l.take j).length * n ≤ l.length * n := Nat.mul_le_mul_right _ (by rw [List.length_take]; omega)
  omega
/-- joined texts are the first one, and each other with a blank ahead of it -/
theorem joinB_cat (x : ByteArray) (l : List ByteArray) (s : ByteArray) : joinB (x :: l) s = x ++ catF (fun y => s ++ y) l := by
  apply ba_ext
  show Lib.join ((x :: l).map (·.data.toList)) _ = _
  rw [List.map_cons, Lib.join_cons, ByteArray.data_append, Array.toList_append]
  congr 1
  induction l with
  | nil => rfl
  | cons y l ih =>
    show ((s.data.toList ++ y.data.toList) ++ Lib.joinTail s.data.toList (l.map (·.data.toList))) = ((s ++ y) ++ catF (fun y => s ++ y) l).data.toList
    rw [ih, ByteArray.data_append, Array.toList_append, ByteArray.data_append, Array.toList_append]
theorem decS_small (n : Int) (h0 : -9223372036854775808 ≤ n) (h1 : n ≤ 9223372036854775807) : (decS n).size ≤ 30 := by
  have := Lib.itoa_length_le n (by omega) (by omega)
  rw [decS_size]; omega
def Par.w (p : Par) : ByteArray := quoteF p.key ++ (⟨#[61]⟩ : ByteArray) ++ quoteF p.val
def pairsF (l : List Par) : ByteArray := decS l.length ++ catF (fun p => (⟨#[32]⟩ : ByteArray) ++ p.w) l
theorem pairs_join (l : List Par) : joinB (decS l.length :: l.map Par.w) (⟨#[32]⟩ : ByteArray) = pairsF l := by
  rw [joinB_cat, catF_map]; rfl
def Msg.word (m : Msg) : ByteArray := if m.kind = 1 then (⟨#[112, 117, 116]⟩ : ByteArray) else if m.kind = 2 then (⟨#[97, 100, 100]⟩ : ByteArray) else if m.kind = 3 then (⟨#[100, 101, 108]⟩ : ByteArray) else if m.kind = 4 then (⟨#[119, 105, 112, 101]⟩ : ByteArray) else (⟨#[107, 105, 110, 100]⟩ : ByteArray)
def Msg.rest (m : Msg) : List ByteArray := if m.kind = 1 ∨ m.kind = 2 then [quoteF m.val] else if m.kind = 4 then (if m.op then [(⟨#[42]⟩ : ByteArray)] else [quoteF m.hi]) else []
def Msg.line (m : Msg) : ByteArray := joinB ([decS m.stamp, m.word, quoteF m.key] ++ m.rest) (⟨#[32]⟩ : ByteArray)
def Hld.line (h : Hld) : ByteArray := joinB [decS h.thread, decS h.slot, if h.wr then (⟨#[119, 114, 105, 116, 101]⟩ : ByteArray) else (⟨#[114, 101, 97, 100]⟩ : ByteArray)] (⟨#[32]⟩ : ByteArray)
/-- kids, and what parts them -/
def kidsW (ps : List ByteArray) : Nat → List Int → List ByteArray
  | _, [] => []
  | i, k :: l => (if 0 < i ∧ i ≤ ps.length then [quoteF (ps.getD (i - 1) ⟨#[]⟩)] else []) ++ [decS k] ++ kidsW ps (i + 1) l
theorem kidsW_app (ps : List ByteArray) : ∀ (a b : List Int) (i : Nat), kidsW ps i (a ++ b) = kidsW ps i a ++ kidsW ps (i + a.length) b
  | [], b, i => by simp [kidsW]
  | k :: a, b, i => by
    show _ ++ kidsW ps (i + 1) (a ++ b) = (_ ++ kidsW ps (i + 1) a) ++ _
    rw [kidsW_app ps a b (i + 1), List.length_cons, show i + 1 + a.length = i + (a.length + 1) by omega]
    simp only [List.append_assoc]
def Nd.below (n : Nd) : ByteArray := if n.level = 0 then joinB [(⟨#[114, 111, 119, 115]⟩ : ByteArray), pairsF n.rows] (⟨#[32]⟩ : ByteArray) else (⟨#[107, 105, 100, 115]⟩ : ByteArray) ++ catF (fun y => (⟨#[32]⟩ : ByteArray) ++ y) (kidsW n.pivots 0 n.kids)
def msgsF (l : List Msg) : ByteArray := (⟨#[109, 115, 103, 115]⟩ : ByteArray) ++ (⟨#[32]⟩ : ByteArray) ++ decS l.length ++ catF (fun m => (⟨#[32, 44, 32]⟩ : ByteArray) ++ m.line) l
def Nd.line (n : Nd) : ByteArray := joinB [(⟨#[110, 111, 100, 101]⟩ : ByteArray), decS n.slot, decS n.level, decS n.seen, decS n.right, if n.top then (⟨#[42]⟩ : ByteArray) else quoteF n.high, (⟨#[58]⟩ : ByteArray), n.below, (⟨#[58]⟩ : ByteArray), msgsF n.msgs] (⟨#[32]⟩ : ByteArray)
theorem baz (a : Array UInt8) : (⟨a⟩ : ByteArray).size = a.size := rfl
/-! ### percolate/trace.line -/
def r_tLine_0 : Reg := ⟨[], [⟨(.mv (.c (.str ⟨#[]⟩))), (some 2), none, [], []⟩], [], [], false⟩
def r_tLine_1 : Reg := ⟨[], [⟨(.mv (.t 0)), (some 3), none, [4], []⟩, ⟨(.callv (.c (.clo 57 [] [])) [(.t 3), (.c (.str ⟨#[32]⟩))]), (some 4), none, [], []⟩, ⟨(.mv (.t 4)), (some 2), none, [], []⟩], [4], [], false⟩
def ir_tLine : IR := (.seq (.reg r_tLine_0)
  (.seq (.reg r_tLine_1)
  .ret))
def res_tLine : List RDesc := [(.tmp 2)]
theorem e_tLine_0 (C : FuncId → List AV → AV → Prop) (σ : St) (K : St → Prop) : runReg C r_tLine_0 σ K = runOps C [⟨(.mv (.c (.str ⟨#[]⟩))), (some 2), none, [], []⟩] (σ.kills []) K := rfl
theorem e_tLine_1 (C : FuncId → List AV → AV → Prop) (σ : St) (K : St → Prop) : runReg C r_tLine_1 σ K = runOps C [⟨(.mv (.t 0)), (some 3), none, [4], []⟩, ⟨(.callv (.c (.clo 57 [] [])) [(.t 3), (.c (.str ⟨#[32]⟩))]), (some 4), none, [], []⟩, ⟨(.mv (.t 4)), (some 2), none, [], []⟩] (σ.kills [4]) K := rfl
theorem fn_tLine {args : List AV} {r : AV} (ha : args.length.ble Tryd.f64.ntmps = true) (h : run (AFn Tryd.prog) ir_tLine (endQ res_tLine r) (initSt args)) : AFn Tryd.prog 64 args r :=
  AFn.of_code (hint := fun _ => []) (c := Tryd.f64.body.getD .skip) (by kernel_rfl) (by kernel_rfl) Tryd.func64 (by kernel_rfl) (by kernel_rfl) (by kernel_rfl) (of_decide_eq_true (by kernel_rfl)) (Nat.le_of_ble_eq_true ha) (Nat.le_of_ble_eq_true (by kernel_rfl)) (run_ok h)

/-! ### percolate/trace.Hold -/
def r_tHold_0 : Reg := ⟨[], [⟨(.box 3 63 (.t 0)), (some 1), none, [], []⟩, ⟨(.mv (.c (.str ⟨#[]⟩))), (some 2), none, [], []⟩], [1], [], false⟩
def r_tHold_1 : Reg := ⟨[], [⟨(.mv (.c (.str ⟨#[114, 101, 97, 100]⟩))), (some 3), none, [], []⟩], [], [], false⟩
def r_tHold_2 : Reg := ⟨[], [⟨(.faddr 2 (.t 1)), (some 4), none, [], []⟩, ⟨(.load 1 false (.t 4)), (some 5), none, [], []⟩], [], [], false⟩
def r_tHold_3 : Reg := ⟨[], [⟨(.mv (.c (.str ⟨#[119, 114, 105, 116, 101]⟩))), (some 3), none, [], []⟩], [], [], false⟩
def r_tHold_4 : Reg := ⟨[⟨(.faddr 0 (.t 1)), (some 6), none, [8, 11, 13, 14], []⟩, ⟨(.load 1 false (.t 6)), (some 7), none, [8, 11, 13, 14], []⟩, ⟨(.callv (.c (.clo 56 [] [])) [(.t 7)]), (some 8), none, [11, 13, 14], []⟩, ⟨(.faddr 1 (.t 1)), (some 9), none, [8, 11, 13, 14], []⟩, ⟨(.load 1 false (.t 9)), (some 10), none, [8, 11, 13, 14], []⟩, ⟨(.callv (.c (.clo 56 [] [])) [(.t 10)]), (some 11), none, [13, 14], []⟩, ⟨(.mv (.t 3)), (some 12), none, [8, 11, 13, 14], []⟩], [⟨(.bsl 1 9 [(.t 8), (.t 11), (.t 12)]), (some 13), none, [14], []⟩, ⟨(.callv (.c (.clo 64 [] [])) [(.t 13)]), (some 14), none, [], []⟩, ⟨(.mv (.t 14)), (some 2), none, [], []⟩], [8, 11, 13, 14], [], true⟩
def ir_tHold : IR := (.seq (.reg r_tHold_0)
  (.seq (.reg r_tHold_1)
  (.seq (.seq (.reg r_tHold_2)
  (.cond (.t 5) (.reg r_tHold_3)
  .skip))
  (.seq (.reg r_tHold_4)
  .ret))))
def res_tHold : List RDesc := [(.tmp 2)]
theorem e_tHold_0 (C : FuncId → List AV → AV → Prop) (σ : St) (K : St → Prop) : runReg C r_tHold_0 σ K = runOps C [⟨(.box 3 63 (.t 0)), (some 1), none, [], []⟩, ⟨(.mv (.c (.str ⟨#[]⟩))), (some 2), none, [], []⟩] (σ.kills [1]) K := rfl
theorem e_tHold_1 (C : FuncId → List AV → AV → Prop) (σ : St) (K : St → Prop) : runReg C r_tHold_1 σ K = runOps C [⟨(.mv (.c (.str ⟨#[114, 101, 97, 100]⟩))), (some 3), none, [], []⟩] (σ.kills []) K := rfl
theorem e_tHold_2 (C : FuncId → List AV → AV → Prop) (σ : St) (K : St → Prop) : runReg C r_tHold_2 σ K = runOps C [⟨(.faddr 2 (.t 1)), (some 4), none, [], []⟩, ⟨(.load 1 false (.t 4)), (some 5), none, [], []⟩] (σ.kills []) K := rfl
theorem e_tHold_3 (C : FuncId → List AV → AV → Prop) (σ : St) (K : St → Prop) : runReg C r_tHold_3 σ K = runOps C [⟨(.mv (.c (.str ⟨#[119, 114, 105, 116, 101]⟩))), (some 3), none, [], []⟩] (σ.kills []) K := rfl
theorem e_tHold_4 (C : FuncId → List AV → AV → Prop) (σ : St) (K : St → Prop) : runReg C r_tHold_4 σ K = runHead C [] [⟨(.bsl 1 9 [(.t 8), (.t 11), (.t 12)]), (some 13), none, [14], []⟩, ⟨(.callv (.c (.clo 64 [] [])) [(.t 13)]), (some 14), none, [], []⟩, ⟨(.mv (.t 14)), (some 2), none, [], []⟩] [⟨(.faddr 0 (.t 1)), (some 6), none, [8, 11, 13, 14], []⟩, ⟨(.load 1 false (.t 6)), (some 7), none, [8, 11, 13, 14], []⟩, ⟨(.callv (.c (.clo 56 [] [])) [(.t 7)]), (some 8), none, [11, 13, 14], []⟩, ⟨(.faddr 1 (.t 1)), (some 9), none, [8, 11, 13, 14], []⟩, ⟨(.load 1 false (.t 9)), (some 10), none, [8, 11, 13, 14], []⟩, ⟨(.callv (.c (.clo 56 [] [])) [(.t 10)]), (some 11), none, [13, 14], []⟩, ⟨(.mv (.t 3)), (some 12), none, [8, 11, 13, 14], []⟩] (σ.kills [8, 11, 13, 14]) K := rfl
theorem fn_tHold {args : List AV} {r : AV} (ha : args.length.ble Tryd.f34.ntmps = true) (h : run (AFn Tryd.prog) ir_tHold (endQ res_tHold r) (initSt args)) : AFn Tryd.prog 34 args r :=
  AFn.of_code (hint := fun _ => []) (c := Tryd.f34.body.getD .skip) (by kernel_rfl) (by kernel_rfl) Tryd.func34 (by kernel_rfl) (by kernel_rfl) (by kernel_rfl) (of_decide_eq_true (by kernel_rfl)) (Nat.le_of_ble_eq_true ha) (Nat.le_of_ble_eq_true (by kernel_rfl)) (run_ok h)

/-! ### percolate/trace.Message -/
def r_tMsg_0 : Reg := ⟨[], [⟨(.box 6 65 (.t 0)), (some 1), none, [], []⟩, ⟨(.mv (.c (.str ⟨#[]⟩))), (some 2), none, [], []⟩], [1], [], false⟩
def r_tMsg_1 : Reg := ⟨[], [⟨(.mv (.c (.str ⟨#[107, 105, 110, 100]⟩))), (some 3), none, [], []⟩], [], [], false⟩
def r_tMsg_2 : Reg := ⟨[], [⟨(.faddr 1 (.t 1)), (some 5), none, [], []⟩, ⟨(.load 1 false (.t 5)), (some 6), none, [], []⟩, ⟨(.bin .geq (.t 6) (.c (.int .i64 1))), (some 7), none, [], []⟩, ⟨(.mv (.t 7)), (some 8), none, [], []⟩, ⟨(.faddr 1 (.t 1)), (some 9), (some (8, true)), [], []⟩, ⟨(.load 1 false (.t 9)), (some 10), (some (8, true)), [], []⟩, ⟨(.bin .leq (.t 10) (.c (.int .i64 4))), (some 11), (some (8, true)), [], []⟩, ⟨(.pick (.t 8) (.t 11) (.c (.bool false))), (some 12), none, [], []⟩], [], [], false⟩
def r_tMsg_3 : Reg := ⟨[], [⟨(.bsl 1 9 [(.c (.str ⟨#[112, 117, 116]⟩)), (.c (.str ⟨#[97, 100, 100]⟩)), (.c (.str ⟨#[100, 101, 108]⟩)), (.c (.str ⟨#[119, 105, 112, 101]⟩))]), (some 13), none, [], []⟩, ⟨(.faddr 1 (.t 1)), (some 14), none, [], []⟩, ⟨(.load 1 false (.t 14)), (some 15), none, [], []⟩, ⟨(.bin .sub (.t 15) (.c (.int .i64 1))), (some 16), none, [], []⟩, ⟨(.iaddr 1 (.t 13) (.t 16)), (some 17), none, [], []⟩, ⟨(.load 1 false (.t 17)), (some 18), none, [], []⟩, ⟨(.mv (.t 18)), (some 3), none, [], []⟩], [13], [], false⟩
def r_tMsg_4 : Reg := ⟨[⟨(.faddr 0 (.t 1)), (some 19), none, [21, 25, 26], []⟩, ⟨(.load 1 false (.t 19)), (some 20), none, [21, 25, 26], []⟩, ⟨(.callv (.c (.clo 56 [] [])) [(.t 20)]), (some 21), none, [25, 26], []⟩, ⟨(.mv (.t 3)), (some 22), none, [21, 25, 26], []⟩, ⟨(.faddr 2 (.t 1)), (some 23), none, [21, 25, 26], []⟩, ⟨(.load 1 false (.t 23)), (some 24), none, [21, 25, 26], []⟩, ⟨(.callv (.c (.clo 61 [] [])) [(.t 24)]), (some 25), none, [26], []⟩], [⟨(.bsl 1 9 [(.t 21), (.t 22), (.t 25)]), (some 26), none, [], []⟩, ⟨(.mv (.t 26)), (some 4), none, [], []⟩], [21, 25, 26], [], true⟩
def r_tMsg_5 : Reg := ⟨[], [⟨(.faddr 1 (.t 1)), (some 28), none, [], []⟩, ⟨(.load 1 false (.t 28)), (some 29), none, [], []⟩, ⟨(.bin .eql (.t 29) (.c (.int .i64 1))), (some 30), none, [], []⟩, ⟨(.mv (.t 30)), (some 31), none, [], []⟩, ⟨(.faddr 1 (.t 1)), (some 32), (some (31, false)), [], []⟩, ⟨(.load 1 false (.t 32)), (some 33), (some (31, false)), [], []⟩, ⟨(.bin .eql (.t 33) (.c (.int .i64 2))), (some 34), (some (31, false)), [], []⟩, ⟨(.pick (.t 31) (.c (.bool true)) (.t 34)), (some 35), none, [], []⟩, ⟨(.mv (.t 35)), (some 27), none, [], []⟩], [], [], false⟩
def r_tMsg_6 : Reg := ⟨[], [⟨(.mv (.t 4)), (some 36), none, [39, 40], []⟩, ⟨(.faddr 5 (.t 1)), (some 37), none, [39, 40], []⟩, ⟨(.load 1 false (.t 37)), (some 38), none, [39, 40], []⟩, ⟨(.callv (.c (.clo 61 [] [])) [(.t 38)]), (some 39), none, [40], []⟩, ⟨(.bsl 1 9 [(.t 39)]), (some 40), none, [], []⟩, ⟨(.append 1 9 16 (.t 36) (.t 40)), (some 41), none, [], []⟩, ⟨(.mv (.t 41)), (some 4), none, [], []⟩], [39, 40], [], false⟩
def r_tMsg_7 : Reg := ⟨[], [⟨(.faddr 1 (.t 1)), (some 43), none, [], []⟩, ⟨(.load 1 false (.t 43)), (some 44), none, [], []⟩, ⟨(.bin .eql (.t 44) (.c (.int .i64 4))), (some 45), none, [], []⟩, ⟨(.mv (.t 45)), (some 46), none, [], []⟩, ⟨(.faddr 4 (.t 1)), (some 47), (some (46, true)), [], []⟩, ⟨(.load 1 false (.t 47)), (some 48), (some (46, true)), [], []⟩, ⟨(.pick (.t 46) (.t 48) (.c (.bool false))), (some 49), none, [], []⟩, ⟨(.mv (.t 49)), (some 42), none, [], []⟩], [], [], false⟩
def r_tMsg_8 : Reg := ⟨[], [⟨(.mv (.t 4)), (some 50), none, [51], []⟩, ⟨(.bsl 1 9 [(.c (.str ⟨#[42]⟩))]), (some 51), none, [], []⟩, ⟨(.append 1 9 16 (.t 50) (.t 51)), (some 52), none, [], []⟩, ⟨(.mv (.t 52)), (some 4), none, [], []⟩], [51], [], false⟩
def r_tMsg_9 : Reg := ⟨[], [⟨(.faddr 1 (.t 1)), (some 54), none, [], []⟩, ⟨(.load 1 false (.t 54)), (some 55), none, [], []⟩, ⟨(.bin .eql (.t 55) (.c (.int .i64 4))), (some 56), none, [], []⟩, ⟨(.mv (.t 56)), (some 53), none, [], []⟩], [], [], false⟩
def r_tMsg_10 : Reg := ⟨[], [⟨(.mv (.t 4)), (some 57), none, [60, 61], []⟩, ⟨(.faddr 3 (.t 1)), (some 58), none, [60, 61], []⟩, ⟨(.load 1 false (.t 58)), (some 59), none, [60, 61], []⟩, ⟨(.callv (.c (.clo 61 [] [])) [(.t 59)]), (some 60), none, [61], []⟩, ⟨(.bsl 1 9 [(.t 60)]), (some 61), none, [], []⟩, ⟨(.append 1 9 16 (.t 57) (.t 61)), (some 62), none, [], []⟩, ⟨(.mv (.t 62)), (some 4), none, [], []⟩], [60, 61], [], false⟩
def r_tMsg_11 : Reg := ⟨[], [⟨(.mv (.t 4)), (some 63), none, [64], []⟩, ⟨(.callv (.c (.clo 64 [] [])) [(.t 63)]), (some 64), none, [], []⟩, ⟨(.mv (.t 64)), (some 2), none, [], []⟩], [64], [], false⟩
def ir_tMsg : IR := (.seq (.reg r_tMsg_0)
  (.seq (.reg r_tMsg_1)
  (.seq (.seq (.reg r_tMsg_2)
  (.cond (.t 12) (.reg r_tMsg_3)
  .skip))
  (.seq (.reg r_tMsg_4)
  (.seq (.block 0 (.seq (.reg r_tMsg_5)
  (.cond (.t 27) (.reg r_tMsg_6)
  (.seq (.reg r_tMsg_7)
  (.cond (.t 42) (.reg r_tMsg_8)
  (.seq (.reg r_tMsg_9)
  (.cond (.t 53) (.reg r_tMsg_10)
  .skip)))))))
  (.seq (.reg r_tMsg_11)
  .ret))))))
def res_tMsg : List RDesc := [(.tmp 2)]
theorem e_tMsg_0 (C : FuncId → List AV → AV → Prop) (σ : St) (K : St → Prop) : runReg C r_tMsg_0 σ K = runOps C [⟨(.box 6 65 (.t 0)), (some 1), none, [], []⟩, ⟨(.mv (.c (.str ⟨#[]⟩))), (some 2), none, [], []⟩] (σ.kills [1]) K := rfl
theorem e_tMsg_1 (C : FuncId → List AV → AV → Prop) (σ : St) (K : St → Prop) : runReg C r_tMsg_1 σ K = runOps C [⟨(.mv (.c (.str ⟨#[107, 105, 110, 100]⟩))), (some 3), none, [], []⟩] (σ.kills []) K := rfl
theorem e_tMsg_2 (C : FuncId → List AV → AV → Prop) (σ : St) (K : St → Prop) : runReg C r_tMsg_2 σ K = runOps C [⟨(.faddr 1 (.t 1)), (some 5), none, [], []⟩, ⟨(.load 1 false (.t 5)), (some 6), none, [], []⟩, ⟨(.bin .geq (.t 6) (.c (.int .i64 1))), (some 7), none, [], []⟩, ⟨(.mv (.t 7)), (some 8), none, [], []⟩, ⟨(.faddr 1 (.t 1)), (some 9), (some (8, true)), [], []⟩, ⟨(.load 1 false (.t 9)), (some 10), (some (8, true)), [], []⟩, ⟨(.bin .leq (.t 10) (.c (.int .i64 4))), (some 11), (some (8, true)), [], []⟩, ⟨(.pick (.t 8) (.t 11) (.c (.bool false))), (some 12), none, [], []⟩] (σ.kills []) K := rfl
theorem e_tMsg_3 (C : FuncId → List AV → AV → Prop) (σ : St) (K : St → Prop) : runReg C r_tMsg_3 σ K = runOps C [⟨(.bsl 1 9 [(.c (.str ⟨#[112, 117, 116]⟩)), (.c (.str ⟨#[97, 100, 100]⟩)), (.c (.str ⟨#[100, 101, 108]⟩)), (.c (.str ⟨#[119, 105, 112, 101]⟩))]), (some 13), none, [], []⟩, ⟨(.faddr 1 (.t 1)), (some 14), none, [], []⟩, ⟨(.load 1 false (.t 14)), (some 15), none, [], []⟩, ⟨(.bin .sub (.t 15) (.c (.int .i64 1))), (some 16), none, [], []⟩, ⟨(.iaddr 1 (.t 13) (.t 16)), (some 17), none, [], []⟩, ⟨(.load 1 false (.t 17)), (some 18), none, [], []⟩, ⟨(.mv (.t 18)), (some 3), none, [], []⟩] (σ.kills [13]) K := rfl
theorem e_tMsg_4 (C : FuncId → List AV → AV → Prop) (σ : St) (K : St → Prop) : runReg C r_tMsg_4 σ K = runHead C [] [⟨(.bsl 1 9 [(.t 21), (.t 22), (.t 25)]), (some 26), none, [], []⟩, ⟨(.mv (.t 26)), (some 4), none, [], []⟩] [⟨(.faddr 0 (.t 1)), (some 19), none, [21, 25, 26], []⟩, ⟨(.load 1 false (.t 19)), (some 20), none, [21, 25, 26], []⟩, ⟨(.callv (.c (.clo 56 [] [])) [(.t 20)]), (some 21), none, [25, 26], []⟩, ⟨(.mv (.t 3)), (some 22), none, [21, 25, 26], []⟩, ⟨(.faddr 2 (.t 1)), (some 23), none, [21, 25, 26], []⟩, ⟨(.load 1 false (.t 23)), (some 24), none, [21, 25, 26], []⟩, ⟨(.callv (.c (.clo 61 [] [])) [(.t 24)]), (some 25), none, [26], []⟩] (σ.kills [21, 25, 26]) K := rfl
theorem e_tMsg_5 (C : FuncId → List AV → AV → Prop) (σ : St) (K : St → Prop) : runReg C r_tMsg_5 σ K = runOps C [⟨(.faddr 1 (.t 1)), (some 28), none, [], []⟩, ⟨(.load 1 false (.t 28)), (some 29), none, [], []⟩, ⟨(.bin .eql (.t 29) (.c (.int .i64 1))), (some 30), none, [], []⟩, ⟨(.mv (.t 30)), (some 31), none, [], []⟩, ⟨(.faddr 1 (.t 1)), (some 32), (some (31, false)), [], []⟩, ⟨(.load 1 false (.t 32)), (some 33), (some (31, false)), [], []⟩, ⟨(.bin .eql (.t 33) (.c (.int .i64 2))), (some 34), (some (31, false)), [], []⟩, ⟨(.pick (.t 31) (.c (.bool true)) (.t 34)), (some 35), none, [], []⟩, ⟨(.mv (.t 35)), (some 27), none, [], []⟩] (σ.kills []) K := rfl
theorem e_tMsg_6 (C : FuncId → List AV → AV → Prop) (σ : St) (K : St → Prop) : runReg C r_tMsg_6 σ K = runOps C [⟨(.mv (.t 4)), (some 36), none, [39, 40], []⟩, ⟨(.faddr 5 (.t 1)), (some 37), none, [39, 40], []⟩, ⟨(.load 1 false (.t 37)), (some 38), none, [39, 40], []⟩, ⟨(.callv (.c (.clo 61 [] [])) [(.t 38)]), (some 39), none, [40], []⟩, ⟨(.bsl 1 9 [(.t 39)]), (some 40), none, [], []⟩, ⟨(.append 1 9 16 (.t 36) (.t 40)), (some 41), none, [], []⟩, ⟨(.mv (.t 41)), (some 4), none, [], []⟩] (σ.kills [39, 40]) K := rfl
theorem e_tMsg_7 (C : FuncId → List AV → AV → Prop) (σ : St) (K : St → Prop) : runReg C r_tMsg_7 σ K = runOps C [⟨(.faddr 1 (.t 1)), (some 43), none, [], []⟩, ⟨(.load 1 false (.t 43)), (some 44), none, [], []⟩, ⟨(.bin .eql (.t 44) (.c (.int .i64 4))), (some 45), none, [], []⟩, ⟨(.mv (.t 45)), (some 46), none, [], []⟩, ⟨(.faddr 4 (.t 1)), (some 47), (some (46, true)), [], []⟩, ⟨(.load 1 false (.t 47)), (some 48), (some (46, true)), [], []⟩, ⟨(.pick (.t 46) (.t 48) (.c (.bool false))), (some 49), none, [], []⟩, ⟨(.mv (.t 49)), (some 42), none, [], []⟩] (σ.kills []) K := rfl
theorem e_tMsg_8 (C : FuncId → List AV → AV → Prop) (σ : St) (K : St → Prop) : runReg C r_tMsg_8 σ K = runOps C [⟨(.mv (.t 4)), (some 50), none, [51], []⟩, ⟨(.bsl 1 9 [(.c (.str ⟨#[42]⟩))]), (some 51), none, [], []⟩, ⟨(.append 1 9 16 (.t 50) (.t 51)), (some 52), none, [], []⟩, ⟨(.mv (.t 52)), (some 4), none, [], []⟩] (σ.kills [51]) K := rfl
theorem e_tMsg_9 (C : FuncId → List AV → AV → Prop) (σ : St) (K : St → Prop) : runReg C r_tMsg_9 σ K = runOps C [⟨(.faddr 1 (.t 1)), (some 54), none, [], []⟩, ⟨(.load 1 false (.t 54)), (some 55), none, [], []⟩, ⟨(.bin .eql (.t 55) (.c (.int .i64 4))), (some 56), none, [], []⟩, ⟨(.mv (.t 56)), (some 53), none, [], []⟩] (σ.kills []) K := rfl
theorem e_tMsg_10 (C : FuncId → List AV → AV → Prop) (σ : St) (K : St → Prop) : runReg C r_tMsg_10 σ K = runOps C [⟨(.mv (.t 4)), (some 57), none, [60, 61], []⟩, ⟨(.faddr 3 (.t 1)), (some 58), none, [60, 61], []⟩, ⟨(.load 1 false (.t 58)), (some 59), none, [60, 61], []⟩, ⟨(.callv (.c (.clo 61 [] [])) [(.t 59)]), (some 60), none, [61], []⟩, ⟨(.bsl 1 9 [(.t 60)]), (some 61), none, [], []⟩, ⟨(.append 1 9 16 (.t 57) (.t 61)), (some 62), none, [], []⟩, ⟨(.mv (.t 62)), (some 4), none, [], []⟩] (σ.kills [60, 61]) K := rfl
theorem e_tMsg_11 (C : FuncId → List AV → AV → Prop) (σ : St) (K : St → Prop) : runReg C r_tMsg_11 σ K = runOps C [⟨(.mv (.t 4)), (some 63), none, [64], []⟩, ⟨(.callv (.c (.clo 64 [] [])) [(.t 63)]), (some 64), none, [], []⟩, ⟨(.mv (.t 64)), (some 2), none, [], []⟩] (σ.kills [64]) K := rfl
theorem fn_tMsg {args : List AV} {r : AV} (ha : args.length.ble Tryd.f36.ntmps = true) (h : run (AFn Tryd.prog) ir_tMsg (endQ res_tMsg r) (initSt args)) : AFn Tryd.prog 36 args r :=
  AFn.of_code (hint := fun _ => []) (c := Tryd.f36.body.getD .skip) (by kernel_rfl) (by kernel_rfl) Tryd.func36 (by kernel_rfl) (by kernel_rfl) (by kernel_rfl) (of_decide_eq_true (by kernel_rfl)) (Nat.le_of_ble_eq_true ha) (Nat.le_of_ble_eq_true (by kernel_rfl)) (run_ok h)

attribute [local go_sem ↓] ir_tLine
attribute [local go_sem] res_tLine e_tLine_0 e_tLine_1
attribute [local go_sem ↓] ir_tHold
attribute [local go_sem] res_tHold e_tHold_0 e_tHold_1 e_tHold_2 e_tHold_3 e_tHold_4
attribute [local go_sem ↓] ir_tMsg
attribute [local go_sem] res_tMsg e_tMsg_0 e_tMsg_1 e_tMsg_2 e_tMsg_3 e_tMsg_4 e_tMsg_5 e_tMsg_6 e_tMsg_7 e_tMsg_8 e_tMsg_9 e_tMsg_10 e_tMsg_11

theorem tLine_ok (l : List ByteArray) (n : Nat) (hl : l.length ≤ 10000) (hn : n ≤ 1000000000) (h : ∀ x, x ∈ l → x.size + 1 ≤ n) : AFn Tryd.prog 64 [.sl (l.map .str)] (.str (joinB l (⟨#[32]⟩ : ByteArray))) := by
  refine fn_tLine rfl ?_
  have hj := joinB_len (⟨#[32]⟩ : ByteArray) n l h
  have hm : l.length * n ≤ 10000 * 1000000000 := Nat.mul_le_mul hl hn
  simp (maxSteps := 4000000) only [go_sem, ↓reduceIte, reduceCtorEq, Nat.reduceEqDiff, Nat.reduceBEq, Nat.reduceAdd, Nat.reduceSub, Nat.reduceMul, Nat.reduceLT, Nat.reduceLeDiff, Nat.reduceBNe, Int.reduceBEq, Int.reduceBNe, Int.reduceLT, Int.reduceLE, Msg.a, Par.a, Hld.a]
  (first | refine calling (join_ok l (⟨#[32]⟩ : ByteArray) (by omega) (by omega)) ?_ | refine callingH (join_ok l (⟨#[32]⟩ : ByteArray) (by omega) (by omega)) ?_)
  simp (maxSteps := 4000000) only [go_sem, ↓reduceIte, reduceCtorEq, Nat.reduceEqDiff, Nat.reduceBEq, Nat.reduceAdd, Nat.reduceSub, Nat.reduceMul, Nat.reduceLT, Nat.reduceLeDiff, Nat.reduceBNe, Int.reduceBEq, Int.reduceBNe, Int.reduceLT, Int.reduceLE, Msg.a, Par.a, Hld.a]
theorem tHold_ok (h : Hld) (ok : h.ok) : AFn Tryd.prog 34 [h.a] (.str h.line) := by
  refine fn_tHold rfl ?_
  have d1 := decS_small h.thread ok.thread.1 ok.thread.2
  have d2 := decS_small h.slot ok.slot.1 ok.slot.2
  have c1 := dec_ok h.thread ok.thread
  have c2 := dec_ok h.slot ok.slot
  obtain ⟨th, sl, wr⟩ := h
  unfold Hld.line
  simp only at d1 d2 c1 c2 ⊢
  cases wr with
  | true =>
    have c3 := tLine_ok [decS th, decS sl, (⟨#[119, 114, 105, 116, 101]⟩ : ByteArray)] 100 (by simp) (by omega) (by simp [baz]; omega)
    (repeat (first | simp (maxSteps := 4000000) only [go_sem, ↓reduceIte, reduceCtorEq, Nat.reduceEqDiff, Nat.reduceBEq, Nat.reduceAdd, Nat.reduceSub, Nat.reduceMul, Nat.reduceLT, Nat.reduceLeDiff, Nat.reduceBNe, Int.reduceBEq, Int.reduceBNe, Int.reduceLT, Int.reduceLE, Msg.a, Par.a, Hld.a] | refine calling (c1) ?_ | refine callingH (c1) ?_ | refine calling (c2) ?_ | refine callingH (c2) ?_ | refine calling (c3) ?_ | refine callingH (c3) ?_ | refine And.intro (by omega) ?_ | refine And.intro (fun d hd => by (repeat (rcases hd with rfl | hd; · exact ⟨rfl, rfl⟩)); cases hd) ?_))
  | false =>
    have c3 := tLine_ok [decS th, decS sl, (⟨#[114, 101, 97, 100]⟩ : ByteArray)] 100 (by simp) (by omega) (by simp [baz]; omega)
    (repeat (first | simp (maxSteps := 4000000) only [go_sem, ↓reduceIte, reduceCtorEq, Nat.reduceEqDiff, Nat.reduceBEq, Nat.reduceAdd, Nat.reduceSub, Nat.reduceMul, Nat.reduceLT, Nat.reduceLeDiff, Nat.reduceBNe, Int.reduceBEq, Int.reduceBNe, Int.reduceLT, Int.reduceLE, Msg.a, Par.a, Hld.a] | refine calling (c1) ?_ | refine callingH (c1) ?_ | refine calling (c2) ?_ | refine callingH (c2) ?_ | refine calling (c3) ?_ | refine callingH (c3) ?_ | refine And.intro (by omega) ?_ | refine And.intro (fun d hd => by (repeat (rcases hd with rfl | hd; · exact ⟨rfl, rfl⟩)); cases hd) ?_))
set_option maxHeartbeats 2000000 in
theorem tMsg_ok (m : Msg) (hs : -9223372036854775808 ≤ m.stamp ∧ m.stamp ≤ 9223372036854775807) (h1 : m.key.size ≤ 2000) (h2 : m.hi.size ≤ 2000) (h3 : m.val.size ≤ 2000) : AFn Tryd.prog 36 [m.a] (.str m.line) := by
  refine fn_tMsg rfl ?_
  have d1 := decS_small m.stamp hs.1 hs.2
  have q1 := quoteF_size m.key
  have q2 := quoteF_size m.hi
  have q3 := quoteF_size m.val
  have c1 := dec_ok m.stamp hs
  have c2 := quote_ok m.key (by omega)
  have c3 := quote_ok m.hi (by omega)
  have c4 := quote_ok m.val (by omega)
  obtain ⟨stamp, kind, key, hi, op, val⟩ := m
  unfold Msg.line Msg.word Msg.rest
  simp only at d1 q1 q2 q3 c1 c2 c3 c4 h1 h2 h3 ⊢
  by_cases k0 : 1 ≤ kind
  case neg =>
    have e1 : kind ≠ 1 := by omega
    have e2 : kind ≠ 2 := by omega
    have e3 : kind ≠ 3 := by omega
    have e4 : kind ≠ 4 := by omega
    have b1 : (kind == 1) = false := by simp [e1]
    have b2 : (kind == 2) = false := by simp [e2]
    have b4 : (kind == 4) = false := by simp [e4]
    have c5 := tLine_ok [decS stamp, (⟨#[107, 105, 110, 100]⟩ : ByteArray), quoteF key] 10000 (by simp) (by omega) (by simp [baz]; omega)
    simp only [e1, e2, e3, e4, if_false, or_self]
    (repeat (first | simp (maxSteps := 4000000) only [go_sem, ↓reduceIte, reduceCtorEq, Nat.reduceEqDiff, Nat.reduceBEq, Nat.reduceAdd, Nat.reduceSub, Nat.reduceMul, Nat.reduceLT, Nat.reduceLeDiff, Nat.reduceBNe, Int.reduceBEq, Int.reduceBNe, Int.reduceLT, Int.reduceLE, Msg.a, Par.a, Hld.a, k0, b1, b2, b4] | refine calling (c1) ?_ | refine callingH (c1) ?_ | refine calling (c2) ?_ | refine callingH (c2) ?_ | refine calling (c3) ?_ | refine callingH (c3) ?_ | refine calling (c4) ?_ | refine callingH (c4) ?_ | refine calling (c5) ?_ | refine callingH (c5) ?_ | refine And.intro (by omega) ?_ | refine And.intro (fun d hd => by (repeat (rcases hd with rfl | hd; · exact ⟨rfl, rfl⟩)); cases hd) ?_))
  by_cases k4 : kind ≤ 4
  case neg =>
    have e1 : kind ≠ 1 := by omega
    have e2 : kind ≠ 2 := by omega
    have e3 : kind ≠ 3 := by omega
    have e4 : kind ≠ 4 := by omega
    have b1 : (kind == 1) = false := by simp [e1]
    have b2 : (kind == 2) = false := by simp [e2]
    have b4 : (kind == 4) = false := by simp [e4]
    have c5 := tLine_ok [decS stamp, (⟨#[107, 105, 110, 100]⟩ : ByteArray), quoteF key] 10000 (by simp) (by omega) (by simp [baz]; omega)
    simp only [e1, e2, e3, e4, if_false, or_self]
    (repeat (first | simp (maxSteps := 4000000) only [go_sem, ↓reduceIte, reduceCtorEq, Nat.reduceEqDiff, Nat.reduceBEq, Nat.reduceAdd, Nat.reduceSub, Nat.reduceMul, Nat.reduceLT, Nat.reduceLeDiff, Nat.reduceBNe, Int.reduceBEq, Int.reduceBNe, Int.reduceLT, Int.reduceLE, Msg.a, Par.a, Hld.a, k0, k4, b1, b2, b4] | refine calling (c1) ?_ | refine callingH (c1) ?_ | refine calling (c2) ?_ | refine callingH (c2) ?_ | refine calling (c3) ?_ | refine callingH (c3) ?_ | refine calling (c4) ?_ | refine callingH (c4) ?_ | refine calling (c5) ?_ | refine callingH (c5) ?_ | refine And.intro (by omega) ?_ | refine And.intro (fun d hd => by (repeat (rcases hd with rfl | hd; · exact ⟨rfl, rfl⟩)); cases hd) ?_))
  have hk : kind = 1 ∨ kind = 2 ∨ kind = 3 ∨ kind = 4 := by omega
  rcases hk with rfl | rfl | rfl | rfl
  · have tw : IntKind.i64.wrap (1 - 1) = 0 := by rfl
    have tn : Int.toNat 0 = 0 := rfl
    have c5 := tLine_ok [decS stamp, (⟨#[112, 117, 116]⟩ : ByteArray), quoteF key, quoteF val] 10000 (by simp) (by omega) (by simp [baz]; omega)
    (repeat (first | simp (maxSteps := 4000000) only [go_sem, ↓reduceIte, reduceCtorEq, Nat.reduceEqDiff, Nat.reduceBEq, Nat.reduceAdd, Nat.reduceSub, Nat.reduceMul, Nat.reduceLT, Nat.reduceLeDiff, Nat.reduceBNe, Int.reduceBEq, Int.reduceBNe, Int.reduceLT, Int.reduceLE, Msg.a, Par.a, Hld.a, tw, tn] | refine calling (c1) ?_ | refine callingH (c1) ?_ | refine calling (c2) ?_ | refine callingH (c2) ?_ | refine calling (c3) ?_ | refine callingH (c3) ?_ | refine calling (c4) ?_ | refine callingH (c4) ?_ | refine calling (c5) ?_ | refine callingH (c5) ?_ | refine And.intro (by omega) ?_ | refine And.intro (fun d hd => by (repeat (rcases hd with rfl | hd; · exact ⟨rfl, rfl⟩)); cases hd) ?_))
    all_goals (first | rfl | simp)
  · have tw : IntKind.i64.wrap (2 - 1) = 1 := by rfl
    have tn : Int.toNat 1 = 1 := rfl
    have c5 := tLine_ok [decS stamp, (⟨#[97, 100, 100]⟩ : ByteArray), quoteF key, quoteF val] 10000 (by simp) (by omega) (by simp [baz]; omega)
    (repeat (first | simp (maxSteps := 4000000) only [go_sem, ↓reduceIte, reduceCtorEq, Nat.reduceEqDiff, Nat.reduceBEq, Nat.reduceAdd, Nat.reduceSub, Nat.reduceMul, Nat.reduceLT, Nat.reduceLeDiff, Nat.reduceBNe, Int.reduceBEq, Int.reduceBNe, Int.reduceLT, Int.reduceLE, Msg.a, Par.a, Hld.a, tw, tn] | refine calling (c1) ?_ | refine callingH (c1) ?_ | refine calling (c2) ?_ | refine callingH (c2) ?_ | refine calling (c3) ?_ | refine callingH (c3) ?_ | refine calling (c4) ?_ | refine callingH (c4) ?_ | refine calling (c5) ?_ | refine callingH (c5) ?_ | refine And.intro (by omega) ?_ | refine And.intro (fun d hd => by (repeat (rcases hd with rfl | hd; · exact ⟨rfl, rfl⟩)); cases hd) ?_))
    all_goals (first | rfl | simp)
  · have tw : IntKind.i64.wrap (3 - 1) = 2 := by rfl
    have tn : Int.toNat 2 = 2 := rfl
    have c5 := tLine_ok [decS stamp, (⟨#[100, 101, 108]⟩ : ByteArray), quoteF key] 10000 (by simp) (by omega) (by simp [baz]; omega)
    (repeat (first | simp (maxSteps := 4000000) only [go_sem, ↓reduceIte, reduceCtorEq, Nat.reduceEqDiff, Nat.reduceBEq, Nat.reduceAdd, Nat.reduceSub, Nat.reduceMul, Nat.reduceLT, Nat.reduceLeDiff, Nat.reduceBNe, Int.reduceBEq, Int.reduceBNe, Int.reduceLT, Int.reduceLE, Msg.a, Par.a, Hld.a, tw, tn] | refine calling (c1) ?_ | refine callingH (c1) ?_ | refine calling (c2) ?_ | refine callingH (c2) ?_ | refine calling (c3) ?_ | refine callingH (c3) ?_ | refine calling (c4) ?_ | refine callingH (c4) ?_ | refine calling (c5) ?_ | refine callingH (c5) ?_ | refine And.intro (by omega) ?_ | refine And.intro (fun d hd => by (repeat (rcases hd with rfl | hd; · exact ⟨rfl, rfl⟩)); cases hd) ?_))
    all_goals (first | rfl | simp)
  · have tw : IntKind.i64.wrap (4 - 1) = 3 := by rfl
    have tn : Int.toNat 3 = 3 := rfl
    cases op with
    | true =>
      have c5 := tLine_ok [decS stamp, (⟨#[119, 105, 112, 101]⟩ : ByteArray), quoteF key, (⟨#[42]⟩ : ByteArray)] 10000 (by simp) (by omega) (by simp [baz]; omega)
      (repeat (first | simp (maxSteps := 4000000) only [go_sem, ↓reduceIte, reduceCtorEq, Nat.reduceEqDiff, Nat.reduceBEq, Nat.reduceAdd, Nat.reduceSub, Nat.reduceMul, Nat.reduceLT, Nat.reduceLeDiff, Nat.reduceBNe, Int.reduceBEq, Int.reduceBNe, Int.reduceLT, Int.reduceLE, Msg.a, Par.a, Hld.a, tw, tn] | refine calling (c1) ?_ | refine callingH (c1) ?_ | refine calling (c2) ?_ | refine callingH (c2) ?_ | refine calling (c3) ?_ | refine callingH (c3) ?_ | refine calling (c4) ?_ | refine callingH (c4) ?_ | refine calling (c5) ?_ | refine callingH (c5) ?_ | refine And.intro (by omega) ?_ | refine And.intro (fun d hd => by (repeat (rcases hd with rfl | hd; · exact ⟨rfl, rfl⟩)); cases hd) ?_))
      all_goals (first | rfl | simp)
    | false =>
      have c5 := tLine_ok [decS stamp, (⟨#[119, 105, 112, 101]⟩ : ByteArray), quoteF key, quoteF hi] 10000 (by simp) (by omega) (by simp [baz]; omega)
      (repeat (first | simp (maxSteps := 4000000) only [go_sem, ↓reduceIte, reduceCtorEq, Nat.reduceEqDiff, Nat.reduceBEq, Nat.reduceAdd, Nat.reduceSub, Nat.reduceMul, Nat.reduceLT, Nat.reduceLeDiff, Nat.reduceBNe, Int.reduceBEq, Int.reduceBNe, Int.reduceLT, Int.reduceLE, Msg.a, Par.a, Hld.a, tw, tn] | refine calling (c1) ?_ | refine callingH (c1) ?_ | refine calling (c2) ?_ | refine callingH (c2) ?_ | refine calling (c3) ?_ | refine callingH (c3) ?_ | refine calling (c4) ?_ | refine callingH (c4) ?_ | refine calling (c5) ?_ | refine callingH (c5) ?_ | refine And.intro (by omega) ?_ | refine And.intro (fun d hd => by (repeat (rcases hd with rfl | hd; · exact ⟨rfl, rfl⟩)); cases hd) ?_))
      all_goals (first | rfl | simp)
end Go.Proofs.YtkdbphhekpdmhaaDoor
