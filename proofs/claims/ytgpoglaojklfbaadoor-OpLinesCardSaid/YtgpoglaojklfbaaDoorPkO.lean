/-
  Layer 7 on the plain machine: the operation that bytes are: the code, walked.
-/
import Derived.Test.YtgpoglaojklfbaaDoorPkL
namespace Go.Proofs.YtgpoglaojklfbaaDoor
open Go.RowKit
set_option linter.unusedVariables false
set_option linter.unusedSimpArgs false
set_option maxRecDepth 100000
/-- what bytes are read as: the operation, what is left, whether all was there -/
def ofRun (s : ByteArray) : Opr × ByteArray × Bool :=
  let k := tk1v s
  let a := tk1 s true
  let b := tkx a.1
  let ok2 := a.2 && b.2.2
  if k == 1 || k == 2 then
    let c := tkx b.2.1
    (⟨k, b.1, nul, false, c.1, 0⟩, c.2.1, ok2 && c.2.2)
  else if k == 4 || k == 6 then
    let d := tk1v b.2.1
    let e := tk1 b.2.1 ok2
    let r : Opr × ByteArray × Bool := if d == 0 then (let c := tkx e.1; (⟨k, b.1, c.1, false, nul, 0⟩, c.2.1, e.2 && c.2.2)) else if d == 1 then (⟨k, b.1, nul, true, nul, 0⟩, e.1, e.2) else (⟨k, b.1, nul, false, nul, 0⟩, e.1, false)
    if k == 6 then (⟨r.1.kind, r.1.key, r.1.hi, r.1.op, r.1.val, tk1v r.2.1⟩, (tk1 r.2.1 r.2.2).1, (tk1 r.2.1 r.2.2).2) else r
  else (⟨k, b.1, nul, false, nul, 0⟩, b.2.1, ok2)
def ofF (s : ByteArray) : Opr × Bool :=
  let r := ofRun s
  if !r.2.2 || !nilB r.2.1 || !r.1.right then (Opr.zero, false) else (r.1, true)
theorem ofF_val (s s1 s2 key : ByteArray) (k : Int) (ok1 is2 ok2 : Bool) (ek : tk1v s = k) (e1 : tk1 s true = (s1, ok1)) (e2 : tkx s1 = (key, s2, is2)) (eo2 : (ok1 && is2) = ok2) (val s3 : ByteArray) (is3 ok3 : Bool) (hv : (k == 1 || k == 2) = true) (e3 : tkx s2 = (val, s3, is3)) (eo3 : (ok2 && is3) = ok3) :
    ofF s = (if !ok3 || !nilB s3 || !(Opr.right ⟨k, key, ⟨#[]⟩, false, val, 0⟩) then (Opr.zero, false) else (⟨k, key, ⟨#[]⟩, false, val, 0⟩, true)) := by
  unfold ofF ofRun
  simp only [ek, e1, e2, eo2, Bool.or_true, Bool.or_false, Bool.true_or, Bool.or_self, Bool.false_eq_true, if_true, if_false, ↓reduceIte, hv, e3, eo3]
  try rfl
theorem ofF_none (s s1 s2 key : ByteArray) (k : Int) (ok1 is2 ok2 : Bool) (ek : tk1v s = k) (e1 : tk1 s true = (s1, ok1)) (e2 : tkx s1 = (key, s2, is2)) (eo2 : (ok1 && is2) = ok2) (hv : (k == 1 || k == 2) = false) (hg : (k == 4 || k == 6) = false) :
    ofF s = (if !ok2 || !nilB s2 || !(Opr.right ⟨k, key, ⟨#[]⟩, false, ⟨#[]⟩, 0⟩) then (Opr.zero, false) else (⟨k, key, ⟨#[]⟩, false, ⟨#[]⟩, 0⟩, true)) := by
  unfold ofF ofRun
  simp only [ek, e1, e2, eo2, Bool.or_true, Bool.or_false, Bool.true_or, Bool.or_self, Bool.false_eq_true, if_true, if_false, ↓reduceIte, hv, hg]
  try rfl
theorem ofF_hi4 (s s1 s2 key : ByteArray) (k : Int) (ok1 is2 ok2 : Bool) (ek : tk1v s = k) (e1 : tk1 s true = (s1, ok1)) (e2 : tkx s1 = (key, s2, is2)) (eo2 : (ok1 && is2) = ok2) (hv : (k == 1 || k == 2) = false) (kd : Int) (s3 : ByteArray) (ok3 : Bool) (ed : tk1v s2 = kd) (e3 : tk1 s2 ok2 = (s3, ok3)) (d0 : (kd == 0) = true) (hi s4 : ByteArray) (is4 ok4 : Bool) (e4 : tkx s3 = (hi, s4, is4)) (eo4 : (ok3 && is4) = ok4) (h4 : (k == 4) = true) (h6 : (k == 6) = false) :
    ofF s = (if !ok4 || !nilB s4 || !(Opr.right ⟨k, key, hi, false, ⟨#[]⟩, 0⟩) then (Opr.zero, false) else (⟨k, key, hi, false, ⟨#[]⟩, 0⟩, true)) := by
  unfold ofF ofRun
  simp only [ek, e1, e2, eo2, Bool.or_true, Bool.or_false, Bool.true_or, Bool.or_self, Bool.false_eq_true, if_true, if_false, ↓reduceIte, hv, ed, e3, h4, h6, d0, e4, eo4]
  try rfl
theorem ofF_hi6 (s s1 s2 key : ByteArray) (k : Int) (ok1 is2 ok2 : Bool) (ek : tk1v s = k) (e1 : tk1 s true = (s1, ok1)) (e2 : tkx s1 = (key, s2, is2)) (eo2 : (ok1 && is2) = ok2) (hv : (k == 1 || k == 2) = false) (kd : Int) (s3 : ByteArray) (ok3 : Bool) (ed : tk1v s2 = kd) (e3 : tk1 s2 ok2 = (s3, ok3)) (d0 : (kd == 0) = true) (hi s4 : ByteArray) (is4 ok4 : Bool) (e4 : tkx s3 = (hi, s4, is4)) (eo4 : (ok3 && is4) = ok4) (h6 : (k == 6) = true) (lim : Int) (s9 : ByteArray) (ok9 : Bool) (el : tk1v s4 = lim) (e9 : tk1 s4 ok4 = (s9, ok9)) :
    ofF s = (if !ok9 || !nilB s9 || !(Opr.right ⟨k, key, hi, false, ⟨#[]⟩, lim⟩) then (Opr.zero, false) else (⟨k, key, hi, false, ⟨#[]⟩, lim⟩, true)) := by
  unfold ofF ofRun
  simp only [ek, e1, e2, eo2, Bool.or_true, Bool.or_false, Bool.true_or, Bool.or_self, Bool.false_eq_true, if_true, if_false, ↓reduceIte, hv, ed, e3, h6, el, e9, d0, e4, eo4]
  try rfl
theorem ofF_op4 (s s1 s2 key : ByteArray) (k : Int) (ok1 is2 ok2 : Bool) (ek : tk1v s = k) (e1 : tk1 s true = (s1, ok1)) (e2 : tkx s1 = (key, s2, is2)) (eo2 : (ok1 && is2) = ok2) (hv : (k == 1 || k == 2) = false) (kd : Int) (s3 : ByteArray) (ok3 : Bool) (ed : tk1v s2 = kd) (e3 : tk1 s2 ok2 = (s3, ok3)) (d0 : (kd == 0) = false) (d1 : (kd == 1) = true) (h4 : (k == 4) = true) (h6 : (k == 6) = false) :
    ofF s = (if !ok3 || !nilB s3 || !(Opr.right ⟨k, key, ⟨#[]⟩, true, ⟨#[]⟩, 0⟩) then (Opr.zero, false) else (⟨k, key, ⟨#[]⟩, true, ⟨#[]⟩, 0⟩, true)) := by
  unfold ofF ofRun
  simp only [ek, e1, e2, eo2, Bool.or_true, Bool.or_false, Bool.true_or, Bool.or_self, Bool.false_eq_true, if_true, if_false, ↓reduceIte, hv, ed, e3, h4, h6, d0, d1]
  try rfl
theorem ofF_op6 (s s1 s2 key : ByteArray) (k : Int) (ok1 is2 ok2 : Bool) (ek : tk1v s = k) (e1 : tk1 s true = (s1, ok1)) (e2 : tkx s1 = (key, s2, is2)) (eo2 : (ok1 && is2) = ok2) (hv : (k == 1 || k == 2) = false) (kd : Int) (s3 : ByteArray) (ok3 : Bool) (ed : tk1v s2 = kd) (e3 : tk1 s2 ok2 = (s3, ok3)) (d0 : (kd == 0) = false) (d1 : (kd == 1) = true) (h6 : (k == 6) = true) (lim : Int) (s9 : ByteArray) (ok9 : Bool) (el : tk1v s3 = lim) (e9 : tk1 s3 ok3 = (s9, ok9)) :
    ofF s = (if !ok9 || !nilB s9 || !(Opr.right ⟨k, key, ⟨#[]⟩, true, ⟨#[]⟩, lim⟩) then (Opr.zero, false) else (⟨k, key, ⟨#[]⟩, true, ⟨#[]⟩, lim⟩, true)) := by
  unfold ofF ofRun
  simp only [ek, e1, e2, eo2, Bool.or_true, Bool.or_false, Bool.true_or, Bool.or_self, Bool.false_eq_true, if_true, if_false, ↓reduceIte, hv, ed, e3, h6, el, e9, d0, d1]
  try rfl
theorem ofF_odd4 (s s1 s2 key : ByteArray) (k : Int) (ok1 is2 ok2 : Bool) (ek : tk1v s = k) (e1 : tk1 s true = (s1, ok1)) (e2 : tkx s1 = (key, s2, is2)) (eo2 : (ok1 && is2) = ok2) (hv : (k == 1 || k == 2) = false) (kd : Int) (s3 : ByteArray) (ok3 : Bool) (ed : tk1v s2 = kd) (e3 : tk1 s2 ok2 = (s3, ok3)) (d0 : (kd == 0) = false) (d1 : (kd == 1) = false) (h4 : (k == 4) = true) (h6 : (k == 6) = false) :
    ofF s = (if !false || !nilB s3 || !(Opr.right ⟨k, key, ⟨#[]⟩, false, ⟨#[]⟩, 0⟩) then (Opr.zero, false) else (⟨k, key, ⟨#[]⟩, false, ⟨#[]⟩, 0⟩, true)) := by
  unfold ofF ofRun
  simp only [ek, e1, e2, eo2, Bool.or_true, Bool.or_false, Bool.true_or, Bool.or_self, Bool.false_eq_true, if_true, if_false, ↓reduceIte, hv, ed, e3, h4, h6, d0, d1]
  try rfl
theorem ofF_odd6 (s s1 s2 key : ByteArray) (k : Int) (ok1 is2 ok2 : Bool) (ek : tk1v s = k) (e1 : tk1 s true = (s1, ok1)) (e2 : tkx s1 = (key, s2, is2)) (eo2 : (ok1 && is2) = ok2) (hv : (k == 1 || k == 2) = false) (kd : Int) (s3 : ByteArray) (ok3 : Bool) (ed : tk1v s2 = kd) (e3 : tk1 s2 ok2 = (s3, ok3)) (d0 : (kd == 0) = false) (d1 : (kd == 1) = false) (h6 : (k == 6) = true) (lim : Int) (s9 : ByteArray) (ok9 : Bool) (el : tk1v s3 = lim) (e9 : tk1 s3 false = (s9, ok9)) :
    ofF s = (if !ok9 || !nilB s9 || !(Opr.right ⟨k, key, ⟨#[]⟩, false, ⟨#[]⟩, lim⟩) then (Opr.zero, false) else (⟨k, key, ⟨#[]⟩, false, ⟨#[]⟩, lim⟩, true)) := by
  unfold ofF ofRun
  simp only [ek, e1, e2, eo2, Bool.or_true, Bool.or_false, Bool.true_or, Bool.or_self, Bool.false_eq_true, if_true, if_false, ↓reduceIte, hv, ed, e3, h6, el, e9, d0, d1]
  try rfl
end Go.Proofs.YtgpoglaojklfbaaDoor
