/-
  No cell of these rows narrows 'for every input' (looked for: loops, veiled, ifaces, maps, wideKeys, modest, calm, conditions, laid).
  DERIVED. THE GIVEN ROWS OF THIS SEAT. 2 by the template 'for every input the law returns true; each argument reads behind the call as it read before'; 0 by the template 'total and deterministic' (their statements: YtbpagknllngfkaaTotals.lean).
  GIVEN WITH THE SEED: the statements are not yours to turn. If you find one false, say at which input.
  Laid BY PROGRAM, IN A SANDBOX (cutbox-rows.mjs): the forced cells as the released guide's own fill.sh prints them over the translation 3d60163d992945eb… (all of the seat's roots in one cut). By AI agents, Wed Nov 11 2026. No macro, syntax, notation, axiom, sorry.
-/
import Derived.Test.YtbpagknllngfkaaChecked
import GoSem.Claim
import GoSem.ClaimJoined
import GoSem.ClaimMapViews
import Derived.JoinedTies
import Derived.KernelRfl
namespace Go.Proofs.Ytbpagknllngfkaa
/- THE CELL 'sum', in the pinned program and in every row, IS THE sha256 OF THE DUMP (.gsa) THAT YtbpagknllngfkaaProg.lean LOADS. Nothing in Lean hashes anything: it is a label: what it is worth is what the hold of that sum in a sandbox is worth. -/
noncomputable def Try.pinned : Pinned := { name := "ytbpagknllngfkaa", sum := "3d60163d992945ebc70c39b4bf40bf3f81c8e298e56d0a045e3f7423736df578", checked := Try.checked }
namespace Rows
def none {H : Type} : Left H := { results := [], args := [] }

/-- 'percolatelaw33.HoldNobody': WHATEVER THE INPUT: true; the input reads as it did. -/
def holdNobodySpec : ChangeSpec := { name := "holdNobody", fn := fun _ => fun
  | [d1, d2] => { results := [.lit (.bool true)], args := [d1, d2] }
  | _ => none }
def holdNobodyRow : OpenClaim := { program := "ytbpagknllngfkaa", sum := "3d60163d992945ebc70c39b4bf40bf3f81c8e298e56d0a045e3f7423736df578", func := "percolate/percolatelaw33.HoldNobody", spec := "holdNobody", inPlace := ["slices.overlaps[int]"], unfollowed := true, recurses := true, apart := false }
def HoldNobodySaid : Prop := holdNobodyRow.holds Try.pinned (OpenSpec.ofChange holdNobodySpec)

/-- ITS FALSE NEIGHBOUR: 'it returns false'. Refute it at one input. -/
def holdNobodyWrong : ChangeSpec := { name := "holdNobody", fn := fun _ => fun
  | [d1, d2] => { results := [.lit (.bool false)], args := [d1, d2] }
  | _ => none }
def HoldNobodyWrongFalsely : Prop := holdNobodyRow.holds Try.pinned (OpenSpec.ofChange holdNobodyWrong)

/-- 'percolatelaw33.HoldHands': WHATEVER THE INPUT: true; the input reads as it did. -/
def holdHandsSpec : ChangeSpec := { name := "holdHands", fn := fun _ => fun
  | [d1, d2] => { results := [.lit (.bool true)], args := [d1, d2] }
  | _ => none }
def holdHandsRow : OpenClaim := { program := "ytbpagknllngfkaa", sum := "3d60163d992945ebc70c39b4bf40bf3f81c8e298e56d0a045e3f7423736df578", func := "percolate/percolatelaw33.HoldHands", spec := "holdHands", inPlace := ["slices.overlaps[int]"], unfollowed := true, recurses := true, apart := false }
def HoldHandsSaid : Prop := holdHandsRow.holds Try.pinned (OpenSpec.ofChange holdHandsSpec)

/-- ITS FALSE NEIGHBOUR: 'it returns false'. Refute it at one input. -/
def holdHandsWrong : ChangeSpec := { name := "holdHands", fn := fun _ => fun
  | [d1, d2] => { results := [.lit (.bool false)], args := [d1, d2] }
  | _ => none }
def HoldHandsWrongFalsely : Prop := holdHandsRow.holds Try.pinned (OpenSpec.ofChange holdHandsWrong)

/- THE SECOND FORM. 'bulk': how many values and letters a reading holds, each counted each time it is reached (what is shared counts as often as it is met; a slice's spare places count too). A statement '..UptoSaid' is the law's where the arguments, and the package variables that the reading takes, are together of bulk at most 1048576: NARROWER than '..Said'. Prove '..Said' where nothing that the law and all that it calls make is longer than what came in: it says more and counts as full. Else prove '..UptoSaid'. A law counts once. -/
mutual
def uptoBulk {H : Type} : DataW H → Nat
  | .lit (.string bytes) => bytes.length + 1
  | .lit _ => 1
  | .nil => 1
  | .ptr d => uptoBulk d + 1
  | .slice elems spare => uptoBulkAll elems + uptoBulkAll spare + 1
  | .agg parts => uptoBulkAll parts + 1
  | .iface _ d => uptoBulk d + 1
  | .map entries => uptoBulkEntries entries + 1
  | .held _ => 1
def uptoBulkAll {H : Type} : List (DataW H) → Nat
  | [] => 0
  | d :: r => uptoBulk d + uptoBulkAll r
def uptoBulkEntries {H : Type} : List (Lit × DataW H) → Nat
  | [] => 0
  | x :: r => uptoBulkEntry x + uptoBulkEntries r
def uptoBulkEntry {H : Type} : Lit × DataW H → Nat
  | (.string bytes, d) => bytes.length + uptoBulk d + 1
  | (_, d) => uptoBulk d + 1
 end
def uptoSmall : (H : Type) → List (DataW H) → Bool := fun _ ds => decide (uptoBulkAll ds ≤ 1048576)
def OpenSpec.upto (s : _root_.Go.ChangeSpec) : _root_.Go.OpenSpec := { _root_.Go.OpenSpec.ofChange s with cond := some uptoSmall }

/-- 'percolatelaw33.HoldNobody', WHERE WHAT IT READS IS OF BULK AT MOST 1048576: true; the input reads as it did. -/
def holdNobodyUptoRow : OpenClaim := { program := "ytbpagknllngfkaa", sum := "3d60163d992945ebc70c39b4bf40bf3f81c8e298e56d0a045e3f7423736df578", func := "percolate/percolatelaw33.HoldNobody", spec := "holdNobody", inPlace := ["slices.overlaps[int]"], unfollowed := true, recurses := true, apart := false, narrowed := true }
def HoldNobodyUptoSaid : Prop := holdNobodyUptoRow.holds Try.pinned (OpenSpec.upto holdNobodySpec)

/-- 'percolatelaw33.HoldHands', WHERE WHAT IT READS IS OF BULK AT MOST 1048576: true; the input reads as it did. -/
def holdHandsUptoRow : OpenClaim := { program := "ytbpagknllngfkaa", sum := "3d60163d992945ebc70c39b4bf40bf3f81c8e298e56d0a045e3f7423736df578", func := "percolate/percolatelaw33.HoldHands", spec := "holdHands", inPlace := ["slices.overlaps[int]"], unfollowed := true, recurses := true, apart := false, narrowed := true }
def HoldHandsUptoSaid : Prop := holdHandsUptoRow.holds Try.pinned (OpenSpec.upto holdHandsSpec)

end Rows
end Go.Proofs.Ytbpagknllngfkaa
