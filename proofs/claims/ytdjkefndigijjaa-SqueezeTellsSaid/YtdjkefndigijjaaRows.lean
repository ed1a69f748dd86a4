/-
  No cell of these rows narrows 'for every input' (looked for: loops, veiled, ifaces, maps, wideKeys, modest, calm, conditions, laid).
  DERIVED. THE GIVEN ROWS OF THIS SEAT. 8 by the template 'for every input the law returns true; each argument reads behind the call as it read before'; 0 by the template 'total and deterministic' (their statements: YtdjkefndigijjaaTotals.lean).
  GIVEN WITH THE SEED: the statements are not yours to turn. If you find one false, say at which input.
  Laid BY PROGRAM, IN A SANDBOX (cutbox-rows.mjs): the forced cells as the released guide's own fill.sh prints them over the translation 95b623a02e07cdb7… (all of the seat's roots in one cut). By AI agents, Wed Nov 11 2026. No macro, syntax, notation, axiom, sorry.
-/
import Derived.Test.YtdjkefndigijjaaChecked
import GoSem.Claim
import GoSem.ClaimJoined
import GoSem.ClaimMapViews
import Derived.JoinedTies
import Derived.KernelRfl
namespace Go.Proofs.Ytdjkefndigijjaa
/- THE CELL 'sum', in the pinned program and in every row, IS THE sha256 OF THE DUMP (.gsa) THAT YtdjkefndigijjaaProg.lean LOADS. Nothing in Lean hashes anything: it is a label: what it is worth is what the hold of that sum in a sandbox is worth. -/
noncomputable def Try.pinned : Pinned := { name := "ytdjkefndigijjaa", sum := "95b623a02e07cdb78e1b4ae9e65fcd65e888dea0a7f0ae7ab037a1dee1a8b7dd", checked := Try.checked }
namespace Rows
def none {H : Type} : Left H := { results := [], args := [] }

/-- 'percolatelaw45.FairTells': WHATEVER THE INPUT: true; the input reads as it did. -/
def fairTellsSpec : ChangeSpec := { name := "fairTells", fn := fun _ => fun
  | [d1, d2, d3] => { results := [.lit (.bool true)], args := [d1, d2, d3] }
  | _ => none }
def fairTellsRow : OpenClaim := { program := "ytdjkefndigijjaa", sum := "95b623a02e07cdb78e1b4ae9e65fcd65e888dea0a7f0ae7ab037a1dee1a8b7dd", func := "percolate/percolatelaw45.FairTells", spec := "fairTells", unfollowed := true, recurses := true, apart := false }
def FairTellsSaid : Prop := fairTellsRow.holds Try.pinned (OpenSpec.ofChange fairTellsSpec)

/-- ITS FALSE NEIGHBOUR: 'it returns false'. Refute it at one input. -/
def fairTellsWrong : ChangeSpec := { name := "fairTells", fn := fun _ => fun
  | [d1, d2, d3] => { results := [.lit (.bool false)], args := [d1, d2, d3] }
  | _ => none }
def FairTellsWrongFalsely : Prop := fairTellsRow.holds Try.pinned (OpenSpec.ofChange fairTellsWrong)

/-- 'percolatelaw55.LadderOrder': WHATEVER THE INPUT: true; the input reads as it did. -/
def ladderOrderSpec : ChangeSpec := { name := "ladderOrder", fn := fun _ => fun
  | [d1, d2, d3, d4] => { results := [.lit (.bool true)], args := [d1, d2, d3, d4] }
  | _ => none }
def ladderOrderRow : OpenClaim := { program := "ytdjkefndigijjaa", sum := "95b623a02e07cdb78e1b4ae9e65fcd65e888dea0a7f0ae7ab037a1dee1a8b7dd", func := "percolate/percolatelaw55.LadderOrder", spec := "ladderOrder", apart := false }
def LadderOrderSaid : Prop := ladderOrderRow.holds Try.pinned (OpenSpec.ofChange ladderOrderSpec)

/-- ITS FALSE NEIGHBOUR: 'it returns false'. Refute it at one input. -/
def ladderOrderWrong : ChangeSpec := { name := "ladderOrder", fn := fun _ => fun
  | [d1, d2, d3, d4] => { results := [.lit (.bool false)], args := [d1, d2, d3, d4] }
  | _ => none }
def LadderOrderWrongFalsely : Prop := ladderOrderRow.holds Try.pinned (OpenSpec.ofChange ladderOrderWrong)

/-- 'percolatelaw45.FairLays': WHATEVER THE INPUT: true; the input reads as it did. -/
def fairLaysSpec : ChangeSpec := { name := "fairLays", fn := fun _ => fun
  | [d1, d2, d3] => { results := [.lit (.bool true)], args := [d1, d2, d3] }
  | _ => none }
def fairLaysRow : OpenClaim := { program := "ytdjkefndigijjaa", sum := "95b623a02e07cdb78e1b4ae9e65fcd65e888dea0a7f0ae7ab037a1dee1a8b7dd", func := "percolate/percolatelaw45.FairLays", spec := "fairLays", unfollowed := true, recurses := true, apart := false }
def FairLaysSaid : Prop := fairLaysRow.holds Try.pinned (OpenSpec.ofChange fairLaysSpec)

/-- ITS FALSE NEIGHBOUR: 'it returns false'. Refute it at one input. -/
def fairLaysWrong : ChangeSpec := { name := "fairLays", fn := fun _ => fun
  | [d1, d2, d3] => { results := [.lit (.bool false)], args := [d1, d2, d3] }
  | _ => none }
def FairLaysWrongFalsely : Prop := fairLaysRow.holds Try.pinned (OpenSpec.ofChange fairLaysWrong)

/-- 'percolatelaw49.SqueezeOnce': WHATEVER THE INPUT: true; the input reads as it did. -/
def squeezeOnceSpec : ChangeSpec := { name := "squeezeOnce", fn := fun _ => fun
  | [d] => { results := [.lit (.bool true)], args := [d] }
  | _ => none }
def squeezeOnceRow : OpenClaim := { program := "ytdjkefndigijjaa", sum := "95b623a02e07cdb78e1b4ae9e65fcd65e888dea0a7f0ae7ab037a1dee1a8b7dd", func := "percolate/percolatelaw49.SqueezeOnce", spec := "squeezeOnce", unfollowed := true, recurses := true, apart := false }
def SqueezeOnceSaid : Prop := squeezeOnceRow.holds Try.pinned (OpenSpec.ofChange squeezeOnceSpec)

/-- ITS FALSE NEIGHBOUR: 'it returns false'. Refute it at one input. -/
def squeezeOnceWrong : ChangeSpec := { name := "squeezeOnce", fn := fun _ => fun
  | [d] => { results := [.lit (.bool false)], args := [d] }
  | _ => none }
def SqueezeOnceWrongFalsely : Prop := squeezeOnceRow.holds Try.pinned (OpenSpec.ofChange squeezeOnceWrong)

/-- 'percolatelaw49.SqueezeKeeps': WHATEVER THE INPUT: true; the input reads as it did. -/
def squeezeKeepsSpec : ChangeSpec := { name := "squeezeKeeps", fn := fun _ => fun
  | [d1, d2] => { results := [.lit (.bool true)], args := [d1, d2] }
  | _ => none }
def squeezeKeepsRow : OpenClaim := { program := "ytdjkefndigijjaa", sum := "95b623a02e07cdb78e1b4ae9e65fcd65e888dea0a7f0ae7ab037a1dee1a8b7dd", func := "percolate/percolatelaw49.SqueezeKeeps", spec := "squeezeKeeps", unfollowed := true, recurses := true, apart := false }
def SqueezeKeepsSaid : Prop := squeezeKeepsRow.holds Try.pinned (OpenSpec.ofChange squeezeKeepsSpec)

/-- ITS FALSE NEIGHBOUR: 'it returns false'. Refute it at one input. -/
def squeezeKeepsWrong : ChangeSpec := { name := "squeezeKeeps", fn := fun _ => fun
  | [d1, d2] => { results := [.lit (.bool false)], args := [d1, d2] }
  | _ => none }
def SqueezeKeepsWrongFalsely : Prop := squeezeKeepsRow.holds Try.pinned (OpenSpec.ofChange squeezeKeepsWrong)

/-- 'percolatelaw39.HistoryTells': WHATEVER THE INPUT: true; the input reads as it did. -/
def historyTellsSpec : ChangeSpec := { name := "historyTells", fn := fun _ => fun
  | [d1, d2] => { results := [.lit (.bool true)], args := [d1, d2] }
  | _ => none }
def historyTellsRow : OpenClaim := { program := "ytdjkefndigijjaa", sum := "95b623a02e07cdb78e1b4ae9e65fcd65e888dea0a7f0ae7ab037a1dee1a8b7dd", func := "percolate/percolatelaw39.HistoryTells", spec := "historyTells", unfollowed := true, recurses := true, apart := false }
def HistoryTellsSaid : Prop := historyTellsRow.holds Try.pinned (OpenSpec.ofChange historyTellsSpec)

/-- ITS FALSE NEIGHBOUR: 'it returns false'. Refute it at one input. -/
def historyTellsWrong : ChangeSpec := { name := "historyTells", fn := fun _ => fun
  | [d1, d2] => { results := [.lit (.bool false)], args := [d1, d2] }
  | _ => none }
def HistoryTellsWrongFalsely : Prop := historyTellsRow.holds Try.pinned (OpenSpec.ofChange historyTellsWrong)

/-- 'percolatelaw01.KeySorts': WHATEVER THE INPUT: true; the input reads as it did. -/
def keySortsSpec : ChangeSpec := { name := "keySorts", fn := fun _ => fun
  | [d] => { results := [.lit (.bool true)], args := [d] }
  | _ => none }
def keySortsRow : OpenClaim := { program := "ytdjkefndigijjaa", sum := "95b623a02e07cdb78e1b4ae9e65fcd65e888dea0a7f0ae7ab037a1dee1a8b7dd", func := "percolate/percolatelaw01.KeySorts", spec := "keySorts", unfollowed := true, recurses := true, apart := false }
def KeySortsSaid : Prop := keySortsRow.holds Try.pinned (OpenSpec.ofChange keySortsSpec)

/-- ITS FALSE NEIGHBOUR: 'it returns false'. Refute it at one input. -/
def keySortsWrong : ChangeSpec := { name := "keySorts", fn := fun _ => fun
  | [d] => { results := [.lit (.bool false)], args := [d] }
  | _ => none }
def KeySortsWrongFalsely : Prop := keySortsRow.holds Try.pinned (OpenSpec.ofChange keySortsWrong)

/-- 'percolatelaw49.SqueezeTells': WHATEVER THE INPUT: true; the input reads as it did. -/
def squeezeTellsSpec : ChangeSpec := { name := "squeezeTells", fn := fun _ => fun
  | [d1, d2] => { results := [.lit (.bool true)], args := [d1, d2] }
  | _ => none }
def squeezeTellsRow : OpenClaim := { program := "ytdjkefndigijjaa", sum := "95b623a02e07cdb78e1b4ae9e65fcd65e888dea0a7f0ae7ab037a1dee1a8b7dd", func := "percolate/percolatelaw49.SqueezeTells", spec := "squeezeTells", unfollowed := true, recurses := true, apart := false }
def SqueezeTellsSaid : Prop := squeezeTellsRow.holds Try.pinned (OpenSpec.ofChange squeezeTellsSpec)

/-- ITS FALSE NEIGHBOUR: 'it returns false'. Refute it at one input. -/
def squeezeTellsWrong : ChangeSpec := { name := "squeezeTells", fn := fun _ => fun
  | [d1, d2] => { results := [.lit (.bool false)], args := [d1, d2] }
  | _ => none }
def SqueezeTellsWrongFalsely : Prop := squeezeTellsRow.holds Try.pinned (OpenSpec.ofChange squeezeTellsWrong)

/- THE SECOND FORM. 'bulk': how many values and letters a reading holds, each counted each time it is reached (what is shared counts as often as it is met; a slice's spare places count too). A statement '..UptoSaid' is the law's where the arguments, and the package variables that the reading takes, are together of bulk at most 1048576: NARROWER than '..Said'. Prove '..Said' where nothing that the law and all that it calls make is longer than what came in: it says more and counts as full. Else prove '..UptoSaid'. A law counts once. -/
mutual
def uptoBulk {H : Type} : DataW H → Nat
  | .lit (.string bytes) => bytes.length + 1
  | .lit _ => 1
  | .nil => 1
  | .ptr d => uptoBulk d + 1
  | .slice elems spare => uptoBulkAll elems + uptoBulkAll spare + 1
  | .agg parts => uptoBulkAll parts + 1
  | .iface _ d => uptoBulk d + 1
  | .map entries => uptoBulkEntries entries + 1
  | .held _ => 1
def uptoBulkAll {H : Type} : List (DataW H) → Nat
  | [] => 0
  | d :: r => uptoBulk d + uptoBulkAll r
def uptoBulkEntries {H : Type} : List (Lit × DataW H) → Nat
  | [] => 0
  | x :: r => uptoBulkEntry x + uptoBulkEntries r
def uptoBulkEntry {H : Type} : Lit × DataW H → Nat
  | (.string bytes, d) => bytes.length + uptoBulk d + 1
  | (_, d) => uptoBulk d + 1
 end
def uptoSmall : (H : Type) → List (DataW H) → Bool := fun _ ds => decide (uptoBulkAll ds ≤ 1048576)
def OpenSpec.upto (s : _root_.Go.ChangeSpec) : _root_.Go.OpenSpec := { _root_.Go.OpenSpec.ofChange s with cond := some uptoSmall }

/-- 'percolatelaw45.FairTells', WHERE WHAT IT READS IS OF BULK AT MOST 1048576: true; the input reads as it did. -/
def fairTellsUptoRow : OpenClaim := { program := "ytdjkefndigijjaa", sum := "95b623a02e07cdb78e1b4ae9e65fcd65e888dea0a7f0ae7ab037a1dee1a8b7dd", func := "percolate/percolatelaw45.FairTells", spec := "fairTells", unfollowed := true, recurses := true, apart := false, narrowed := true }
def FairTellsUptoSaid : Prop := fairTellsUptoRow.holds Try.pinned (OpenSpec.upto fairTellsSpec)

/-- 'percolatelaw55.LadderOrder', WHERE WHAT IT READS IS OF BULK AT MOST 1048576: true; the input reads as it did. -/
def ladderOrderUptoRow : OpenClaim := { program := "ytdjkefndigijjaa", sum := "95b623a02e07cdb78e1b4ae9e65fcd65e888dea0a7f0ae7ab037a1dee1a8b7dd", func := "percolate/percolatelaw55.LadderOrder", spec := "ladderOrder", apart := false, narrowed := true }
def LadderOrderUptoSaid : Prop := ladderOrderUptoRow.holds Try.pinned (OpenSpec.upto ladderOrderSpec)

/-- 'percolatelaw45.FairLays', WHERE WHAT IT READS IS OF BULK AT MOST 1048576: true; the input reads as it did. -/
def fairLaysUptoRow : OpenClaim := { program := "ytdjkefndigijjaa", sum := "95b623a02e07cdb78e1b4ae9e65fcd65e888dea0a7f0ae7ab037a1dee1a8b7dd", func := "percolate/percolatelaw45.FairLays", spec := "fairLays", unfollowed := true, recurses := true, apart := false, narrowed := true }
def FairLaysUptoSaid : Prop := fairLaysUptoRow.holds Try.pinned (OpenSpec.upto fairLaysSpec)

/-- 'percolatelaw49.SqueezeOnce', WHERE WHAT IT READS IS OF BULK AT MOST 1048576: true; the input reads as it did. -/
def squeezeOnceUptoRow : OpenClaim := { program := "ytdjkefndigijjaa", sum := "95b623a02e07cdb78e1b4ae9e65fcd65e888dea0a7f0ae7ab037a1dee1a8b7dd", func := "percolate/percolatelaw49.SqueezeOnce", spec := "squeezeOnce", unfollowed := true, recurses := true, apart := false, narrowed := true }
def SqueezeOnceUptoSaid : Prop := squeezeOnceUptoRow.holds Try.pinned (OpenSpec.upto squeezeOnceSpec)

/-- 'percolatelaw49.SqueezeKeeps', WHERE WHAT IT READS IS OF BULK AT MOST 1048576: true; the input reads as it did. -/
def squeezeKeepsUptoRow : OpenClaim := { program := "ytdjkefndigijjaa", sum := "95b623a02e07cdb78e1b4ae9e65fcd65e888dea0a7f0ae7ab037a1dee1a8b7dd", func := "percolate/percolatelaw49.SqueezeKeeps", spec := "squeezeKeeps", unfollowed := true, recurses := true, apart := false, narrowed := true }
def SqueezeKeepsUptoSaid : Prop := squeezeKeepsUptoRow.holds Try.pinned (OpenSpec.upto squeezeKeepsSpec)

/-- 'percolatelaw39.HistoryTells', WHERE WHAT IT READS IS OF BULK AT MOST 1048576: true; the input reads as it did. -/
def historyTellsUptoRow : OpenClaim := { program := "ytdjkefndigijjaa", sum := "95b623a02e07cdb78e1b4ae9e65fcd65e888dea0a7f0ae7ab037a1dee1a8b7dd", func := "percolate/percolatelaw39.HistoryTells", spec := "historyTells", unfollowed := true, recurses := true, apart := false, narrowed := true }
def HistoryTellsUptoSaid : Prop := historyTellsUptoRow.holds Try.pinned (OpenSpec.upto historyTellsSpec)

/-- 'percolatelaw01.KeySorts', WHERE WHAT IT READS IS OF BULK AT MOST 1048576: true; the input reads as it did. -/
def keySortsUptoRow : OpenClaim := { program := "ytdjkefndigijjaa", sum := "95b623a02e07cdb78e1b4ae9e65fcd65e888dea0a7f0ae7ab037a1dee1a8b7dd", func := "percolate/percolatelaw01.KeySorts", spec := "keySorts", unfollowed := true, recurses := true, apart := false, narrowed := true }
def KeySortsUptoSaid : Prop := keySortsUptoRow.holds Try.pinned (OpenSpec.upto keySortsSpec)

/-- 'percolatelaw49.SqueezeTells', WHERE WHAT IT READS IS OF BULK AT MOST 1048576: true; the input reads as it did. -/
def squeezeTellsUptoRow : OpenClaim := { program := "ytdjkefndigijjaa", sum := "95b623a02e07cdb78e1b4ae9e65fcd65e888dea0a7f0ae7ab037a1dee1a8b7dd", func := "percolate/percolatelaw49.SqueezeTells", spec := "squeezeTells", unfollowed := true, recurses := true, apart := false, narrowed := true }
def SqueezeTellsUptoSaid : Prop := squeezeTellsUptoRow.holds Try.pinned (OpenSpec.upto squeezeTellsSpec)

end Rows
end Go.Proofs.Ytdjkefndigijjaa
