/-
  No cell of these rows narrows 'for every input' (looked for: loops, veiled, ifaces, maps, wideKeys, modest, calm, conditions, laid).
  DERIVED. THE GIVEN ROWS OF THIS SEAT. 3 by the template 'for every input the law returns true; each argument reads behind the call as it read before'; 0 by the template 'total and deterministic' (their statements: YtjlijocnmicdpaaTotals.lean).
  GIVEN WITH THE SEED: the statements are not yours to turn. If you find one false, say at which input.
  Laid BY PROGRAM, IN A SANDBOX (cutbox-rows.mjs): the forced cells as the released guide's own fill.sh prints them over the translation fa2e99af25d243a5… (all of the seat's roots in one cut). By AI agents, Wed Nov 11 2026. No macro, syntax, notation, axiom, sorry.
-/
import Derived.Test.YtjlijocnmicdpaaChecked
import GoSem.Claim
import GoSem.ClaimJoined
import GoSem.ClaimMapViews
import Derived.JoinedTies
import Derived.KernelRfl
namespace Go.Proofs.Ytjlijocnmicdpaa
/- THE CELL 'sum', in the pinned program and in every row, IS THE sha256 OF THE DUMP (.gsa) THAT YtjlijocnmicdpaaProg.lean LOADS. Nothing in Lean hashes anything: it is a label: what it is worth is what the hold of that sum in a sandbox is worth. -/
noncomputable def Try.pinned : Pinned := { name := "ytjlijocnmicdpaa", sum := "fa2e99af25d243a5068eea227cd183a1cbad5cc5ec45280f462df167f3995470", checked := Try.checked }
namespace Rows
def none {H : Type} : Left H := { results := [], args := [] }

/-- 'exciselaw25.MillTurns': WHATEVER THE INPUT: true; the input reads as it did. -/
def millTurnsSpec : ChangeSpec := { name := "millTurns", fn := fun _ => fun
  | [d1, d2] => { results := [.lit (.bool true)], args := [d1, d2] }
  | _ => none }
def millTurnsRow : OpenClaim := { program := "ytjlijocnmicdpaa", sum := "fa2e99af25d243a5068eea227cd183a1cbad5cc5ec45280f462df167f3995470", func := "excise/exciselaw25.MillTurns", spec := "millTurns", inPlace := ["math/bits.Add64"], unfollowed := true, recurses := true, apart := false }
def MillTurnsSaid : Prop := millTurnsRow.holds Try.pinned (OpenSpec.ofChange millTurnsSpec)

/-- ITS FALSE NEIGHBOUR: 'it returns false'. Refute it at one input. -/
def millTurnsWrong : ChangeSpec := { name := "millTurns", fn := fun _ => fun
  | [d1, d2] => { results := [.lit (.bool false)], args := [d1, d2] }
  | _ => none }
def MillTurnsWrongFalsely : Prop := millTurnsRow.holds Try.pinned (OpenSpec.ofChange millTurnsWrong)

/-- 'exciselaw25.MillHolds': WHATEVER THE INPUT: true; the input reads as it did. -/
def millHoldsSpec : ChangeSpec := { name := "millHolds", fn := fun _ => fun
  | [d1, d2, d3] => { results := [.lit (.bool true)], args := [d1, d2, d3] }
  | _ => none }
def millHoldsRow : OpenClaim := { program := "ytjlijocnmicdpaa", sum := "fa2e99af25d243a5068eea227cd183a1cbad5cc5ec45280f462df167f3995470", func := "excise/exciselaw25.MillHolds", spec := "millHolds", inPlace := ["math/bits.Add64"], unfollowed := true, recurses := true, apart := false }
def MillHoldsSaid : Prop := millHoldsRow.holds Try.pinned (OpenSpec.ofChange millHoldsSpec)

/-- ITS FALSE NEIGHBOUR: 'it returns false'. Refute it at one input. -/
def millHoldsWrong : ChangeSpec := { name := "millHolds", fn := fun _ => fun
  | [d1, d2, d3] => { results := [.lit (.bool false)], args := [d1, d2, d3] }
  | _ => none }
def MillHoldsWrongFalsely : Prop := millHoldsRow.holds Try.pinned (OpenSpec.ofChange millHoldsWrong)

/-- 'exciselaw25.MillBytes': WHATEVER THE INPUT: true; the input reads as it did. -/
def millBytesSpec : ChangeSpec := { name := "millBytes", fn := fun _ => fun
  | [d1, d2] => { results := [.lit (.bool true)], args := [d1, d2] }
  | _ => none }
def millBytesRow : OpenClaim := { program := "ytjlijocnmicdpaa", sum := "fa2e99af25d243a5068eea227cd183a1cbad5cc5ec45280f462df167f3995470", func := "excise/exciselaw25.MillBytes", spec := "millBytes", inPlace := ["math/bits.Add64"], unfollowed := true, recurses := true, apart := false }
def MillBytesSaid : Prop := millBytesRow.holds Try.pinned (OpenSpec.ofChange millBytesSpec)

/-- ITS FALSE NEIGHBOUR: 'it returns false'. Refute it at one input. -/
def millBytesWrong : ChangeSpec := { name := "millBytes", fn := fun _ => fun
  | [d1, d2] => { results := [.lit (.bool false)], args := [d1, d2] }
  | _ => none }
def MillBytesWrongFalsely : Prop := millBytesRow.holds Try.pinned (OpenSpec.ofChange millBytesWrong)

/- THE SECOND FORM. 'bulk': how many values and letters a reading holds, each counted each time it is reached (what is shared counts as often as it is met; a slice's spare places count too). A statement '..UptoSaid' is the law's where the arguments, and the package variables that the reading takes, are together of bulk at most 1048576: NARROWER than '..Said'. Prove '..Said' where nothing that the law and all that it calls make is longer than what came in: it says more and counts as full. Else prove '..UptoSaid'. A law counts once. -/
mutual
def uptoBulk {H : Type} : DataW H → Nat
  | .lit (.string bytes) => bytes.length + 1
  | .lit _ => 1
  | .nil => 1
  | .ptr d => uptoBulk d + 1
  | .slice elems spare => uptoBulkAll elems + uptoBulkAll spare + 1
  | .agg parts => uptoBulkAll parts + 1
  | .iface _ d => uptoBulk d + 1
  | .map entries => uptoBulkEntries entries + 1
  | .held _ => 1
def uptoBulkAll {H : Type} : List (DataW H) → Nat
  | [] => 0
  | d :: r => uptoBulk d + uptoBulkAll r
def uptoBulkEntries {H : Type} : List (Lit × DataW H) → Nat
  | [] => 0
  | x :: r => uptoBulkEntry x + uptoBulkEntries r
def uptoBulkEntry {H : Type} : Lit × DataW H → Nat
  | (.string bytes, d) => bytes.length + uptoBulk d + 1
  | (_, d) => uptoBulk d + 1
 end
def uptoSmall : (H : Type) → List (DataW H) → Bool := fun _ ds => decide (uptoBulkAll ds ≤ 1048576)
def OpenSpec.upto (s : _root_.Go.ChangeSpec) : _root_.Go.OpenSpec := { _root_.Go.OpenSpec.ofChange s with cond := some uptoSmall }

/-- 'exciselaw25.MillTurns', WHERE WHAT IT READS IS OF BULK AT MOST 1048576: true; the input reads as it did. -/
def millTurnsUptoRow : OpenClaim := { program := "ytjlijocnmicdpaa", sum := "fa2e99af25d243a5068eea227cd183a1cbad5cc5ec45280f462df167f3995470", func := "excise/exciselaw25.MillTurns", spec := "millTurns", inPlace := ["math/bits.Add64"], unfollowed := true, recurses := true, apart := false, narrowed := true }
def MillTurnsUptoSaid : Prop := millTurnsUptoRow.holds Try.pinned (OpenSpec.upto millTurnsSpec)

/-- 'exciselaw25.MillHolds', WHERE WHAT IT READS IS OF BULK AT MOST 1048576: true; the input reads as it did. -/
def millHoldsUptoRow : OpenClaim := { program := "ytjlijocnmicdpaa", sum := "fa2e99af25d243a5068eea227cd183a1cbad5cc5ec45280f462df167f3995470", func := "excise/exciselaw25.MillHolds", spec := "millHolds", inPlace := ["math/bits.Add64"], unfollowed := true, recurses := true, apart := false, narrowed := true }
def MillHoldsUptoSaid : Prop := millHoldsUptoRow.holds Try.pinned (OpenSpec.upto millHoldsSpec)

/-- 'exciselaw25.MillBytes', WHERE WHAT IT READS IS OF BULK AT MOST 1048576: true; the input reads as it did. -/
def millBytesUptoRow : OpenClaim := { program := "ytjlijocnmicdpaa", sum := "fa2e99af25d243a5068eea227cd183a1cbad5cc5ec45280f462df167f3995470", func := "excise/exciselaw25.MillBytes", spec := "millBytes", inPlace := ["math/bits.Add64"], unfollowed := true, recurses := true, apart := false, narrowed := true }
def MillBytesUptoSaid : Prop := millBytesUptoRow.holds Try.pinned (OpenSpec.upto millBytesSpec)

end Rows
end Go.Proofs.Ytjlijocnmicdpaa
