/-
  No cell of these rows narrows 'for every input' (looked for: loops, veiled, ifaces, maps, wideKeys, modest, calm, conditions, laid).
  DERIVED. THE GIVEN ROWS OF THIS SEAT. 5 by the template 'for every input the law returns true; each argument reads behind the call as it read before'; 0 by the template 'total and deterministic' (their statements: YtcfomhnfhalmaaaTotals.lean).
  GIVEN WITH THE SEED: the statements are not yours to turn. If you find one false, say at which input.
  Laid BY PROGRAM, IN A SANDBOX (cutbox-rows.mjs): the forced cells as the released guide's own fill.sh prints them over the translation 06df1aa17af9ed43… (all of the seat's roots in one cut). By AI agents, Wed Nov 11 2026. No macro, syntax, notation, axiom, sorry.
-/
import Derived.Test.YtcfomhnfhalmaaaChecked
import GoSem.Claim
import GoSem.ClaimJoined
import GoSem.ClaimMapViews
import Derived.JoinedTies
import Derived.KernelRfl
namespace Go.Proofs.Ytcfomhnfhalmaaa
/- THE CELL 'sum', in the pinned program and in every row, IS THE sha256 OF THE DUMP (.gsa) THAT YtcfomhnfhalmaaaProg.lean LOADS. Nothing in Lean hashes anything: it is a label: what it is worth is what the hold of that sum in a sandbox is worth. -/
noncomputable def Try.pinned : Pinned := { name := "ytcfomhnfhalmaaa", sum := "06df1aa17af9ed4330b6b94a4c75d88ecb4a17f4d814974a280285cb4f41123b", checked := Try.checked }
namespace Rows
def none {H : Type} : Left H := { results := [], args := [] }

/-- 'exciselaw27.StackHigh': WHATEVER THE INPUT: true; the input reads as it did. -/
def stackHighSpec : ChangeSpec := { name := "stackHigh", fn := fun _ => fun
  | [d] => { results := [.lit (.bool true)], args := [d] }
  | _ => none }
def stackHighRow : OpenClaim := { program := "ytcfomhnfhalmaaa", sum := "06df1aa17af9ed4330b6b94a4c75d88ecb4a17f4d814974a280285cb4f41123b", func := "excise/exciselaw27.StackHigh", spec := "stackHigh", inPlace := ["math/bits.Add64"], unfollowed := true, recurses := true, apart := false }
def StackHighSaid : Prop := stackHighRow.holds Try.pinned (OpenSpec.ofChange stackHighSpec)

/-- ITS FALSE NEIGHBOUR: 'it returns false'. Refute it at one input. -/
def stackHighWrong : ChangeSpec := { name := "stackHigh", fn := fun _ => fun
  | [d] => { results := [.lit (.bool false)], args := [d] }
  | _ => none }
def StackHighWrongFalsely : Prop := stackHighRow.holds Try.pinned (OpenSpec.ofChange stackHighWrong)

/-- 'exciselaw27.StackMemory': WHATEVER THE INPUT: true; the input reads as it did. -/
def stackMemorySpec : ChangeSpec := { name := "stackMemory", fn := fun _ => fun
  | [d1, d2] => { results := [.lit (.bool true)], args := [d1, d2] }
  | _ => none }
def stackMemoryRow : OpenClaim := { program := "ytcfomhnfhalmaaa", sum := "06df1aa17af9ed4330b6b94a4c75d88ecb4a17f4d814974a280285cb4f41123b", func := "excise/exciselaw27.StackMemory", spec := "stackMemory", inPlace := ["math/bits.Add64"], unfollowed := true, recurses := true, apart := false }
def StackMemorySaid : Prop := stackMemoryRow.holds Try.pinned (OpenSpec.ofChange stackMemorySpec)

/-- ITS FALSE NEIGHBOUR: 'it returns false'. Refute it at one input. -/
def stackMemoryWrong : ChangeSpec := { name := "stackMemory", fn := fun _ => fun
  | [d1, d2] => { results := [.lit (.bool false)], args := [d1, d2] }
  | _ => none }
def StackMemoryWrongFalsely : Prop := stackMemoryRow.holds Try.pinned (OpenSpec.ofChange stackMemoryWrong)

/-- 'exciselaw27.StackHolds': WHATEVER THE INPUT: true; the input reads as it did. -/
def stackHoldsSpec : ChangeSpec := { name := "stackHolds", fn := fun _ => fun
  | [d1, d2, d3] => { results := [.lit (.bool true)], args := [d1, d2, d3] }
  | _ => none }
def stackHoldsRow : OpenClaim := { program := "ytcfomhnfhalmaaa", sum := "06df1aa17af9ed4330b6b94a4c75d88ecb4a17f4d814974a280285cb4f41123b", func := "excise/exciselaw27.StackHolds", spec := "stackHolds", inPlace := ["math/bits.Add64"], unfollowed := true, recurses := true, apart := false }
def StackHoldsSaid : Prop := stackHoldsRow.holds Try.pinned (OpenSpec.ofChange stackHoldsSpec)

/-- ITS FALSE NEIGHBOUR: 'it returns false'. Refute it at one input. -/
def stackHoldsWrong : ChangeSpec := { name := "stackHolds", fn := fun _ => fun
  | [d1, d2, d3] => { results := [.lit (.bool false)], args := [d1, d2, d3] }
  | _ => none }
def StackHoldsWrongFalsely : Prop := stackHoldsRow.holds Try.pinned (OpenSpec.ofChange stackHoldsWrong)

/-- 'exciselaw27.StackPlays': WHATEVER THE INPUT: true; the input reads as it did. -/
def stackPlaysSpec : ChangeSpec := { name := "stackPlays", fn := fun _ => fun
  | [d1, d2] => { results := [.lit (.bool true)], args := [d1, d2] }
  | _ => none }
def stackPlaysRow : OpenClaim := { program := "ytcfomhnfhalmaaa", sum := "06df1aa17af9ed4330b6b94a4c75d88ecb4a17f4d814974a280285cb4f41123b", func := "excise/exciselaw27.StackPlays", spec := "stackPlays", inPlace := ["math/bits.Add64"], unfollowed := true, recurses := true, apart := false }
def StackPlaysSaid : Prop := stackPlaysRow.holds Try.pinned (OpenSpec.ofChange stackPlaysSpec)

/-- ITS FALSE NEIGHBOUR: 'it returns false'. Refute it at one input. -/
def stackPlaysWrong : ChangeSpec := { name := "stackPlays", fn := fun _ => fun
  | [d1, d2] => { results := [.lit (.bool false)], args := [d1, d2] }
  | _ => none }
def StackPlaysWrongFalsely : Prop := stackPlaysRow.holds Try.pinned (OpenSpec.ofChange stackPlaysWrong)

/-- 'exciselaw27.StackCopies': WHATEVER THE INPUT: true; the input reads as it did. -/
def stackCopiesSpec : ChangeSpec := { name := "stackCopies", fn := fun _ => fun
  | [d1, d2, d3] => { results := [.lit (.bool true)], args := [d1, d2, d3] }
  | _ => none }
def stackCopiesRow : OpenClaim := { program := "ytcfomhnfhalmaaa", sum := "06df1aa17af9ed4330b6b94a4c75d88ecb4a17f4d814974a280285cb4f41123b", func := "excise/exciselaw27.StackCopies", spec := "stackCopies", inPlace := ["math/bits.Add64"], unfollowed := true, recurses := true, apart := false }
def StackCopiesSaid : Prop := stackCopiesRow.holds Try.pinned (OpenSpec.ofChange stackCopiesSpec)

/-- ITS FALSE NEIGHBOUR: 'it returns false'. Refute it at one input. -/
def stackCopiesWrong : ChangeSpec := { name := "stackCopies", fn := fun _ => fun
  | [d1, d2, d3] => { results := [.lit (.bool false)], args := [d1, d2, d3] }
  | _ => none }
def StackCopiesWrongFalsely : Prop := stackCopiesRow.holds Try.pinned (OpenSpec.ofChange stackCopiesWrong)

/- THE SECOND FORM. 'bulk': how many values and letters a reading holds, each counted each time it is reached (what is shared counts as often as it is met; a slice's spare places count too). A statement '..UptoSaid' is the law's where the arguments, and the package variables that the reading takes, are together of bulk at most 1048576: NARROWER than '..Said'. Prove '..Said' where nothing that the law and all that it calls make is longer than what came in: it says more and counts as full. Else prove '..UptoSaid'. A law counts once. -/
mutual
def uptoBulk {H : Type} : DataW H → Nat
  | .lit (.string bytes) => bytes.length + 1
  | .lit _ => 1
  | .nil => 1
  | .ptr d => uptoBulk d + 1
  | .slice elems spare => uptoBulkAll elems + uptoBulkAll spare + 1
  | .agg parts => uptoBulkAll parts + 1
  | .iface _ d => uptoBulk d + 1
  | .map entries => uptoBulkEntries entries + 1
  | .held _ => 1
def uptoBulkAll {H : Type} : List (DataW H) → Nat
  | [] => 0
  | d :: r => uptoBulk d + uptoBulkAll r
def uptoBulkEntries {H : Type} : List (Lit × DataW H) → Nat
  | [] => 0
  | x :: r => uptoBulkEntry x + uptoBulkEntries r
def uptoBulkEntry {H : Type} : Lit × DataW H → Nat
  | (.string bytes, d) => bytes.length + uptoBulk d + 1
  | (_, d) => uptoBulk d + 1
 end
def uptoSmall : (H : Type) → List (DataW H) → Bool := fun _ ds => decide (uptoBulkAll ds ≤ 1048576)
def OpenSpec.upto (s : _root_.Go.ChangeSpec) : _root_.Go.OpenSpec := { _root_.Go.OpenSpec.ofChange s with cond := some uptoSmall }

/-- 'exciselaw27.StackHigh', WHERE WHAT IT READS IS OF BULK AT MOST 1048576: true; the input reads as it did. -/
def stackHighUptoRow : OpenClaim := { program := "ytcfomhnfhalmaaa", sum := "06df1aa17af9ed4330b6b94a4c75d88ecb4a17f4d814974a280285cb4f41123b", func := "excise/exciselaw27.StackHigh", spec := "stackHigh", inPlace := ["math/bits.Add64"], unfollowed := true, recurses := true, apart := false, narrowed := true }
def StackHighUptoSaid : Prop := stackHighUptoRow.holds Try.pinned (OpenSpec.upto stackHighSpec)

/-- 'exciselaw27.StackMemory', WHERE WHAT IT READS IS OF BULK AT MOST 1048576: true; the input reads as it did. -/
def stackMemoryUptoRow : OpenClaim := { program := "ytcfomhnfhalmaaa", sum := "06df1aa17af9ed4330b6b94a4c75d88ecb4a17f4d814974a280285cb4f41123b", func := "excise/exciselaw27.StackMemory", spec := "stackMemory", inPlace := ["math/bits.Add64"], unfollowed := true, recurses := true, apart := false, narrowed := true }
def StackMemoryUptoSaid : Prop := stackMemoryUptoRow.holds Try.pinned (OpenSpec.upto stackMemorySpec)

/-- 'exciselaw27.StackHolds', WHERE WHAT IT READS IS OF BULK AT MOST 1048576: true; the input reads as it did. -/
def stackHoldsUptoRow : OpenClaim := { program := "ytcfomhnfhalmaaa", sum := "06df1aa17af9ed4330b6b94a4c75d88ecb4a17f4d814974a280285cb4f41123b", func := "excise/exciselaw27.StackHolds", spec := "stackHolds", inPlace := ["math/bits.Add64"], unfollowed := true, recurses := true, apart := false, narrowed := true }
def StackHoldsUptoSaid : Prop := stackHoldsUptoRow.holds Try.pinned (OpenSpec.upto stackHoldsSpec)

/-- 'exciselaw27.StackPlays', WHERE WHAT IT READS IS OF BULK AT MOST 1048576: true; the input reads as it did. -/
def stackPlaysUptoRow : OpenClaim := { program := "ytcfomhnfhalmaaa", sum := "06df1aa17af9ed4330b6b94a4c75d88ecb4a17f4d814974a280285cb4f41123b", func := "excise/exciselaw27.StackPlays", spec := "stackPlays", inPlace := ["math/bits.Add64"], unfollowed := true, recurses := true, apart := false, narrowed := true }
def StackPlaysUptoSaid : Prop := stackPlaysUptoRow.holds Try.pinned (OpenSpec.upto stackPlaysSpec)

/-- 'exciselaw27.StackCopies', WHERE WHAT IT READS IS OF BULK AT MOST 1048576: true; the input reads as it did. -/
def stackCopiesUptoRow : OpenClaim := { program := "ytcfomhnfhalmaaa", sum := "06df1aa17af9ed4330b6b94a4c75d88ecb4a17f4d814974a280285cb4f41123b", func := "excise/exciselaw27.StackCopies", spec := "stackCopies", inPlace := ["math/bits.Add64"], unfollowed := true, recurses := true, apart := false, narrowed := true }
def StackCopiesUptoSaid : Prop := stackCopiesUptoRow.holds Try.pinned (OpenSpec.upto stackCopiesSpec)

end Rows
end Go.Proofs.Ytcfomhnfhalmaaa
