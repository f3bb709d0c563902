/-
  No cell of these rows narrows 'for every input' (looked for: loops, veiled, ifaces, maps, wideKeys, modest, calm, conditions, laid).
  DERIVED. THE GIVEN ROWS OF THIS SEAT. 5 by the template 'for every input the law returns true; each argument reads behind the call as it read before'; 0 by the template 'total and deterministic' (their statements: YtjmaigienigpnaaTotals.lean).
  GIVEN WITH THE SEED: the statements are not yours to turn. If you find one false, say at which input.
  Laid BY PROGRAM, IN A SANDBOX (cutbox-rows.mjs): the forced cells as the released guide's own fill.sh prints them over the translation 32b34446b006c66e… (all of the seat's roots in one cut). By AI agents, Wed Nov 11 2026. No macro, syntax, notation, axiom, sorry.
-/
import Derived.Test.YtjmaigienigpnaaChecked
import GoSem.Claim
import GoSem.ClaimJoined
import GoSem.ClaimMapViews
import Derived.JoinedTies
import Derived.KernelRfl
namespace Go.Proofs.Ytjmaigienigpnaa
/- THE CELL 'sum', in the pinned program and in every row, IS THE sha256 OF THE DUMP (.gsa) THAT YtjmaigienigpnaaProg.lean LOADS. Nothing in Lean hashes anything: it is a label: what it is worth is what the hold of that sum in a sandbox is worth. -/
noncomputable def Try.pinned : Pinned := { name := "ytjmaigienigpnaa", sum := "32b34446b006c66e7ab6cefa991b695b1261575500e27f9dbfb4ec889d23b9e9", checked := Try.checked }
namespace Rows
def none {H : Type} : Left H := { results := [], args := [] }

/-- 'exciselaw02.SplitMods': WHATEVER THE INPUT: true; the input reads as it did. -/
def splitModsSpec : ChangeSpec := { name := "splitMods", fn := fun _ => fun
  | [d1, d2, d3] => { results := [.lit (.bool true)], args := [d1, d2, d3] }
  | _ => none }
def splitModsRow : OpenClaim := { program := "ytjmaigienigpnaa", sum := "32b34446b006c66e7ab6cefa991b695b1261575500e27f9dbfb4ec889d23b9e9", func := "excise/exciselaw02.SplitMods", spec := "splitMods", inPlace := ["math/bits.Add64", "math/bits.Sub64"], unfollowed := true, recurses := true, apart := false }
def SplitModsSaid : Prop := splitModsRow.holds Try.pinned (OpenSpec.ofChange splitModsSpec)

/-- ITS FALSE NEIGHBOUR: 'it returns false'. Refute it at one input. -/
def splitModsWrong : ChangeSpec := { name := "splitMods", fn := fun _ => fun
  | [d1, d2, d3] => { results := [.lit (.bool false)], args := [d1, d2, d3] }
  | _ => none }
def SplitModsWrongFalsely : Prop := splitModsRow.holds Try.pinned (OpenSpec.ofChange splitModsWrong)

/-- 'exciselaw02.SplitSteps': WHATEVER THE INPUT: true; the input reads as it did. -/
def splitStepsSpec : ChangeSpec := { name := "splitSteps", fn := fun _ => fun
  | [d1, d2, d3] => { results := [.lit (.bool true)], args := [d1, d2, d3] }
  | _ => none }
def splitStepsRow : OpenClaim := { program := "ytjmaigienigpnaa", sum := "32b34446b006c66e7ab6cefa991b695b1261575500e27f9dbfb4ec889d23b9e9", func := "excise/exciselaw02.SplitSteps", spec := "splitSteps", inPlace := ["math/bits.Add64", "math/bits.Sub64"], unfollowed := true, recurses := true, apart := false }
def SplitStepsSaid : Prop := splitStepsRow.holds Try.pinned (OpenSpec.ofChange splitStepsSpec)

/-- ITS FALSE NEIGHBOUR: 'it returns false'. Refute it at one input. -/
def splitStepsWrong : ChangeSpec := { name := "splitSteps", fn := fun _ => fun
  | [d1, d2, d3] => { results := [.lit (.bool false)], args := [d1, d2, d3] }
  | _ => none }
def SplitStepsWrongFalsely : Prop := splitStepsRow.holds Try.pinned (OpenSpec.ofChange splitStepsWrong)

/-- 'exciselaw02.SplitHolds': WHATEVER THE INPUT: true; the input reads as it did. -/
def splitHoldsSpec : ChangeSpec := { name := "splitHolds", fn := fun _ => fun
  | [d1, d2] => { results := [.lit (.bool true)], args := [d1, d2] }
  | _ => none }
def splitHoldsRow : OpenClaim := { program := "ytjmaigienigpnaa", sum := "32b34446b006c66e7ab6cefa991b695b1261575500e27f9dbfb4ec889d23b9e9", func := "excise/exciselaw02.SplitHolds", spec := "splitHolds", inPlace := ["math/bits.Add64", "math/bits.Sub64"], unfollowed := true, recurses := true, apart := false }
def SplitHoldsSaid : Prop := splitHoldsRow.holds Try.pinned (OpenSpec.ofChange splitHoldsSpec)

/-- ITS FALSE NEIGHBOUR: 'it returns false'. Refute it at one input. -/
def splitHoldsWrong : ChangeSpec := { name := "splitHolds", fn := fun _ => fun
  | [d1, d2] => { results := [.lit (.bool false)], args := [d1, d2] }
  | _ => none }
def SplitHoldsWrongFalsely : Prop := splitHoldsRow.holds Try.pinned (OpenSpec.ofChange splitHoldsWrong)

/-- 'exciselaw02.SplitEnds': WHATEVER THE INPUT: true; the input reads as it did. -/
def splitEndsSpec : ChangeSpec := { name := "splitEnds", fn := fun _ => fun
  | [d1, d2] => { results := [.lit (.bool true)], args := [d1, d2] }
  | _ => none }
def splitEndsRow : OpenClaim := { program := "ytjmaigienigpnaa", sum := "32b34446b006c66e7ab6cefa991b695b1261575500e27f9dbfb4ec889d23b9e9", func := "excise/exciselaw02.SplitEnds", spec := "splitEnds", inPlace := ["math/bits.Add64", "math/bits.Sub64"], unfollowed := true, recurses := true, apart := false }
def SplitEndsSaid : Prop := splitEndsRow.holds Try.pinned (OpenSpec.ofChange splitEndsSpec)

/-- ITS FALSE NEIGHBOUR: 'it returns false'. Refute it at one input. -/
def splitEndsWrong : ChangeSpec := { name := "splitEnds", fn := fun _ => fun
  | [d1, d2] => { results := [.lit (.bool false)], args := [d1, d2] }
  | _ => none }
def SplitEndsWrongFalsely : Prop := splitEndsRow.holds Try.pinned (OpenSpec.ofChange splitEndsWrong)

/-- 'exciselaw02.SplitParts': WHATEVER THE INPUT: true; the input reads as it did. -/
def splitPartsSpec : ChangeSpec := { name := "splitParts", fn := fun _ => fun
  | [d1, d2] => { results := [.lit (.bool true)], args := [d1, d2] }
  | _ => none }
def splitPartsRow : OpenClaim := { program := "ytjmaigienigpnaa", sum := "32b34446b006c66e7ab6cefa991b695b1261575500e27f9dbfb4ec889d23b9e9", func := "excise/exciselaw02.SplitParts", spec := "splitParts", inPlace := ["math/bits.Add64", "math/bits.Sub64"], unfollowed := true, recurses := true, apart := false }
def SplitPartsSaid : Prop := splitPartsRow.holds Try.pinned (OpenSpec.ofChange splitPartsSpec)

/-- ITS FALSE NEIGHBOUR: 'it returns false'. Refute it at one input. -/
def splitPartsWrong : ChangeSpec := { name := "splitParts", fn := fun _ => fun
  | [d1, d2] => { results := [.lit (.bool false)], args := [d1, d2] }
  | _ => none }
def SplitPartsWrongFalsely : Prop := splitPartsRow.holds Try.pinned (OpenSpec.ofChange splitPartsWrong)

/- THE SECOND FORM. 'bulk': how many values and letters a reading holds, each counted each time it is reached (what is shared counts as often as it is met; a slice's spare places count too). A statement '..UptoSaid' is the law's where the arguments, and the package variables that the reading takes, are together of bulk at most 1048576: NARROWER than '..Said'. Prove '..Said' where nothing that the law and all that it calls make is longer than what came in: it says more and counts as full. Else prove '..UptoSaid'. A law counts once. -/
mutual
def uptoBulk {H : Type} : DataW H → Nat
  | .lit (.string bytes) => bytes.length + 1
  | .lit _ => 1
  | .nil => 1
  | .ptr d => uptoBulk d + 1
  | .slice elems spare => uptoBulkAll elems + uptoBulkAll spare + 1
  | .agg parts => uptoBulkAll parts + 1
  | .iface _ d => uptoBulk d + 1
  | .map entries => uptoBulkEntries entries + 1
  | .held _ => 1
def uptoBulkAll {H : Type} : List (DataW H) → Nat
  | [] => 0
  | d :: r => uptoBulk d + uptoBulkAll r
def uptoBulkEntries {H : Type} : List (Lit × DataW H) → Nat
  | [] => 0
  | x :: r => uptoBulkEntry x + uptoBulkEntries r
def uptoBulkEntry {H : Type} : Lit × DataW H → Nat
  | (.string bytes, d) => bytes.length + uptoBulk d + 1
  | (_, d) => uptoBulk d + 1
 end
def uptoSmall : (H : Type) → List (DataW H) → Bool := fun _ ds => decide (uptoBulkAll ds ≤ 1048576)
def OpenSpec.upto (s : _root_.Go.ChangeSpec) : _root_.Go.OpenSpec := { _root_.Go.OpenSpec.ofChange s with cond := some uptoSmall }

/-- 'exciselaw02.SplitMods', WHERE WHAT IT READS IS OF BULK AT MOST 1048576: true; the input reads as it did. -/
def splitModsUptoRow : OpenClaim := { program := "ytjmaigienigpnaa", sum := "32b34446b006c66e7ab6cefa991b695b1261575500e27f9dbfb4ec889d23b9e9", func := "excise/exciselaw02.SplitMods", spec := "splitMods", inPlace := ["math/bits.Add64", "math/bits.Sub64"], unfollowed := true, recurses := true, apart := false, narrowed := true }
def SplitModsUptoSaid : Prop := splitModsUptoRow.holds Try.pinned (OpenSpec.upto splitModsSpec)

/-- 'exciselaw02.SplitSteps', WHERE WHAT IT READS IS OF BULK AT MOST 1048576: true; the input reads as it did. -/
def splitStepsUptoRow : OpenClaim := { program := "ytjmaigienigpnaa", sum := "32b34446b006c66e7ab6cefa991b695b1261575500e27f9dbfb4ec889d23b9e9", func := "excise/exciselaw02.SplitSteps", spec := "splitSteps", inPlace := ["math/bits.Add64", "math/bits.Sub64"], unfollowed := true, recurses := true, apart := false, narrowed := true }
def SplitStepsUptoSaid : Prop := splitStepsUptoRow.holds Try.pinned (OpenSpec.upto splitStepsSpec)

/-- 'exciselaw02.SplitHolds', WHERE WHAT IT READS IS OF BULK AT MOST 1048576: true; the input reads as it did. -/
def splitHoldsUptoRow : OpenClaim := { program := "ytjmaigienigpnaa", sum := "32b34446b006c66e7ab6cefa991b695b1261575500e27f9dbfb4ec889d23b9e9", func := "excise/exciselaw02.SplitHolds", spec := "splitHolds", inPlace := ["math/bits.Add64", "math/bits.Sub64"], unfollowed := true, recurses := true, apart := false, narrowed := true }
def SplitHoldsUptoSaid : Prop := splitHoldsUptoRow.holds Try.pinned (OpenSpec.upto splitHoldsSpec)

/-- 'exciselaw02.SplitEnds', WHERE WHAT IT READS IS OF BULK AT MOST 1048576: true; the input reads as it did. -/
def splitEndsUptoRow : OpenClaim := { program := "ytjmaigienigpnaa", sum := "32b34446b006c66e7ab6cefa991b695b1261575500e27f9dbfb4ec889d23b9e9", func := "excise/exciselaw02.SplitEnds", spec := "splitEnds", inPlace := ["math/bits.Add64", "math/bits.Sub64"], unfollowed := true, recurses := true, apart := false, narrowed := true }
def SplitEndsUptoSaid : Prop := splitEndsUptoRow.holds Try.pinned (OpenSpec.upto splitEndsSpec)

/-- 'exciselaw02.SplitParts', WHERE WHAT IT READS IS OF BULK AT MOST 1048576: true; the input reads as it did. -/
def splitPartsUptoRow : OpenClaim := { program := "ytjmaigienigpnaa", sum := "32b34446b006c66e7ab6cefa991b695b1261575500e27f9dbfb4ec889d23b9e9", func := "excise/exciselaw02.SplitParts", spec := "splitParts", inPlace := ["math/bits.Add64", "math/bits.Sub64"], unfollowed := true, recurses := true, apart := false, narrowed := true }
def SplitPartsUptoSaid : Prop := splitPartsUptoRow.holds Try.pinned (OpenSpec.upto splitPartsSpec)

end Rows
end Go.Proofs.Ytjmaigienigpnaa
