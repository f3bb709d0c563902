/-
  No cell of these rows narrows 'for every input' (looked for: loops, veiled, ifaces, maps, wideKeys, modest, calm, conditions, laid).
  DERIVED. THE GIVEN ROWS OF THIS SEAT. 4 by the template 'for every input the law returns true; each argument reads behind the call as it read before'; 0 by the template 'total and deterministic' (their statements: YtknkepokkenokaaTotals.lean).
  GIVEN WITH THE SEED: the statements are not yours to turn. If you find one false, say at which input.
  Laid BY PROGRAM, IN A SANDBOX (cutbox-rows.mjs): the forced cells as the released guide's own fill.sh prints them over the translation a8c920f7b8f4a13f… (all of the seat's roots in one cut). By AI agents, Wed Nov 11 2026. No macro, syntax, notation, axiom, sorry.
-/
import Derived.Test.YtknkepokkenokaaChecked
import GoSem.Claim
import GoSem.ClaimJoined
import GoSem.ClaimMapViews
import Derived.JoinedTies
import Derived.KernelRfl
namespace Go.Proofs.Ytknkepokkenokaa
/- THE CELL 'sum', in the pinned program and in every row, IS THE sha256 OF THE DUMP (.gsa) THAT YtknkepokkenokaaProg.lean LOADS. Nothing in Lean hashes anything: it is a label: what it is worth is what the hold of that sum in a sandbox is worth. -/
noncomputable def Try.pinned : Pinned := { name := "ytknkepokkenokaa", sum := "a8c920f7b8f4a13fc3926b148a08660d1085167a29b707c6940af1fe0d7b9aff", checked := Try.checked }
namespace Rows
def none {H : Type} : Left H := { results := [], args := [] }

/-- 'exciselaw14.TagParts': WHATEVER THE INPUT: true; the input reads as it did. -/
def tagPartsSpec : ChangeSpec := { name := "tagParts", fn := fun _ => fun
  | [d1, d2, d3] => { results := [.lit (.bool true)], args := [d1, d2, d3] }
  | _ => none }
def tagPartsRow : OpenClaim := { program := "ytknkepokkenokaa", sum := "a8c920f7b8f4a13fc3926b148a08660d1085167a29b707c6940af1fe0d7b9aff", func := "excise/exciselaw14.TagParts", spec := "tagParts", unfollowed := true, recurses := true, apart := false }
def TagPartsSaid : Prop := tagPartsRow.holds Try.pinned (OpenSpec.ofChange tagPartsSpec)

/-- ITS FALSE NEIGHBOUR: 'it returns false'. Refute it at one input. -/
def tagPartsWrong : ChangeSpec := { name := "tagParts", fn := fun _ => fun
  | [d1, d2, d3] => { results := [.lit (.bool false)], args := [d1, d2, d3] }
  | _ => none }
def TagPartsWrongFalsely : Prop := tagPartsRow.holds Try.pinned (OpenSpec.ofChange tagPartsWrong)

/-- 'exciselaw14.TagCells': WHATEVER THE INPUT: true; the input reads as it did. -/
def tagCellsSpec : ChangeSpec := { name := "tagCells", fn := fun _ => fun
  | [d1, d2, d3] => { results := [.lit (.bool true)], args := [d1, d2, d3] }
  | _ => none }
def tagCellsRow : OpenClaim := { program := "ytknkepokkenokaa", sum := "a8c920f7b8f4a13fc3926b148a08660d1085167a29b707c6940af1fe0d7b9aff", func := "excise/exciselaw14.TagCells", spec := "tagCells", unfollowed := true, recurses := true, apart := false }
def TagCellsSaid : Prop := tagCellsRow.holds Try.pinned (OpenSpec.ofChange tagCellsSpec)

/-- ITS FALSE NEIGHBOUR: 'it returns false'. Refute it at one input. -/
def tagCellsWrong : ChangeSpec := { name := "tagCells", fn := fun _ => fun
  | [d1, d2, d3] => { results := [.lit (.bool false)], args := [d1, d2, d3] }
  | _ => none }
def TagCellsWrongFalsely : Prop := tagCellsRow.holds Try.pinned (OpenSpec.ofChange tagCellsWrong)

/-- 'exciselaw14.TagHolds': WHATEVER THE INPUT: true; the input reads as it did. -/
def tagHoldsSpec : ChangeSpec := { name := "tagHolds", fn := fun _ => fun
  | [d1, d2, d3] => { results := [.lit (.bool true)], args := [d1, d2, d3] }
  | _ => none }
def tagHoldsRow : OpenClaim := { program := "ytknkepokkenokaa", sum := "a8c920f7b8f4a13fc3926b148a08660d1085167a29b707c6940af1fe0d7b9aff", func := "excise/exciselaw14.TagHolds", spec := "tagHolds", unfollowed := true, recurses := true, apart := false }
def TagHoldsSaid : Prop := tagHoldsRow.holds Try.pinned (OpenSpec.ofChange tagHoldsSpec)

/-- ITS FALSE NEIGHBOUR: 'it returns false'. Refute it at one input. -/
def tagHoldsWrong : ChangeSpec := { name := "tagHolds", fn := fun _ => fun
  | [d1, d2, d3] => { results := [.lit (.bool false)], args := [d1, d2, d3] }
  | _ => none }
def TagHoldsWrongFalsely : Prop := tagHoldsRow.holds Try.pinned (OpenSpec.ofChange tagHoldsWrong)

/-- 'exciselaw14.TagAlike': WHATEVER THE INPUT: true; the input reads as it did. -/
def tagAlikeSpec : ChangeSpec := { name := "tagAlike", fn := fun _ => fun
  | [d1, d2, d3] => { results := [.lit (.bool true)], args := [d1, d2, d3] }
  | _ => none }
def tagAlikeRow : OpenClaim := { program := "ytknkepokkenokaa", sum := "a8c920f7b8f4a13fc3926b148a08660d1085167a29b707c6940af1fe0d7b9aff", func := "excise/exciselaw14.TagAlike", spec := "tagAlike", unfollowed := true, recurses := true, apart := false }
def TagAlikeSaid : Prop := tagAlikeRow.holds Try.pinned (OpenSpec.ofChange tagAlikeSpec)

/-- ITS FALSE NEIGHBOUR: 'it returns false'. Refute it at one input. -/
def tagAlikeWrong : ChangeSpec := { name := "tagAlike", fn := fun _ => fun
  | [d1, d2, d3] => { results := [.lit (.bool false)], args := [d1, d2, d3] }
  | _ => none }
def TagAlikeWrongFalsely : Prop := tagAlikeRow.holds Try.pinned (OpenSpec.ofChange tagAlikeWrong)

/- THE SECOND FORM. 'bulk': how many values and letters a reading holds, each counted each time it is reached (what is shared counts as often as it is met; a slice's spare places count too). A statement '..UptoSaid' is the law's where the arguments, and the package variables that the reading takes, are together of bulk at most 1048576: NARROWER than '..Said'. Prove '..Said' where nothing that the law and all that it calls make is longer than what came in: it says more and counts as full. Else prove '..UptoSaid'. A law counts once. -/
mutual
def uptoBulk {H : Type} : DataW H → Nat
  | .lit (.string bytes) => bytes.length + 1
  | .lit _ => 1
  | .nil => 1
  | .ptr d => uptoBulk d + 1
  | .slice elems spare => uptoBulkAll elems + uptoBulkAll spare + 1
  | .agg parts => uptoBulkAll parts + 1
  | .iface _ d => uptoBulk d + 1
  | .map entries => uptoBulkEntries entries + 1
  | .held _ => 1
def uptoBulkAll {H : Type} : List (DataW H) → Nat
  | [] => 0
  | d :: r => uptoBulk d + uptoBulkAll r
def uptoBulkEntries {H : Type} : List (Lit × DataW H) → Nat
  | [] => 0
  | x :: r => uptoBulkEntry x + uptoBulkEntries r
def uptoBulkEntry {H : Type} : Lit × DataW H → Nat
  | (.string bytes, d) => bytes.length + uptoBulk d + 1
  | (_, d) => uptoBulk d + 1
 end
def uptoSmall : (H : Type) → List (DataW H) → Bool := fun _ ds => decide (uptoBulkAll ds ≤ 1048576)
def OpenSpec.upto (s : _root_.Go.ChangeSpec) : _root_.Go.OpenSpec := { _root_.Go.OpenSpec.ofChange s with cond := some uptoSmall }

/-- 'exciselaw14.TagParts', WHERE WHAT IT READS IS OF BULK AT MOST 1048576: true; the input reads as it did. -/
def tagPartsUptoRow : OpenClaim := { program := "ytknkepokkenokaa", sum := "a8c920f7b8f4a13fc3926b148a08660d1085167a29b707c6940af1fe0d7b9aff", func := "excise/exciselaw14.TagParts", spec := "tagParts", unfollowed := true, recurses := true, apart := false, narrowed := true }
def TagPartsUptoSaid : Prop := tagPartsUptoRow.holds Try.pinned (OpenSpec.upto tagPartsSpec)

/-- 'exciselaw14.TagCells', WHERE WHAT IT READS IS OF BULK AT MOST 1048576: true; the input reads as it did. -/
def tagCellsUptoRow : OpenClaim := { program := "ytknkepokkenokaa", sum := "a8c920f7b8f4a13fc3926b148a08660d1085167a29b707c6940af1fe0d7b9aff", func := "excise/exciselaw14.TagCells", spec := "tagCells", unfollowed := true, recurses := true, apart := false, narrowed := true }
def TagCellsUptoSaid : Prop := tagCellsUptoRow.holds Try.pinned (OpenSpec.upto tagCellsSpec)

/-- 'exciselaw14.TagHolds', WHERE WHAT IT READS IS OF BULK AT MOST 1048576: true; the input reads as it did. -/
def tagHoldsUptoRow : OpenClaim := { program := "ytknkepokkenokaa", sum := "a8c920f7b8f4a13fc3926b148a08660d1085167a29b707c6940af1fe0d7b9aff", func := "excise/exciselaw14.TagHolds", spec := "tagHolds", unfollowed := true, recurses := true, apart := false, narrowed := true }
def TagHoldsUptoSaid : Prop := tagHoldsUptoRow.holds Try.pinned (OpenSpec.upto tagHoldsSpec)

/-- 'exciselaw14.TagAlike', WHERE WHAT IT READS IS OF BULK AT MOST 1048576: true; the input reads as it did. -/
def tagAlikeUptoRow : OpenClaim := { program := "ytknkepokkenokaa", sum := "a8c920f7b8f4a13fc3926b148a08660d1085167a29b707c6940af1fe0d7b9aff", func := "excise/exciselaw14.TagAlike", spec := "tagAlike", unfollowed := true, recurses := true, apart := false, narrowed := true }
def TagAlikeUptoSaid : Prop := tagAlikeUptoRow.holds Try.pinned (OpenSpec.upto tagAlikeSpec)

end Rows
end Go.Proofs.Ytknkepokkenokaa
