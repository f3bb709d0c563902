/-
  No cell of these rows narrows 'for every input' (looked for: loops, veiled, ifaces, maps, wideKeys, modest, calm, conditions, laid).
  DERIVED. THE GIVEN ROWS OF THIS SEAT. 4 by the template 'for every input the law returns true; each argument reads behind the call as it read before'; 0 by the template 'total and deterministic' (their statements: YtojmifniidddpaaTotals.lean).
  GIVEN WITH THE SEED: the statements are not yours to turn. If you find one false, say at which input.
  Laid BY PROGRAM, IN A SANDBOX (cutbox-rows.mjs): the forced cells as the released guide's own fill.sh prints them over the translation 84c387595a64357e… (all of the seat's roots in one cut). By AI agents, Wed Nov 11 2026. No macro, syntax, notation, axiom, sorry.
-/
import Derived.Test.YtojmifniidddpaaChecked
import GoSem.Claim
import GoSem.ClaimJoined
import GoSem.ClaimMapViews
import Derived.JoinedTies
import Derived.KernelRfl
namespace Go.Proofs.Ytojmifniidddpaa
/- THE CELL 'sum', in the pinned program and in every row, IS THE sha256 OF THE DUMP (.gsa) THAT YtojmifniidddpaaProg.lean LOADS. Nothing in Lean hashes anything: it is a label: what it is worth is what the hold of that sum in a sandbox is worth. -/
noncomputable def Try.pinned : Pinned := { name := "ytojmifniidddpaa", sum := "84c387595a64357e7f5bfffc69611269bcc7f211b2f03e1993873e7bf7f65da6", checked := Try.checked }
namespace Rows
def none {H : Type} : Left H := { results := [], args := [] }

/-- 'exciselaw05.DigestBlocks': WHATEVER THE INPUT: true; the input reads as it did. -/
def digestBlocksSpec : ChangeSpec := { name := "digestBlocks", fn := fun _ => fun
  | [d1, d2] => { results := [.lit (.bool true)], args := [d1, d2] }
  | _ => none }
def digestBlocksRow : OpenClaim := { program := "ytojmifniidddpaa", sum := "84c387595a64357e7f5bfffc69611269bcc7f211b2f03e1993873e7bf7f65da6", func := "excise/exciselaw05.DigestBlocks", spec := "digestBlocks", unfollowed := true, recurses := true, apart := false }
def DigestBlocksSaid : Prop := digestBlocksRow.holds Try.pinned (OpenSpec.ofChange digestBlocksSpec)

/-- ITS FALSE NEIGHBOUR: 'it returns false'. Refute it at one input. -/
def digestBlocksWrong : ChangeSpec := { name := "digestBlocks", fn := fun _ => fun
  | [d1, d2] => { results := [.lit (.bool false)], args := [d1, d2] }
  | _ => none }
def DigestBlocksWrongFalsely : Prop := digestBlocksRow.holds Try.pinned (OpenSpec.ofChange digestBlocksWrong)

/-- 'exciselaw05.DigestTurns': WHATEVER THE INPUT: true; the input reads as it did. -/
def digestTurnsSpec : ChangeSpec := { name := "digestTurns", fn := fun _ => fun
  | [d1, d2] => { results := [.lit (.bool true)], args := [d1, d2] }
  | _ => none }
def digestTurnsRow : OpenClaim := { program := "ytojmifniidddpaa", sum := "84c387595a64357e7f5bfffc69611269bcc7f211b2f03e1993873e7bf7f65da6", func := "excise/exciselaw05.DigestTurns", spec := "digestTurns", unfollowed := true, recurses := true, apart := false }
def DigestTurnsSaid : Prop := digestTurnsRow.holds Try.pinned (OpenSpec.ofChange digestTurnsSpec)

/-- ITS FALSE NEIGHBOUR: 'it returns false'. Refute it at one input. -/
def digestTurnsWrong : ChangeSpec := { name := "digestTurns", fn := fun _ => fun
  | [d1, d2] => { results := [.lit (.bool false)], args := [d1, d2] }
  | _ => none }
def DigestTurnsWrongFalsely : Prop := digestTurnsRow.holds Try.pinned (OpenSpec.ofChange digestTurnsWrong)

/-- 'exciselaw05.DigestHolds': WHATEVER THE INPUT: true; the input reads as it did. -/
def digestHoldsSpec : ChangeSpec := { name := "digestHolds", fn := fun _ => fun
  | [d1, d2] => { results := [.lit (.bool true)], args := [d1, d2] }
  | _ => none }
def digestHoldsRow : OpenClaim := { program := "ytojmifniidddpaa", sum := "84c387595a64357e7f5bfffc69611269bcc7f211b2f03e1993873e7bf7f65da6", func := "excise/exciselaw05.DigestHolds", spec := "digestHolds", unfollowed := true, recurses := true, apart := false }
def DigestHoldsSaid : Prop := digestHoldsRow.holds Try.pinned (OpenSpec.ofChange digestHoldsSpec)

/-- ITS FALSE NEIGHBOUR: 'it returns false'. Refute it at one input. -/
def digestHoldsWrong : ChangeSpec := { name := "digestHolds", fn := fun _ => fun
  | [d1, d2] => { results := [.lit (.bool false)], args := [d1, d2] }
  | _ => none }
def DigestHoldsWrongFalsely : Prop := digestHoldsRow.holds Try.pinned (OpenSpec.ofChange digestHoldsWrong)

/-- 'exciselaw05.DigestSums': WHATEVER THE INPUT: true; the input reads as it did. -/
def digestSumsSpec : ChangeSpec := { name := "digestSums", fn := fun _ => fun
  | [d1, d2] => { results := [.lit (.bool true)], args := [d1, d2] }
  | _ => none }
def digestSumsRow : OpenClaim := { program := "ytojmifniidddpaa", sum := "84c387595a64357e7f5bfffc69611269bcc7f211b2f03e1993873e7bf7f65da6", func := "excise/exciselaw05.DigestSums", spec := "digestSums", unfollowed := true, recurses := true, apart := false }
def DigestSumsSaid : Prop := digestSumsRow.holds Try.pinned (OpenSpec.ofChange digestSumsSpec)

/-- ITS FALSE NEIGHBOUR: 'it returns false'. Refute it at one input. -/
def digestSumsWrong : ChangeSpec := { name := "digestSums", fn := fun _ => fun
  | [d1, d2] => { results := [.lit (.bool false)], args := [d1, d2] }
  | _ => none }
def DigestSumsWrongFalsely : Prop := digestSumsRow.holds Try.pinned (OpenSpec.ofChange digestSumsWrong)

/- THE SECOND FORM. 'bulk': how many values and letters a reading holds, each counted each time it is reached (what is shared counts as often as it is met; a slice's spare places count too). A statement '..UptoSaid' is the law's where the arguments, and the package variables that the reading takes, are together of bulk at most 1048576: NARROWER than '..Said'. Prove '..Said' where nothing that the law and all that it calls make is longer than what came in: it says more and counts as full. Else prove '..UptoSaid'. A law counts once. -/
mutual
def uptoBulk {H : Type} : DataW H → Nat
  | .lit (.string bytes) => bytes.length + 1
  | .lit _ => 1
  | .nil => 1
  | .ptr d => uptoBulk d + 1
  | .slice elems spare => uptoBulkAll elems + uptoBulkAll spare + 1
  | .agg parts => uptoBulkAll parts + 1
  | .iface _ d => uptoBulk d + 1
  | .map entries => uptoBulkEntries entries + 1
  | .held _ => 1
def uptoBulkAll {H : Type} : List (DataW H) → Nat
  | [] => 0
  | d :: r => uptoBulk d + uptoBulkAll r
def uptoBulkEntries {H : Type} : List (Lit × DataW H) → Nat
  | [] => 0
  | x :: r => uptoBulkEntry x + uptoBulkEntries r
def uptoBulkEntry {H : Type} : Lit × DataW H → Nat
  | (.string bytes, d) => bytes.length + uptoBulk d + 1
  | (_, d) => uptoBulk d + 1
 end
def uptoSmall : (H : Type) → List (DataW H) → Bool := fun _ ds => decide (uptoBulkAll ds ≤ 1048576)
def OpenSpec.upto (s : _root_.Go.ChangeSpec) : _root_.Go.OpenSpec := { _root_.Go.OpenSpec.ofChange s with cond := some uptoSmall }

/-- 'exciselaw05.DigestBlocks', WHERE WHAT IT READS IS OF BULK AT MOST 1048576: true; the input reads as it did. -/
def digestBlocksUptoRow : OpenClaim := { program := "ytojmifniidddpaa", sum := "84c387595a64357e7f5bfffc69611269bcc7f211b2f03e1993873e7bf7f65da6", func := "excise/exciselaw05.DigestBlocks", spec := "digestBlocks", unfollowed := true, recurses := true, apart := false, narrowed := true }
def DigestBlocksUptoSaid : Prop := digestBlocksUptoRow.holds Try.pinned (OpenSpec.upto digestBlocksSpec)

/-- 'exciselaw05.DigestTurns', WHERE WHAT IT READS IS OF BULK AT MOST 1048576: true; the input reads as it did. -/
def digestTurnsUptoRow : OpenClaim := { program := "ytojmifniidddpaa", sum := "84c387595a64357e7f5bfffc69611269bcc7f211b2f03e1993873e7bf7f65da6", func := "excise/exciselaw05.DigestTurns", spec := "digestTurns", unfollowed := true, recurses := true, apart := false, narrowed := true }
def DigestTurnsUptoSaid : Prop := digestTurnsUptoRow.holds Try.pinned (OpenSpec.upto digestTurnsSpec)

/-- 'exciselaw05.DigestHolds', WHERE WHAT IT READS IS OF BULK AT MOST 1048576: true; the input reads as it did. -/
def digestHoldsUptoRow : OpenClaim := { program := "ytojmifniidddpaa", sum := "84c387595a64357e7f5bfffc69611269bcc7f211b2f03e1993873e7bf7f65da6", func := "excise/exciselaw05.DigestHolds", spec := "digestHolds", unfollowed := true, recurses := true, apart := false, narrowed := true }
def DigestHoldsUptoSaid : Prop := digestHoldsUptoRow.holds Try.pinned (OpenSpec.upto digestHoldsSpec)

/-- 'exciselaw05.DigestSums', WHERE WHAT IT READS IS OF BULK AT MOST 1048576: true; the input reads as it did. -/
def digestSumsUptoRow : OpenClaim := { program := "ytojmifniidddpaa", sum := "84c387595a64357e7f5bfffc69611269bcc7f211b2f03e1993873e7bf7f65da6", func := "excise/exciselaw05.DigestSums", spec := "digestSums", unfollowed := true, recurses := true, apart := false, narrowed := true }
def DigestSumsUptoSaid : Prop := digestSumsUptoRow.holds Try.pinned (OpenSpec.upto digestSumsSpec)

end Rows
end Go.Proofs.Ytojmifniidddpaa
