/-
  No cell of these rows narrows 'for every input' (looked for: loops, veiled, ifaces, maps, wideKeys, modest, calm, conditions, laid).
  DERIVED. THE GIVEN ROWS OF THIS SEAT. 3 by the template 'for every input the law returns true; each argument reads behind the call as it read before'; 0 by the template 'total and deterministic' (their statements: YtjbleblllmbcbaaTotals.lean).
  GIVEN WITH THE SEED: the statements are not yours to turn. If you find one false, say at which input.
  Laid BY PROGRAM, IN A SANDBOX (cutbox-rows.mjs): the forced cells as the released guide's own fill.sh prints them over the translation eb52c390725c1e65… (all of the seat's roots in one cut). By AI agents, Wed Nov 11 2026. No macro, syntax, notation, axiom, sorry.
-/
import Derived.Test.YtjbleblllmbcbaaChecked
import GoSem.Claim
import GoSem.ClaimJoined
import GoSem.ClaimMapViews
import Derived.JoinedTies
import Derived.KernelRfl
namespace Go.Proofs.Ytjbleblllmbcbaa
/- THE CELL 'sum', in the pinned program and in every row, IS THE sha256 OF THE DUMP (.gsa) THAT YtjbleblllmbcbaaProg.lean LOADS. Nothing in Lean hashes anything: it is a label: what it is worth is what the hold of that sum in a sandbox is worth. -/
noncomputable def Try.pinned : Pinned := { name := "ytjbleblllmbcbaa", sum := "eb52c390725c1e658d4e5f239543319d7338ec938fa6c93c3eab05d306b21cdb", checked := Try.checked }
namespace Rows
def none {H : Type} : Left H := { results := [], args := [] }

/-- 'exciselaw17.WarmHolds': WHATEVER THE INPUT: true; the input reads as it did. -/
def warmHoldsSpec : ChangeSpec := { name := "warmHolds", fn := fun _ => fun
  | [d] => { results := [.lit (.bool true)], args := [d] }
  | _ => none }
def warmHoldsRow : OpenClaim := { program := "ytjbleblllmbcbaa", sum := "eb52c390725c1e658d4e5f239543319d7338ec938fa6c93c3eab05d306b21cdb", func := "excise/exciselaw17.WarmHolds", spec := "warmHolds", unfollowed := true, recurses := true, plainKeys := false, apart := false }
def WarmHoldsSaid : Prop := warmHoldsRow.holds Try.pinned (OpenSpec.ofChange warmHoldsSpec)

/-- ITS FALSE NEIGHBOUR: 'it returns false'. Refute it at one input. -/
def warmHoldsWrong : ChangeSpec := { name := "warmHolds", fn := fun _ => fun
  | [d] => { results := [.lit (.bool false)], args := [d] }
  | _ => none }
def WarmHoldsWrongFalsely : Prop := warmHoldsRow.holds Try.pinned (OpenSpec.ofChange warmHoldsWrong)

/-- 'exciselaw17.WarmCopies': WHATEVER THE INPUT: true; the input reads as it did. -/
def warmCopiesSpec : ChangeSpec := { name := "warmCopies", fn := fun _ => fun
  | [d1, d2, d3] => { results := [.lit (.bool true)], args := [d1, d2, d3] }
  | _ => none }
def warmCopiesRow : OpenClaim := { program := "ytjbleblllmbcbaa", sum := "eb52c390725c1e658d4e5f239543319d7338ec938fa6c93c3eab05d306b21cdb", func := "excise/exciselaw17.WarmCopies", spec := "warmCopies", inPlace := ["maps.clone", "internal/bytealg.Compare"], unfollowed := true, recurses := true, plainKeys := false, apart := false }
def WarmCopiesSaid : Prop := warmCopiesRow.holds Try.pinned (OpenSpec.ofChange warmCopiesSpec)

/-- ITS FALSE NEIGHBOUR: 'it returns false'. Refute it at one input. -/
def warmCopiesWrong : ChangeSpec := { name := "warmCopies", fn := fun _ => fun
  | [d1, d2, d3] => { results := [.lit (.bool false)], args := [d1, d2, d3] }
  | _ => none }
def WarmCopiesWrongFalsely : Prop := warmCopiesRow.holds Try.pinned (OpenSpec.ofChange warmCopiesWrong)

/-- 'exciselaw17.WarmPlays': WHATEVER THE INPUT: true; the input reads as it did. -/
def warmPlaysSpec : ChangeSpec := { name := "warmPlays", fn := fun _ => fun
  | [d1, d2, d3] => { results := [.lit (.bool true)], args := [d1, d2, d3] }
  | _ => none }
def warmPlaysRow : OpenClaim := { program := "ytjbleblllmbcbaa", sum := "eb52c390725c1e658d4e5f239543319d7338ec938fa6c93c3eab05d306b21cdb", func := "excise/exciselaw17.WarmPlays", spec := "warmPlays", inPlace := ["maps.clone", "internal/bytealg.Compare"], unfollowed := true, recurses := true, plainKeys := false, apart := false }
def WarmPlaysSaid : Prop := warmPlaysRow.holds Try.pinned (OpenSpec.ofChange warmPlaysSpec)

/-- ITS FALSE NEIGHBOUR: 'it returns false'. Refute it at one input. -/
def warmPlaysWrong : ChangeSpec := { name := "warmPlays", fn := fun _ => fun
  | [d1, d2, d3] => { results := [.lit (.bool false)], args := [d1, d2, d3] }
  | _ => none }
def WarmPlaysWrongFalsely : Prop := warmPlaysRow.holds Try.pinned (OpenSpec.ofChange warmPlaysWrong)

/- THE SECOND FORM. 'bulk': how many values and letters a reading holds, each counted each time it is reached (what is shared counts as often as it is met; a slice's spare places count too). A statement '..UptoSaid' is the law's where the arguments, and the package variables that the reading takes, are together of bulk at most 1048576: NARROWER than '..Said'. Prove '..Said' where nothing that the law and all that it calls make is longer than what came in: it says more and counts as full. Else prove '..UptoSaid'. A law counts once. -/
mutual
def uptoBulk {H : Type} : DataW H → Nat
  | .lit (.string bytes) => bytes.length + 1
  | .lit _ => 1
  | .nil => 1
  | .ptr d => uptoBulk d + 1
  | .slice elems spare => uptoBulkAll elems + uptoBulkAll spare + 1
  | .agg parts => uptoBulkAll parts + 1
  | .iface _ d => uptoBulk d + 1
  | .map entries => uptoBulkEntries entries + 1
  | .held _ => 1
def uptoBulkAll {H : Type} : List (DataW H) → Nat
  | [] => 0
  | d :: r => uptoBulk d + uptoBulkAll r
def uptoBulkEntries {H : Type} : List (Lit × DataW H) → Nat
  | [] => 0
  | x :: r => uptoBulkEntry x + uptoBulkEntries r
def uptoBulkEntry {H : Type} : Lit × DataW H → Nat
  | (.string bytes, d) => bytes.length + uptoBulk d + 1
  | (_, d) => uptoBulk d + 1
 end
def uptoSmall : (H : Type) → List (DataW H) → Bool := fun _ ds => decide (uptoBulkAll ds ≤ 1048576)
def OpenSpec.upto (s : _root_.Go.ChangeSpec) : _root_.Go.OpenSpec := { _root_.Go.OpenSpec.ofChange s with cond := some uptoSmall }

/-- 'exciselaw17.WarmHolds', WHERE WHAT IT READS IS OF BULK AT MOST 1048576: true; the input reads as it did. -/
def warmHoldsUptoRow : OpenClaim := { program := "ytjbleblllmbcbaa", sum := "eb52c390725c1e658d4e5f239543319d7338ec938fa6c93c3eab05d306b21cdb", func := "excise/exciselaw17.WarmHolds", spec := "warmHolds", unfollowed := true, recurses := true, plainKeys := false, apart := false, narrowed := true }
def WarmHoldsUptoSaid : Prop := warmHoldsUptoRow.holds Try.pinned (OpenSpec.upto warmHoldsSpec)

/-- 'exciselaw17.WarmCopies', WHERE WHAT IT READS IS OF BULK AT MOST 1048576: true; the input reads as it did. -/
def warmCopiesUptoRow : OpenClaim := { program := "ytjbleblllmbcbaa", sum := "eb52c390725c1e658d4e5f239543319d7338ec938fa6c93c3eab05d306b21cdb", func := "excise/exciselaw17.WarmCopies", spec := "warmCopies", inPlace := ["maps.clone", "internal/bytealg.Compare"], unfollowed := true, recurses := true, plainKeys := false, apart := false, narrowed := true }
def WarmCopiesUptoSaid : Prop := warmCopiesUptoRow.holds Try.pinned (OpenSpec.upto warmCopiesSpec)

/-- 'exciselaw17.WarmPlays', WHERE WHAT IT READS IS OF BULK AT MOST 1048576: true; the input reads as it did. -/
def warmPlaysUptoRow : OpenClaim := { program := "ytjbleblllmbcbaa", sum := "eb52c390725c1e658d4e5f239543319d7338ec938fa6c93c3eab05d306b21cdb", func := "excise/exciselaw17.WarmPlays", spec := "warmPlays", inPlace := ["maps.clone", "internal/bytealg.Compare"], unfollowed := true, recurses := true, plainKeys := false, apart := false, narrowed := true }
def WarmPlaysUptoSaid : Prop := warmPlaysUptoRow.holds Try.pinned (OpenSpec.upto warmPlaysSpec)

end Rows
end Go.Proofs.Ytjbleblllmbcbaa
