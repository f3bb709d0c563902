/-
  No cell of these rows narrows 'for every input' (looked for: loops, veiled, ifaces, maps, wideKeys, modest, calm, conditions, laid).
  DERIVED. THE GIVEN ROWS OF THIS SEAT. 4 by the template 'for every input the law returns true; each argument reads behind the call as it read before'; 0 by the template 'total and deterministic' (their statements: YtclgoamhbakdlaaTotals.lean).
  GIVEN WITH THE SEED: the statements are not yours to turn. If you find one false, say at which input.
  Laid BY PROGRAM, IN A SANDBOX (cutbox-rows.mjs): the forced cells as the released guide's own fill.sh prints them over the translation bbf4fe1789d5bc0f… (all of the seat's roots in one cut). By AI agents, Wed Nov 11 2026. No macro, syntax, notation, axiom, sorry.
-/
import Derived.Test.YtclgoamhbakdlaaChecked
import GoSem.Claim
import GoSem.ClaimJoined
import GoSem.ClaimMapViews
import Derived.JoinedTies
import Derived.KernelRfl
namespace Go.Proofs.Ytclgoamhbakdlaa
/- THE CELL 'sum', in the pinned program and in every row, IS THE sha256 OF THE DUMP (.gsa) THAT YtclgoamhbakdlaaProg.lean LOADS. Nothing in Lean hashes anything: it is a label: what it is worth is what the hold of that sum in a sandbox is worth. -/
noncomputable def Try.pinned : Pinned := { name := "ytclgoamhbakdlaa", sum := "bbf4fe1789d5bc0f0be05b64a7a9483d4d21b65430a8160b95991677bfe32e7c", checked := Try.checked }
namespace Rows
def none {H : Type} : Left H := { results := [], args := [] }

/-- 'exciselaw20.PriceMemory': WHATEVER THE INPUT: true; the input reads as it did. -/
def priceMemorySpec : ChangeSpec := { name := "priceMemory", fn := fun _ => fun
  | [d] => { results := [.lit (.bool true)], args := [d] }
  | _ => none }
def priceMemoryRow : OpenClaim := { program := "ytclgoamhbakdlaa", sum := "bbf4fe1789d5bc0f0be05b64a7a9483d4d21b65430a8160b95991677bfe32e7c", func := "excise/exciselaw20.PriceMemory", spec := "priceMemory", inPlace := ["math/bits.Add64"], unfollowed := true, recurses := true, apart := false }
def PriceMemorySaid : Prop := priceMemoryRow.holds Try.pinned (OpenSpec.ofChange priceMemorySpec)

/-- ITS FALSE NEIGHBOUR: 'it returns false'. Refute it at one input. -/
def priceMemoryWrong : ChangeSpec := { name := "priceMemory", fn := fun _ => fun
  | [d] => { results := [.lit (.bool false)], args := [d] }
  | _ => none }
def PriceMemoryWrongFalsely : Prop := priceMemoryRow.holds Try.pinned (OpenSpec.ofChange priceMemoryWrong)

/-- 'exciselaw20.PriceKinds': WHATEVER THE INPUT: true; the input reads as it did. -/
def priceKindsSpec : ChangeSpec := { name := "priceKinds", fn := fun _ => fun
  | [d1, d2, d3] => { results := [.lit (.bool true)], args := [d1, d2, d3] }
  | _ => none }
def priceKindsRow : OpenClaim := { program := "ytclgoamhbakdlaa", sum := "bbf4fe1789d5bc0f0be05b64a7a9483d4d21b65430a8160b95991677bfe32e7c", func := "excise/exciselaw20.PriceKinds", spec := "priceKinds", inPlace := ["math/bits.Add64"], unfollowed := true, recurses := true, apart := false }
def PriceKindsSaid : Prop := priceKindsRow.holds Try.pinned (OpenSpec.ofChange priceKindsSpec)

/-- ITS FALSE NEIGHBOUR: 'it returns false'. Refute it at one input. -/
def priceKindsWrong : ChangeSpec := { name := "priceKinds", fn := fun _ => fun
  | [d1, d2, d3] => { results := [.lit (.bool false)], args := [d1, d2, d3] }
  | _ => none }
def PriceKindsWrongFalsely : Prop := priceKindsRow.holds Try.pinned (OpenSpec.ofChange priceKindsWrong)

/-- 'exciselaw20.PriceHolds': WHATEVER THE INPUT: true; the input reads as it did. -/
def priceHoldsSpec : ChangeSpec := { name := "priceHolds", fn := fun _ => fun
  | [d1, d2, d3] => { results := [.lit (.bool true)], args := [d1, d2, d3] }
  | _ => none }
def priceHoldsRow : OpenClaim := { program := "ytclgoamhbakdlaa", sum := "bbf4fe1789d5bc0f0be05b64a7a9483d4d21b65430a8160b95991677bfe32e7c", func := "excise/exciselaw20.PriceHolds", spec := "priceHolds", inPlace := ["math/bits.Add64"], unfollowed := true, recurses := true, apart := false }
def PriceHoldsSaid : Prop := priceHoldsRow.holds Try.pinned (OpenSpec.ofChange priceHoldsSpec)

/-- ITS FALSE NEIGHBOUR: 'it returns false'. Refute it at one input. -/
def priceHoldsWrong : ChangeSpec := { name := "priceHolds", fn := fun _ => fun
  | [d1, d2, d3] => { results := [.lit (.bool false)], args := [d1, d2, d3] }
  | _ => none }
def PriceHoldsWrongFalsely : Prop := priceHoldsRow.holds Try.pinned (OpenSpec.ofChange priceHoldsWrong)

/-- 'exciselaw20.PriceReaches': WHATEVER THE INPUT: true; the input reads as it did. -/
def priceReachesSpec : ChangeSpec := { name := "priceReaches", fn := fun _ => fun
  | [d1, d2, d3] => { results := [.lit (.bool true)], args := [d1, d2, d3] }
  | _ => none }
def priceReachesRow : OpenClaim := { program := "ytclgoamhbakdlaa", sum := "bbf4fe1789d5bc0f0be05b64a7a9483d4d21b65430a8160b95991677bfe32e7c", func := "excise/exciselaw20.PriceReaches", spec := "priceReaches", inPlace := ["math/bits.Add64"], unfollowed := true, recurses := true, apart := false }
def PriceReachesSaid : Prop := priceReachesRow.holds Try.pinned (OpenSpec.ofChange priceReachesSpec)

/-- ITS FALSE NEIGHBOUR: 'it returns false'. Refute it at one input. -/
def priceReachesWrong : ChangeSpec := { name := "priceReaches", fn := fun _ => fun
  | [d1, d2, d3] => { results := [.lit (.bool false)], args := [d1, d2, d3] }
  | _ => none }
def PriceReachesWrongFalsely : Prop := priceReachesRow.holds Try.pinned (OpenSpec.ofChange priceReachesWrong)

/- THE SECOND FORM. 'bulk': how many values and letters a reading holds, each counted each time it is reached (what is shared counts as often as it is met; a slice's spare places count too). A statement '..UptoSaid' is the law's where the arguments, and the package variables that the reading takes, are together of bulk at most 1048576: NARROWER than '..Said'. Prove '..Said' where nothing that the law and all that it calls make is longer than what came in: it says more and counts as full. Else prove '..UptoSaid'. A law counts once. -/
mutual
def uptoBulk {H : Type} : DataW H → Nat
  | .lit (.string bytes) => bytes.length + 1
  | .lit _ => 1
  | .nil => 1
  | .ptr d => uptoBulk d + 1
  | .slice elems spare => uptoBulkAll elems + uptoBulkAll spare + 1
  | .agg parts => uptoBulkAll parts + 1
  | .iface _ d => uptoBulk d + 1
  | .map entries => uptoBulkEntries entries + 1
  | .held _ => 1
def uptoBulkAll {H : Type} : List (DataW H) → Nat
  | [] => 0
  | d :: r => uptoBulk d + uptoBulkAll r
def uptoBulkEntries {H : Type} : List (Lit × DataW H) → Nat
  | [] => 0
  | x :: r => uptoBulkEntry x + uptoBulkEntries r
def uptoBulkEntry {H : Type} : Lit × DataW H → Nat
  | (.string bytes, d) => bytes.length + uptoBulk d + 1
  | (_, d) => uptoBulk d + 1
 end
def uptoSmall : (H : Type) → List (DataW H) → Bool := fun _ ds => decide (uptoBulkAll ds ≤ 1048576)
def OpenSpec.upto (s : _root_.Go.ChangeSpec) : _root_.Go.OpenSpec := { _root_.Go.OpenSpec.ofChange s with cond := some uptoSmall }

/-- 'exciselaw20.PriceMemory', WHERE WHAT IT READS IS OF BULK AT MOST 1048576: true; the input reads as it did. -/
def priceMemoryUptoRow : OpenClaim := { program := "ytclgoamhbakdlaa", sum := "bbf4fe1789d5bc0f0be05b64a7a9483d4d21b65430a8160b95991677bfe32e7c", func := "excise/exciselaw20.PriceMemory", spec := "priceMemory", inPlace := ["math/bits.Add64"], unfollowed := true, recurses := true, apart := false, narrowed := true }
def PriceMemoryUptoSaid : Prop := priceMemoryUptoRow.holds Try.pinned (OpenSpec.upto priceMemorySpec)

/-- 'exciselaw20.PriceKinds', WHERE WHAT IT READS IS OF BULK AT MOST 1048576: true; the input reads as it did. -/
def priceKindsUptoRow : OpenClaim := { program := "ytclgoamhbakdlaa", sum := "bbf4fe1789d5bc0f0be05b64a7a9483d4d21b65430a8160b95991677bfe32e7c", func := "excise/exciselaw20.PriceKinds", spec := "priceKinds", inPlace := ["math/bits.Add64"], unfollowed := true, recurses := true, apart := false, narrowed := true }
def PriceKindsUptoSaid : Prop := priceKindsUptoRow.holds Try.pinned (OpenSpec.upto priceKindsSpec)

/-- 'exciselaw20.PriceHolds', WHERE WHAT IT READS IS OF BULK AT MOST 1048576: true; the input reads as it did. -/
def priceHoldsUptoRow : OpenClaim := { program := "ytclgoamhbakdlaa", sum := "bbf4fe1789d5bc0f0be05b64a7a9483d4d21b65430a8160b95991677bfe32e7c", func := "excise/exciselaw20.PriceHolds", spec := "priceHolds", inPlace := ["math/bits.Add64"], unfollowed := true, recurses := true, apart := false, narrowed := true }
def PriceHoldsUptoSaid : Prop := priceHoldsUptoRow.holds Try.pinned (OpenSpec.upto priceHoldsSpec)

/-- 'exciselaw20.PriceReaches', WHERE WHAT IT READS IS OF BULK AT MOST 1048576: true; the input reads as it did. -/
def priceReachesUptoRow : OpenClaim := { program := "ytclgoamhbakdlaa", sum := "bbf4fe1789d5bc0f0be05b64a7a9483d4d21b65430a8160b95991677bfe32e7c", func := "excise/exciselaw20.PriceReaches", spec := "priceReaches", inPlace := ["math/bits.Add64"], unfollowed := true, recurses := true, apart := false, narrowed := true }
def PriceReachesUptoSaid : Prop := priceReachesUptoRow.holds Try.pinned (OpenSpec.upto priceReachesSpec)

end Rows
end Go.Proofs.Ytclgoamhbakdlaa
