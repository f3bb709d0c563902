/-
  No cell of these rows narrows 'for every input' (looked for: loops, veiled, ifaces, maps, wideKeys, modest, calm, conditions, laid).
  DERIVED. THE GIVEN ROWS OF THIS SEAT. 3 by the template 'for every input the law returns true; each argument reads behind the call as it read before'; 0 by the template 'total and deterministic' (their statements: YtiglfbnicihpmaaTotals.lean).
  GIVEN WITH THE SEED: the statements are not yours to turn. If you find one false, say at which input.
  Laid BY PROGRAM, IN A SANDBOX (cutbox-rows.mjs): the forced cells as the released guide's own fill.sh prints them over the translation f310333037376b10… (all of the seat's roots in one cut). By AI agents, Wed Nov 11 2026. No macro, syntax, notation, axiom, sorry.
-/
import Derived.Test.YtiglfbnicihpmaaChecked
import GoSem.Claim
import GoSem.ClaimJoined
import GoSem.ClaimMapViews
import Derived.JoinedTies
import Derived.KernelRfl
namespace Go.Proofs.Ytiglfbnicihpmaa
/- THE CELL 'sum', in the pinned program and in every row, IS THE sha256 OF THE DUMP (.gsa) THAT YtiglfbnicihpmaaProg.lean LOADS. Nothing in Lean hashes anything: it is a label: what it is worth is what the hold of that sum in a sandbox is worth. -/
noncomputable def Try.pinned : Pinned := { name := "ytiglfbnicihpmaa", sum := "f310333037376b104a53885ac123881d97215b369f68c209abff4e699ce7a0d0", checked := Try.checked }
namespace Rows
def none {H : Type} : Left H := { results := [], args := [] }

/-- 'exciselaw21.StoreCosts': WHATEVER THE INPUT: true; the input reads as it did. -/
def storeCostsSpec : ChangeSpec := { name := "storeCosts", fn := fun _ => fun
  | [d1, d2] => { results := [.lit (.bool true)], args := [d1, d2] }
  | _ => none }
def storeCostsRow : OpenClaim := { program := "ytiglfbnicihpmaa", sum := "f310333037376b104a53885ac123881d97215b369f68c209abff4e699ce7a0d0", func := "excise/exciselaw21.StoreCosts", spec := "storeCosts", unfollowed := true, recurses := true, apart := false }
def StoreCostsSaid : Prop := storeCostsRow.holds Try.pinned (OpenSpec.ofChange storeCostsSpec)

/-- ITS FALSE NEIGHBOUR: 'it returns false'. Refute it at one input. -/
def storeCostsWrong : ChangeSpec := { name := "storeCosts", fn := fun _ => fun
  | [d1, d2] => { results := [.lit (.bool false)], args := [d1, d2] }
  | _ => none }
def StoreCostsWrongFalsely : Prop := storeCostsRow.holds Try.pinned (OpenSpec.ofChange storeCostsWrong)

/-- 'exciselaw21.StoreRefunds': WHATEVER THE INPUT: true; the input reads as it did. -/
def storeRefundsSpec : ChangeSpec := { name := "storeRefunds", fn := fun _ => fun
  | [d1, d2, d3] => { results := [.lit (.bool true)], args := [d1, d2, d3] }
  | _ => none }
def storeRefundsRow : OpenClaim := { program := "ytiglfbnicihpmaa", sum := "f310333037376b104a53885ac123881d97215b369f68c209abff4e699ce7a0d0", func := "excise/exciselaw21.StoreRefunds", spec := "storeRefunds", unfollowed := true, recurses := true, apart := false }
def StoreRefundsSaid : Prop := storeRefundsRow.holds Try.pinned (OpenSpec.ofChange storeRefundsSpec)

/-- ITS FALSE NEIGHBOUR: 'it returns false'. Refute it at one input. -/
def storeRefundsWrong : ChangeSpec := { name := "storeRefunds", fn := fun _ => fun
  | [d1, d2, d3] => { results := [.lit (.bool false)], args := [d1, d2, d3] }
  | _ => none }
def StoreRefundsWrongFalsely : Prop := storeRefundsRow.holds Try.pinned (OpenSpec.ofChange storeRefundsWrong)

/-- 'exciselaw21.StoreHolds': WHATEVER THE INPUT: true; the input reads as it did. -/
def storeHoldsSpec : ChangeSpec := { name := "storeHolds", fn := fun _ => fun
  | [d1, d2, d3] => { results := [.lit (.bool true)], args := [d1, d2, d3] }
  | _ => none }
def storeHoldsRow : OpenClaim := { program := "ytiglfbnicihpmaa", sum := "f310333037376b104a53885ac123881d97215b369f68c209abff4e699ce7a0d0", func := "excise/exciselaw21.StoreHolds", spec := "storeHolds", unfollowed := true, recurses := true, apart := false }
def StoreHoldsSaid : Prop := storeHoldsRow.holds Try.pinned (OpenSpec.ofChange storeHoldsSpec)

/-- ITS FALSE NEIGHBOUR: 'it returns false'. Refute it at one input. -/
def storeHoldsWrong : ChangeSpec := { name := "storeHolds", fn := fun _ => fun
  | [d1, d2, d3] => { results := [.lit (.bool false)], args := [d1, d2, d3] }
  | _ => none }
def StoreHoldsWrongFalsely : Prop := storeHoldsRow.holds Try.pinned (OpenSpec.ofChange storeHoldsWrong)

/- THE SECOND FORM. 'bulk': how many values and letters a reading holds, each counted each time it is reached (what is shared counts as often as it is met; a slice's spare places count too). A statement '..UptoSaid' is the law's where the arguments, and the package variables that the reading takes, are together of bulk at most 1048576: NARROWER than '..Said'. Prove '..Said' where nothing that the law and all that it calls make is longer than what came in: it says more and counts as full. Else prove '..UptoSaid'. A law counts once. -/
mutual
def uptoBulk {H : Type} : DataW H → Nat
  | .lit (.string bytes) => bytes.length + 1
  | .lit _ => 1
  | .nil => 1
  | .ptr d => uptoBulk d + 1
  | .slice elems spare => uptoBulkAll elems + uptoBulkAll spare + 1
  | .agg parts => uptoBulkAll parts + 1
  | .iface _ d => uptoBulk d + 1
  | .map entries => uptoBulkEntries entries + 1
  | .held _ => 1
def uptoBulkAll {H : Type} : List (DataW H) → Nat
  | [] => 0
  | d :: r => uptoBulk d + uptoBulkAll r
def uptoBulkEntries {H : Type} : List (Lit × DataW H) → Nat
  | [] => 0
  | x :: r => uptoBulkEntry x + uptoBulkEntries r
def uptoBulkEntry {H : Type} : Lit × DataW H → Nat
  | (.string bytes, d) => bytes.length + uptoBulk d + 1
  | (_, d) => uptoBulk d + 1
 end
def uptoSmall : (H : Type) → List (DataW H) → Bool := fun _ ds => decide (uptoBulkAll ds ≤ 1048576)
def OpenSpec.upto (s : _root_.Go.ChangeSpec) : _root_.Go.OpenSpec := { _root_.Go.OpenSpec.ofChange s with cond := some uptoSmall }

/-- 'exciselaw21.StoreCosts', WHERE WHAT IT READS IS OF BULK AT MOST 1048576: true; the input reads as it did. -/
def storeCostsUptoRow : OpenClaim := { program := "ytiglfbnicihpmaa", sum := "f310333037376b104a53885ac123881d97215b369f68c209abff4e699ce7a0d0", func := "excise/exciselaw21.StoreCosts", spec := "storeCosts", unfollowed := true, recurses := true, apart := false, narrowed := true }
def StoreCostsUptoSaid : Prop := storeCostsUptoRow.holds Try.pinned (OpenSpec.upto storeCostsSpec)

/-- 'exciselaw21.StoreRefunds', WHERE WHAT IT READS IS OF BULK AT MOST 1048576: true; the input reads as it did. -/
def storeRefundsUptoRow : OpenClaim := { program := "ytiglfbnicihpmaa", sum := "f310333037376b104a53885ac123881d97215b369f68c209abff4e699ce7a0d0", func := "excise/exciselaw21.StoreRefunds", spec := "storeRefunds", unfollowed := true, recurses := true, apart := false, narrowed := true }
def StoreRefundsUptoSaid : Prop := storeRefundsUptoRow.holds Try.pinned (OpenSpec.upto storeRefundsSpec)

/-- 'exciselaw21.StoreHolds', WHERE WHAT IT READS IS OF BULK AT MOST 1048576: true; the input reads as it did. -/
def storeHoldsUptoRow : OpenClaim := { program := "ytiglfbnicihpmaa", sum := "f310333037376b104a53885ac123881d97215b369f68c209abff4e699ce7a0d0", func := "excise/exciselaw21.StoreHolds", spec := "storeHolds", unfollowed := true, recurses := true, apart := false, narrowed := true }
def StoreHoldsUptoSaid : Prop := storeHoldsUptoRow.holds Try.pinned (OpenSpec.upto storeHoldsSpec)

end Rows
end Go.Proofs.Ytiglfbnicihpmaa
