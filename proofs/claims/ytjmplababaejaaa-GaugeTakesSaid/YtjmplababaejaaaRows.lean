/-
  No cell of these rows narrows 'for every input' (looked for: loops, veiled, ifaces, maps, wideKeys, modest, calm, conditions, laid).
  DERIVED. THE GIVEN ROWS OF THIS SEAT. 4 by the template 'for every input the law returns true; each argument reads behind the call as it read before'; 0 by the template 'total and deterministic' (their statements: YtjmplababaejaaaTotals.lean).
  GIVEN WITH THE SEED: the statements are not yours to turn. If you find one false, say at which input.
  Laid BY PROGRAM, IN A SANDBOX (cutbox-rows.mjs): the forced cells as the released guide's own fill.sh prints them over the translation 330f9f382eb16c35… (all of the seat's roots in one cut). By AI agents, Wed Nov 11 2026. No macro, syntax, notation, axiom, sorry.
-/
import Derived.Test.YtjmplababaejaaaChecked
import GoSem.Claim
import GoSem.ClaimJoined
import GoSem.ClaimMapViews
import Derived.JoinedTies
import Derived.KernelRfl
namespace Go.Proofs.Ytjmplababaejaaa
/- THE CELL 'sum', in the pinned program and in every row, IS THE sha256 OF THE DUMP (.gsa) THAT YtjmplababaejaaaProg.lean LOADS. Nothing in Lean hashes anything: it is a label: what it is worth is what the hold of that sum in a sandbox is worth. -/
noncomputable def Try.pinned : Pinned := { name := "ytjmplababaejaaa", sum := "330f9f382eb16c358310b8fa5fec509ab628613be3f9fcedc79874c1c905b5f3", checked := Try.checked }
namespace Rows
def none {H : Type} : Left H := { results := [], args := [] }

/-- 'exciselaw18.GaugeParts': WHATEVER THE INPUT: true; the input reads as it did. -/
def gaugePartsSpec : ChangeSpec := { name := "gaugeParts", fn := fun _ => fun
  | [d1, d2, d3] => { results := [.lit (.bool true)], args := [d1, d2, d3] }
  | _ => none }
def gaugePartsRow : OpenClaim := { program := "ytjmplababaejaaa", sum := "330f9f382eb16c358310b8fa5fec509ab628613be3f9fcedc79874c1c905b5f3", func := "excise/exciselaw18.GaugeParts", spec := "gaugeParts", unfollowed := true, recurses := true, apart := false }
def GaugePartsSaid : Prop := gaugePartsRow.holds Try.pinned (OpenSpec.ofChange gaugePartsSpec)

/-- ITS FALSE NEIGHBOUR: 'it returns false'. Refute it at one input. -/
def gaugePartsWrong : ChangeSpec := { name := "gaugeParts", fn := fun _ => fun
  | [d1, d2, d3] => { results := [.lit (.bool false)], args := [d1, d2, d3] }
  | _ => none }
def GaugePartsWrongFalsely : Prop := gaugePartsRow.holds Try.pinned (OpenSpec.ofChange gaugePartsWrong)

/-- 'exciselaw18.GaugeHolds': WHATEVER THE INPUT: true; the input reads as it did. -/
def gaugeHoldsSpec : ChangeSpec := { name := "gaugeHolds", fn := fun _ => fun
  | [d1, d2, d3] => { results := [.lit (.bool true)], args := [d1, d2, d3] }
  | _ => none }
def gaugeHoldsRow : OpenClaim := { program := "ytjmplababaejaaa", sum := "330f9f382eb16c358310b8fa5fec509ab628613be3f9fcedc79874c1c905b5f3", func := "excise/exciselaw18.GaugeHolds", spec := "gaugeHolds", unfollowed := true, recurses := true, apart := false }
def GaugeHoldsSaid : Prop := gaugeHoldsRow.holds Try.pinned (OpenSpec.ofChange gaugeHoldsSpec)

/-- ITS FALSE NEIGHBOUR: 'it returns false'. Refute it at one input. -/
def gaugeHoldsWrong : ChangeSpec := { name := "gaugeHolds", fn := fun _ => fun
  | [d1, d2, d3] => { results := [.lit (.bool false)], args := [d1, d2, d3] }
  | _ => none }
def GaugeHoldsWrongFalsely : Prop := gaugeHoldsRow.holds Try.pinned (OpenSpec.ofChange gaugeHoldsWrong)

/-- 'exciselaw18.GaugeTakes': WHATEVER THE INPUT: true; the input reads as it did. -/
def gaugeTakesSpec : ChangeSpec := { name := "gaugeTakes", fn := fun _ => fun
  | [d1, d2, d3] => { results := [.lit (.bool true)], args := [d1, d2, d3] }
  | _ => none }
def gaugeTakesRow : OpenClaim := { program := "ytjmplababaejaaa", sum := "330f9f382eb16c358310b8fa5fec509ab628613be3f9fcedc79874c1c905b5f3", func := "excise/exciselaw18.GaugeTakes", spec := "gaugeTakes", unfollowed := true, recurses := true, apart := false }
def GaugeTakesSaid : Prop := gaugeTakesRow.holds Try.pinned (OpenSpec.ofChange gaugeTakesSpec)

/-- ITS FALSE NEIGHBOUR: 'it returns false'. Refute it at one input. -/
def gaugeTakesWrong : ChangeSpec := { name := "gaugeTakes", fn := fun _ => fun
  | [d1, d2, d3] => { results := [.lit (.bool false)], args := [d1, d2, d3] }
  | _ => none }
def GaugeTakesWrongFalsely : Prop := gaugeTakesRow.holds Try.pinned (OpenSpec.ofChange gaugeTakesWrong)

/-- 'exciselaw18.GaugeSums': WHATEVER THE INPUT: true; the input reads as it did. -/
def gaugeSumsSpec : ChangeSpec := { name := "gaugeSums", fn := fun _ => fun
  | [d1, d2, d3] => { results := [.lit (.bool true)], args := [d1, d2, d3] }
  | _ => none }
def gaugeSumsRow : OpenClaim := { program := "ytjmplababaejaaa", sum := "330f9f382eb16c358310b8fa5fec509ab628613be3f9fcedc79874c1c905b5f3", func := "excise/exciselaw18.GaugeSums", spec := "gaugeSums", unfollowed := true, recurses := true, apart := false }
def GaugeSumsSaid : Prop := gaugeSumsRow.holds Try.pinned (OpenSpec.ofChange gaugeSumsSpec)

/-- ITS FALSE NEIGHBOUR: 'it returns false'. Refute it at one input. -/
def gaugeSumsWrong : ChangeSpec := { name := "gaugeSums", fn := fun _ => fun
  | [d1, d2, d3] => { results := [.lit (.bool false)], args := [d1, d2, d3] }
  | _ => none }
def GaugeSumsWrongFalsely : Prop := gaugeSumsRow.holds Try.pinned (OpenSpec.ofChange gaugeSumsWrong)

/- THE SECOND FORM. 'bulk': how many values and letters a reading holds, each counted each time it is reached (what is shared counts as often as it is met; a slice's spare places count too). A statement '..UptoSaid' is the law's where the arguments, and the package variables that the reading takes, are together of bulk at most 1048576: NARROWER than '..Said'. Prove '..Said' where nothing that the law and all that it calls make is longer than what came in: it says more and counts as full. Else prove '..UptoSaid'. A law counts once. -/
mutual
def uptoBulk {H : Type} : DataW H → Nat
  | .lit (.string bytes) => bytes.length + 1
  | .lit _ => 1
  | .nil => 1
  | .ptr d => uptoBulk d + 1
  | .slice elems spare => uptoBulkAll elems + uptoBulkAll spare + 1
  | .agg parts => uptoBulkAll parts + 1
  | .iface _ d => uptoBulk d + 1
  | .map entries => uptoBulkEntries entries + 1
  | .held _ => 1
def uptoBulkAll {H : Type} : List (DataW H) → Nat
  | [] => 0
  | d :: r => uptoBulk d + uptoBulkAll r
def uptoBulkEntries {H : Type} : List (Lit × DataW H) → Nat
  | [] => 0
  | x :: r => uptoBulkEntry x + uptoBulkEntries r
def uptoBulkEntry {H : Type} : Lit × DataW H → Nat
  | (.string bytes, d) => bytes.length + uptoBulk d + 1
  | (_, d) => uptoBulk d + 1
 end
def uptoSmall : (H : Type) → List (DataW H) → Bool := fun _ ds => decide (uptoBulkAll ds ≤ 1048576)
def OpenSpec.upto (s : _root_.Go.ChangeSpec) : _root_.Go.OpenSpec := { _root_.Go.OpenSpec.ofChange s with cond := some uptoSmall }

/-- 'exciselaw18.GaugeParts', WHERE WHAT IT READS IS OF BULK AT MOST 1048576: true; the input reads as it did. -/
def gaugePartsUptoRow : OpenClaim := { program := "ytjmplababaejaaa", sum := "330f9f382eb16c358310b8fa5fec509ab628613be3f9fcedc79874c1c905b5f3", func := "excise/exciselaw18.GaugeParts", spec := "gaugeParts", unfollowed := true, recurses := true, apart := false, narrowed := true }
def GaugePartsUptoSaid : Prop := gaugePartsUptoRow.holds Try.pinned (OpenSpec.upto gaugePartsSpec)

/-- 'exciselaw18.GaugeHolds', WHERE WHAT IT READS IS OF BULK AT MOST 1048576: true; the input reads as it did. -/
def gaugeHoldsUptoRow : OpenClaim := { program := "ytjmplababaejaaa", sum := "330f9f382eb16c358310b8fa5fec509ab628613be3f9fcedc79874c1c905b5f3", func := "excise/exciselaw18.GaugeHolds", spec := "gaugeHolds", unfollowed := true, recurses := true, apart := false, narrowed := true }
def GaugeHoldsUptoSaid : Prop := gaugeHoldsUptoRow.holds Try.pinned (OpenSpec.upto gaugeHoldsSpec)

/-- 'exciselaw18.GaugeTakes', WHERE WHAT IT READS IS OF BULK AT MOST 1048576: true; the input reads as it did. -/
def gaugeTakesUptoRow : OpenClaim := { program := "ytjmplababaejaaa", sum := "330f9f382eb16c358310b8fa5fec509ab628613be3f9fcedc79874c1c905b5f3", func := "excise/exciselaw18.GaugeTakes", spec := "gaugeTakes", unfollowed := true, recurses := true, apart := false, narrowed := true }
def GaugeTakesUptoSaid : Prop := gaugeTakesUptoRow.holds Try.pinned (OpenSpec.upto gaugeTakesSpec)

/-- 'exciselaw18.GaugeSums', WHERE WHAT IT READS IS OF BULK AT MOST 1048576: true; the input reads as it did. -/
def gaugeSumsUptoRow : OpenClaim := { program := "ytjmplababaejaaa", sum := "330f9f382eb16c358310b8fa5fec509ab628613be3f9fcedc79874c1c905b5f3", func := "excise/exciselaw18.GaugeSums", spec := "gaugeSums", unfollowed := true, recurses := true, apart := false, narrowed := true }
def GaugeSumsUptoSaid : Prop := gaugeSumsUptoRow.holds Try.pinned (OpenSpec.upto gaugeSumsSpec)

end Rows
end Go.Proofs.Ytjmplababaejaaa
