/-
  DERIVED. GIVEN WITH THE SEED: THE CARDS: each row of YtoobfgahbndhjaaDoorRows.lean that lists a variable, with what it lists TIED to the program's text (the seventh form; the later family's looks); each row that meets fmt, with fmt's text TOLD by the authors' own Lean function (tested against real Go, not proved from fmt's source: count such statements apart). THE CARD IS WHAT COUNTS. Prove the row's statement (the work); the ties are given (YtoobfgahbndhjaaDoorTie.lean); close each card by the builder's one call (the guide's Derived/Test/ToyasCard.lean, 'card_holds'). Laid BY PROGRAM, IN A SANDBOX (cutbox-door.mjs). By AI agents, Wed Nov 11 2026. No macro, syntax, notation, axiom, sorry.
-/
import Derived.Test.YtoobfgahbndhjaaDoorRows
import GoSem.ClaimSeven
namespace Go.Proofs.YtoobfgahbndhjaaDoor
namespace Rows

/-- THE TIED CARD OF 'exciselaw03.BitsShifts'. -/
def bitsShiftsCard : Claim7 := { stood := { row := bitsShiftsRow, standIns := [], harness := (true, "fab25dd5a05c341af842bca44766a2fa49595128502db421bfdbc87546fbc042"), looks := false }, kinds := [], alts := [], laidByText := true, laidKinds := [.data], laidTests := true, laidLooks := .later }
def BitsShiftsCardSaid : Prop := Claim7.holds Tryd.pinned (.plain (OpenSpec.ofChange bitsShiftsSpec)) bitsShiftsCard

/-- THE TIED CARD OF 'exciselaw03.BitsBytes'. -/
def bitsBytesCard : Claim7 := { stood := { row := bitsBytesRow, standIns := [], harness := (true, "fab25dd5a05c341af842bca44766a2fa49595128502db421bfdbc87546fbc042"), looks := false }, kinds := [], alts := [], laidByText := true, laidKinds := [.data], laidTests := true, laidLooks := .later }
def BitsBytesCardSaid : Prop := Claim7.holds Tryd.pinned (.plain (OpenSpec.ofChange bitsBytesSpec)) bitsBytesCard

/-- THE TIED CARD OF 'exciselaw03.BitsEach'. -/
def bitsEachCard : Claim7 := { stood := { row := bitsEachRow, standIns := [], harness := (true, "fab25dd5a05c341af842bca44766a2fa49595128502db421bfdbc87546fbc042"), looks := false }, kinds := [], alts := [], laidByText := true, laidKinds := [.data], laidTests := true, laidLooks := .later }
def BitsEachCardSaid : Prop := Claim7.holds Tryd.pinned (.plain (OpenSpec.ofChange bitsEachSpec)) bitsEachCard

/-- THE TIED CARD OF 'exciselaw03.BitsFolds'. -/
def bitsFoldsCard : Claim7 := { stood := { row := bitsFoldsRow, standIns := [], harness := (true, "fab25dd5a05c341af842bca44766a2fa49595128502db421bfdbc87546fbc042"), looks := false }, kinds := [], alts := [], laidByText := true, laidKinds := [.data], laidTests := true, laidLooks := .later }
def BitsFoldsCardSaid : Prop := Claim7.holds Tryd.pinned (.plain (OpenSpec.ofChange bitsFoldsSpec)) bitsFoldsCard

/-- THE TIED CARD OF 'exciselaw03.BitsHolds'. -/
def bitsHoldsCard : Claim7 := { stood := { row := bitsHoldsRow, standIns := [], harness := (true, "fab25dd5a05c341af842bca44766a2fa49595128502db421bfdbc87546fbc042"), looks := false }, kinds := [], alts := [], laidByText := true, laidKinds := [.data], laidTests := true, laidLooks := .later }
def BitsHoldsCardSaid : Prop := Claim7.holds Tryd.pinned (.plain (OpenSpec.ofChange bitsHoldsSpec)) bitsHoldsCard

/-- THE SECOND FORM's CARD OF 'exciselaw03.BitsShifts'. -/
def bitsShiftsUptoCard : Claim7 := { stood := { row := bitsShiftsUptoRow, standIns := [], harness := (true, "fab25dd5a05c341af842bca44766a2fa49595128502db421bfdbc87546fbc042"), looks := false }, kinds := [], alts := [], laidByText := true, laidKinds := [.data], laidTests := true, laidLooks := .later }
def BitsShiftsUptoCardSaid : Prop := Claim7.holds Tryd.pinned (.plain (OpenSpec.upto bitsShiftsSpec)) bitsShiftsUptoCard

/-- THE SECOND FORM's CARD OF 'exciselaw03.BitsBytes'. -/
def bitsBytesUptoCard : Claim7 := { stood := { row := bitsBytesUptoRow, standIns := [], harness := (true, "fab25dd5a05c341af842bca44766a2fa49595128502db421bfdbc87546fbc042"), looks := false }, kinds := [], alts := [], laidByText := true, laidKinds := [.data], laidTests := true, laidLooks := .later }
def BitsBytesUptoCardSaid : Prop := Claim7.holds Tryd.pinned (.plain (OpenSpec.upto bitsBytesSpec)) bitsBytesUptoCard

/-- THE SECOND FORM's CARD OF 'exciselaw03.BitsEach'. -/
def bitsEachUptoCard : Claim7 := { stood := { row := bitsEachUptoRow, standIns := [], harness := (true, "fab25dd5a05c341af842bca44766a2fa49595128502db421bfdbc87546fbc042"), looks := false }, kinds := [], alts := [], laidByText := true, laidKinds := [.data], laidTests := true, laidLooks := .later }
def BitsEachUptoCardSaid : Prop := Claim7.holds Tryd.pinned (.plain (OpenSpec.upto bitsEachSpec)) bitsEachUptoCard

/-- THE SECOND FORM's CARD OF 'exciselaw03.BitsFolds'. -/
def bitsFoldsUptoCard : Claim7 := { stood := { row := bitsFoldsUptoRow, standIns := [], harness := (true, "fab25dd5a05c341af842bca44766a2fa49595128502db421bfdbc87546fbc042"), looks := false }, kinds := [], alts := [], laidByText := true, laidKinds := [.data], laidTests := true, laidLooks := .later }
def BitsFoldsUptoCardSaid : Prop := Claim7.holds Tryd.pinned (.plain (OpenSpec.upto bitsFoldsSpec)) bitsFoldsUptoCard

/-- THE SECOND FORM's CARD OF 'exciselaw03.BitsHolds'. -/
def bitsHoldsUptoCard : Claim7 := { stood := { row := bitsHoldsUptoRow, standIns := [], harness := (true, "fab25dd5a05c341af842bca44766a2fa49595128502db421bfdbc87546fbc042"), looks := false }, kinds := [], alts := [], laidByText := true, laidKinds := [.data], laidTests := true, laidLooks := .later }
def BitsHoldsUptoCardSaid : Prop := Claim7.holds Tryd.pinned (.plain (OpenSpec.upto bitsHoldsSpec)) bitsHoldsUptoCard
end Rows
end Go.Proofs.YtoobfgahbndhjaaDoor
