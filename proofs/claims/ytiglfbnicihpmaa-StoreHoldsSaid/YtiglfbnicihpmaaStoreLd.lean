/- The law StoreHolds: what its pieces name. No condition. -/
import Derived.Test.YtiglfbnicihpmaaStoreK
set_option linter.unusedVariables false
set_option linter.unusedSimpArgs false
set_option maxRecDepth 100000
namespace Go.Proofs.Ytiglfbnicihpmaa
open Go.RowKit

def pv (m x : Vl) : Vl := ⟨m.a, m.b, m.c, m.d, x.l⟩
/-- Two costs, told apart. -/
def neC (n n' lo hi a a' : Int) : Bool := true != ((n == n) && ((bdI n lo a == bdI n' lo a') && ((bdI n hi a == bdI n' hi a') && ((a == a') && true))))
noncomputable def h9 : Code := dropSeq 9 (Try.f5.body.getD .skip)
noncomputable def hL : Code := bkB (dropSeq 1 (sL h9))
noncomputable def h10 : Code := dropSeq 10 (Try.f5.body.getD .skip)
noncomputable def h14 : Code := dropSeq 14 (Try.f5.body.getD .skip)
noncomputable def hRg : Code := dropSeq 1 (sL h14)
def eqW (a b : Vl) : Bool := (a.a == b.a) && ((a.b == b.b) && ((a.c == b.c) && ((a.d == b.d) && ((0 == (0 : Int)) && true))))
end Go.Proofs.Ytiglfbnicihpmaa
