/- What is known of the functions of layer 17. No condition. -/
import Derived.Test.YtjbleblllmbcbaaWarmA
set_option linter.unusedVariables false
set_option linter.unusedSimpArgs false
set_option maxRecDepth 100000
namespace Go.Proofs.Ytjbleblllmbcbaa
open Go.RowKit

noncomputable def tabW0 : List (Nat × CtrF) := [(31, ctrQ qaks), (32, ctrQ qsks)]
theorem tabW0_ok {R : Rws} (hR : RwOK R) : ∀ p ∈ tabW0, Good Try.prog R p.1 p.2 := good_cons (p := (_, _)) (qagood hR) (good_cons (p := (_, _)) (qsgood hR) good_nil)
noncomputable def EW0 (R : Rws) : Env := ⟨Try.prog, eqsK Try.prog, R, lookF tabW0, fun _ => none, fun _ => false, fun _ => false, fun f => Nat.beq f 27 || Nat.beq f 30 || Nat.beq f 11 || Nat.beq f 8⟩
theorem hEW0 {R : Rws} (hR : RwOK R) : EnvOK (EW0 R) := ⟨eqsK_ok, hR, fun f F h => lookF_ok (tabW0_ok hR) f F h, fun f F h => (by cases h), rfl⟩
end Go.Proofs.Ytjbleblllmbcbaa
