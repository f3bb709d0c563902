/- Rounds: names. No condition. -/
import Derived.Test.YtjlijocnmicdpaaMiB
set_option linter.unusedVariables false
set_option linter.unusedSimpArgs false
set_option maxRecDepth 100000
namespace Go.Proofs.Ytjlijocnmicdpaa
open Go.RowKit

def rowN (c i : Nat) : Nat := (([[0, 1, 2, 3, 4, 5, 6, 7, 8, 9, 10, 11, 12, 13, 14, 15], [14, 10, 4, 8, 9, 15, 13, 6, 1, 12, 0, 2, 11, 7, 5, 3], [11, 8, 12, 0, 5, 2, 15, 13, 10, 14, 3, 6, 7, 1, 9, 4], [7, 9, 3, 1, 13, 12, 11, 14, 2, 6, 5, 10, 4, 0, 15, 8], [9, 0, 5, 7, 2, 4, 10, 15, 14, 1, 11, 12, 6, 8, 3, 13], [2, 12, 6, 10, 0, 11, 8, 3, 4, 13, 7, 5, 15, 14, 1, 9], [12, 5, 1, 15, 14, 13, 4, 10, 0, 7, 6, 3, 9, 2, 8, 11], [13, 11, 7, 14, 12, 1, 3, 9, 5, 0, 15, 4, 8, 6, 2, 10], [6, 15, 14, 9, 11, 3, 0, 8, 12, 2, 13, 7, 1, 4, 10, 5], [10, 2, 8, 4, 7, 6, 1, 5, 15, 11, 9, 14, 3, 12, 13, 0]] : List (List Nat)).getD c []).getD i 0
/-- A round. -/
def roundB (v m : Nat → BitVec 64) (c : Nat) : Nat → BitVec 64 := mixK 7 (reV (mixK 6 (reV (mixK 5 (reV (mixK 4 (reV (mixK 3 (reV (mixK 2 (reV (mixK 1 (reV (mixK 0 (reV v) (m (rowN c 0)) (m (rowN c 1)))) (m (rowN c 2)) (m (rowN c 3)))) (m (rowN c 4)) (m (rowN c 5)))) (m (rowN c 6)) (m (rowN c 7)))) (m (rowN c 8)) (m (rowN c 9)))) (m (rowN c 10)) (m (rowN c 11)))) (m (rowN c 12)) (m (rowN c 13)))) (m (rowN c 14)) (m (rowN c 15))
noncomputable def tabC : List (Nat × CtrF) := (30, ctrRmix) :: tabA
theorem tabC_ok {R : Rws} : ∀ p ∈ tabC, Good Try.prog R p.1 p.2 := good_cons (p := (_, _)) ctrRmix_ok tabA_ok
noncomputable def EC : Env := ⟨Try.prog, eqsK Try.prog, noRows, lookF tabC, lookCm [(39, mixF)], fun _ => false, fun _ => false, effM⟩
theorem EC_ok : EnvOK EC := ⟨eqsK_ok, rwOK_no, fun f F h => lookF_ok tabC_ok f F h, fun f F h => lookCm_ok (goodM_cons (q := (_, _)) mixF_ok goodM_nil) f F h, rfl⟩
end Go.Proofs.Ytjlijocnmicdpaa
