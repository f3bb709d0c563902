/- Words and values that are equal. -/
import Derived.Test.YtoobfgahbndhjaaDoorSl
import Derived.Test.YtoobfgahbndhjaaDoorSl
import Derived.Laws.StructEq
import Derived.Laws.Cover2
set_option linter.unusedVariables false
set_option linter.unusedSimpArgs false
namespace Go.Proofs.YtoobfgahbndhjaaDoor
open Go.RowKit

theorem eqWord (a b c d a' b' c' d' : Int) (k : Nat) (w : World) : (Op.equalIn (k + 2) 24 (.agg #[.int .u64 a, .int .u64 b, .int .u64 c, .int .u64 d]) (.agg #[.int .u64 a', .int .u64 b', .int .u64 c', .int .u64 d'])).run Tryd.prog w =
    .ok (decide (a = a' ∧ b = b' ∧ c = c' ∧ d = d')) w := by
  rw [Op.equalIn]
  simp only [Sem.run_bind, run_underlying (show Tryd.prog.underlying 24 = some (.array 4 22) by kernel_rfl), Result.andThen_ok]
  simp only [Std.Legacy.Range.forIn_eq_forIn_range', Std.Legacy.Range.size, Nat.sub_zero, Nat.add_sub_cancel, Nat.div_one, List.range'_succ, List.range'_zero, List.forIn_cons, List.forIn_nil]
  go_simp
  by_cases h1 : a = a' <;> by_cases h2 : b = b' <;> by_cases h3 : c = c' <;> by_cases h4 : d = d' <;> simp [h1, h2, h3, h4]
theorem eqWord0 (a b c d a' b' c' d' : Int) (w : World) : (Op.equalIn 10000 24 (.agg #[.int .u64 a, .int .u64 b, .int .u64 c, .int .u64 d]) (.agg #[.int .u64 a', .int .u64 b', .int .u64 c', .int .u64 d'])).run Tryd.prog w =
    .ok (decide (a = a' ∧ b = b' ∧ c = c' ∧ d = d')) w := eqWord a b c d a' b' c' d' 9998 w
end Go.Proofs.YtoobfgahbndhjaaDoor
