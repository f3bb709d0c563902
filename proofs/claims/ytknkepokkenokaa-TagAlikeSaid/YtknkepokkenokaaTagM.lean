/- Walks: small ones of the law. -/
import Derived.Test.YtknkepokkenokaaTagL
set_option linter.unusedVariables false
set_option linter.unusedSimpArgs false
namespace Go.Proofs.Ytknkepokkenokaa
open Go.RowKit

theorem refWOf_any (n : Int) (w : World) :
    Calls Try.prog 30 #[.int .u64 n] w fun e w' => e = .returned (.agg #[.int .u64 n, .int .u64 0, .int .u64 0, .int .u64 0]) ∧ Below w.heap.size w w' := by
  go_enter Try.func30, Try.ntmps30
  go_wp2_with fail
  refine bodyPost_ret (v := .agg #[.int .u64 n, .int .u64 0, .int .u64 0, .int .u64 0]) (by simp [results, Try.results30, go_sem, *]) rfl ?_
  exact ⟨rfl, by go_grown⟩
theorem num_any (x : Int) (w : World) :
    Calls Try.prog 9 #[.int .i64 x] w fun e w' => e = .returned (.int .i64 x) ∧ w = w' := by
  go_enter Try.func9, Try.ntmps9
  go_wp2_with fail
  go_ret
  exact ⟨rfl, rfl⟩

theorem Own.left {T H : List Block} {w : World} (h : Own (T ++ H) w) : Own T w := fun p hp => h p (List.mem_append_left _ hp)
theorem Own.right {T H : List Block} {w : World} (h : Own (T ++ H) w) : Own H w := fun p hp => h p (List.mem_append_right _ hp)
theorem Own.tl {q : Block} {H : List Block} {w : World} (h : Own (q :: H) w) : Own H w := fun p hp => h p (List.mem_cons_of_mem _ hp)
end Go.Proofs.Ytknkepokkenokaa
