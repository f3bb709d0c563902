/- Walks of package gauge, the small ones: which numbers are right. -/
import Derived.Test.YtiglfbnicihpmaaLabL
import Derived.Test.YtiglfbnicihpmaaKit
set_option linter.unusedVariables false
set_option linter.unusedSimpArgs false
namespace Go.Proofs.Ytiglfbnicihpmaa
open Go.RowKit

theorem nan_any (x : Int) (w : World) :
    Calls Try.prog 74 #[.int .u64 x] w fun e w' => e = .returned (.bool false) ∧ w = w' := by
  go_enter Try.func74, Try.ntmps74
  go_wp2
  go_ret
  exact ⟨by simp, rfl⟩

theorem less_any (x y : Int) (w : World) :
    Calls Try.prog 73 #[.int .u64 x, .int .u64 y] w fun e w' => e = .returned (.bool (decide (x < y))) ∧ w = w' := by
  go_enter Try.func73, Try.ntmps73
  go_wp2_with (go_at_call 74; refine (nan_any _ _).mono ?_; rintro e w' ⟨rfl, rfl⟩)
  all_goals go_ret
  all_goals exact ⟨by simp, rfl⟩

def sorted4 (a b c d : Int) : Bool := !(decide (d < c)) && (!(decide (c < b)) && !(decide (b < a)))

theorem sorted_any (b : Nat) (x0 x1 x2 x3 : Int) (w : World) (h0 : w.cell? ⟨b, 0, none⟩ = some (.int .u64 x0)) (h1 : w.cell? ⟨b, 1, none⟩ = some (.int .u64 x1))
    (h2 : w.cell? ⟨b, 2, none⟩ = some (.int .u64 x2)) (h3 : w.cell? ⟨b, 3, none⟩ = some (.int .u64 x3)) :
    Calls Try.prog 72 #[.slice (some ⟨b, 0, none⟩) 4 4] w fun e w' => e = .returned (.bool (sorted4 x0 x1 x2 x3)) ∧ ∃ n, w' = w.drewN n := by
  go_enter Try.func72, Try.ntmps72
  go_wp2_with fail
  refine wp_loop_rounds 4 ?_
  rw [rounds_succ]
  go_wp2_with fail
  go_quiet ((go_at_call 73; first | exact quiet_same (less_any _ _ _) | exact quiet_more (less_any _ _ _)))
  go_wp2_with fail
  · go_ret
    exact ⟨by simp [sorted4, *], nq, rfl⟩
  rw [rounds_succ]
  go_wp2_with fail
  go_quiet ((go_at_call 73; first | exact quiet_same (less_any _ _ _) | exact quiet_more (less_any _ _ _)))
  go_wp2_with fail
  · go_ret
    exact ⟨by simp [sorted4, *], _, World.drewN_drewN _ _ _⟩
  rw [rounds_succ]
  go_wp2_with fail
  go_quiet ((go_at_call 73; first | exact quiet_same (less_any _ _ _) | exact quiet_more (less_any _ _ _)))
  go_wp2_with fail
  · go_ret
    exact ⟨by simp [sorted4, *], _, World.drewN_drewN _ _ _⟩
  rw [rounds_succ]
  go_wp2_with fail
  go_ret
  exact ⟨by simp [sorted4, *], _, rfl⟩

/-- A label's number. -/
@[irreducible] def N64 (a : BitVec 64) : Int := (a.toNat : Int)
theorem N64_eq (a : BitVec 64) : N64 a = (a.toNat : Int) := by unfold N64; rfl
theorem N64_lo (a : BitVec 64) : 0 ≤ N64 a := by rw [N64_eq]; omega
theorem N64_hi (a : BitVec 64) : N64 a ≤ 18446744073709551615 := by rw [N64_eq]; have := a.isLt; simp only [Nat.reducePow] at this; omega

def rightB (l lo hi : Int) (a : Int) : Bool := sorted4 lo l hi 1099511627776 && ((a == 0) == (lo == hi))

set_option maxHeartbeats 800000 in
theorem right_any (l lo hi a : Int) (w : World) :
    Calls Try.prog 67 #[.agg #[.int .u64 l, .int .u64 lo, .int .u64 hi, .int .u64 a]] w fun e w' => e = .returned (.bool (rightB l lo hi a)) ∧ Below w.heap.size w w' := by
  go_enter Try.func67, Try.ntmps67
  go_wp2_with fail
  refine (sorted_any _ lo l hi 1099511627776 _ (by go_cell) (by go_cell) (by go_cell) (by go_cell)).mono ?_
  rintro e w' ⟨rfl, n, rfl⟩
  by_cases hs : sorted4 lo l hi 1099511627776 = true
  · go_wp2_with fail
    go_ret
    refine ⟨by simp [rightB, hs], ?_⟩
    refine below_drewN ?_ _
    go_grown
  · have hs' : sorted4 lo l hi 1099511627776 = false := by simpa using hs
    go_wp2_with fail
    go_ret
    refine ⟨by simp [rightB, hs'], ?_⟩
    refine below_drewN ?_ _
    go_grown
end Go.Proofs.Ytiglfbnicihpmaa
