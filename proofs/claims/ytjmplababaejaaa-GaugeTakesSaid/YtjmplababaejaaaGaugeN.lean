/- Walks: which gauges are alike. -/
import Derived.Test.YtjmplababaejaaaGaugeE
set_option linter.unusedVariables false
set_option linter.unusedSimpArgs false
namespace Go.Proofs.Ytjmplababaejaaa
open Go.RowKit
theorem alike_any (g h : Kn) (up : Int) (w : World) :
    Calls Try.prog 12 #[.agg #[.int .u64 g.l, .int .u64 g.lo, .int .u64 g.hi, .int .u64 g.a], .agg #[.int .u64 h.l, .int .u64 h.lo, .int .u64 h.hi, .int .u64 h.a], .int .u64 up] w
      fun e w' => e = .returned (.bool ((!belowI g.a up || decide (g.l = h.l)) && (decide (g.lo = h.lo) && (decide (g.hi = h.hi) && decide (g.a = h.a))))) ∧ Below w.heap.size w w' := by
  cases hb : belowI g.a up
  · have hB := fun W : World => below_any g.a up W
    rw [hb] at hB
    have HB := Lib.hid hB
    clear hB
    go_enter Try.func12, Try.ntmps12
    go_wp2_with fail
    refine (HB.out _).mono ?_
    rintro e w1 ⟨rfl, rfl⟩
    go_wp2_with fail
    all_goals go_ret
    all_goals (refine ⟨by simp [*], ?_⟩; go_grown)
  · have hB := fun W : World => below_any g.a up W
    rw [hb] at hB
    have HB := Lib.hid hB
    clear hB
    go_enter Try.func12, Try.ntmps12
    go_wp2_with fail
    refine (HB.out _).mono ?_
    rintro e w1 ⟨rfl, rfl⟩
    go_wp2_with fail
    all_goals go_ret
    all_goals (refine ⟨by simp [*], ?_⟩; go_grown)
set_option maxHeartbeats 1000000 in
theorem refAlike_lo (l lo hi a l' lo' hi' a' up : Int) (w : World) (h : ¬ lo = lo') :
    Calls Try.prog 13 #[.agg #[.int .u64 l, .int .u64 lo, .int .u64 hi, .int .u64 a], .agg #[.int .u64 l', .int .u64 lo', .int .u64 hi', .int .u64 a'], .int .u64 up] w
      fun e w' => e = .returned (.bool (false)) ∧ Below w.heap.size w w' := by
  go_enter Try.func13, Try.ntmps13
  go_wp2_with fail
  all_goals go_ret
  all_goals (refine ⟨rfl, ?_⟩; go_grown)
set_option maxHeartbeats 1000000 in
theorem refAlike_hi (l lo hi a l' hi' a' up : Int) (w : World) (h : ¬ hi = hi') :
    Calls Try.prog 13 #[.agg #[.int .u64 l, .int .u64 lo, .int .u64 hi, .int .u64 a], .agg #[.int .u64 l', .int .u64 lo, .int .u64 hi', .int .u64 a'], .int .u64 up] w
      fun e w' => e = .returned (.bool (false)) ∧ Below w.heap.size w w' := by
  go_enter Try.func13, Try.ntmps13
  go_wp2_with fail
  all_goals go_ret
  all_goals (refine ⟨rfl, ?_⟩; go_grown)
set_option maxHeartbeats 1000000 in
theorem refAlike_lab (l lo hi a l' a' up : Int) (w : World) (h : ¬ a = a') :
    Calls Try.prog 13 #[.agg #[.int .u64 l, .int .u64 lo, .int .u64 hi, .int .u64 a], .agg #[.int .u64 l', .int .u64 lo, .int .u64 hi, .int .u64 a'], .int .u64 up] w
      fun e w' => e = .returned (.bool (false)) ∧ Below w.heap.size w w' := by
  go_enter Try.func13, Try.ntmps13
  go_wp2_with fail
  all_goals go_ret
  all_goals (refine ⟨rfl, ?_⟩; go_grown)
set_option maxHeartbeats 1000000 in
theorem refAlike_up (l lo hi a l' up : Int) (w : World) (h0 : 0 ≤ a) (h1 : 0 ≤ up) (hb : refBelowI a up = false) :
    Calls Try.prog 13 #[.agg #[.int .u64 l, .int .u64 lo, .int .u64 hi, .int .u64 a], .agg #[.int .u64 l', .int .u64 lo, .int .u64 hi, .int .u64 a], .int .u64 up] w
      fun e w' => e = .returned (.bool (true)) ∧ Below w.heap.size w w' := by
  have hB := fun W : World => refBelow_any a up W h0 h1
  rw [hb] at hB
  have HB := Lib.hid hB
  clear hB hb h0 h1
  go_enter Try.func13, Try.ntmps13
  go_wp2_with fail
  refine (HB.out _).mono ?_
  rintro e w1 ⟨rfl, rfl⟩
  go_wp2_with fail
  all_goals go_ret
  all_goals (refine ⟨by simp [*], ?_⟩; go_grown)
set_option maxHeartbeats 1000000 in
theorem refAlike_low (l lo hi a l' up : Int) (w : World) (h0 : 0 ≤ a) (h1 : 0 ≤ up) (hb : refBelowI a up = true) :
    Calls Try.prog 13 #[.agg #[.int .u64 l, .int .u64 lo, .int .u64 hi, .int .u64 a], .agg #[.int .u64 l', .int .u64 lo, .int .u64 hi, .int .u64 a], .int .u64 up] w
      fun e w' => e = .returned (.bool (l == l')) ∧ Below w.heap.size w w' := by
  have hB := fun W : World => refBelow_any a up W h0 h1
  rw [hb] at hB
  have HB := Lib.hid hB
  clear hB hb h0 h1
  go_enter Try.func13, Try.ntmps13
  go_wp2_with fail
  refine (HB.out _).mono ?_
  rintro e w1 ⟨rfl, rfl⟩
  go_wp2_with fail
  all_goals go_ret
  all_goals (refine ⟨by simp [*], ?_⟩; go_grown)
theorem refAlike_any (g h : Kn) (up : Int) (w : World) (h0 : 0 ≤ g.a) (h1 : 0 ≤ up) :
    Calls Try.prog 13 #[.agg #[.int .u64 g.l, .int .u64 g.lo, .int .u64 g.hi, .int .u64 g.a], .agg #[.int .u64 h.l, .int .u64 h.lo, .int .u64 h.hi, .int .u64 h.a], .int .u64 up] w
      fun e w' => e = .returned (.bool ((!refBelowI g.a up || decide (g.l = h.l)) && (decide (g.lo = h.lo) && (decide (g.hi = h.hi) && decide (g.a = h.a))))) ∧ Below w.heap.size w w' := by
  obtain ⟨l, lo, hi, a⟩ := g
  obtain ⟨l', lo', hi', a'⟩ := h
  by_cases e1 : lo = lo'
  · subst e1
    by_cases e2 : hi = hi'
    · subst e2
      by_cases e3 : a = a'
      · subst e3
        cases hb : refBelowI a up with
        | false => simpa [hb] using refAlike_up l lo hi a l' up w h0 h1 hb
        | true =>
          have h := refAlike_low l lo hi a l' up w h0 h1 hb
          rw [show (l == l') = decide (l = l') from by rw [Bool.eq_iff_iff]; simp] at h
          simpa [hb] using h
      · simpa [e3] using refAlike_lab l lo hi a l' a' up w e3
    · simpa [e2] using refAlike_hi l lo hi a l' hi' a' up w e2
  · simpa [e1] using refAlike_lo l lo hi a l' lo' hi' a' up w e1
end Go.Proofs.Ytjmplababaejaaa
