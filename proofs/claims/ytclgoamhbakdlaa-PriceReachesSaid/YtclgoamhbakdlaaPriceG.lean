/- Walks: the document's prices. -/
import Derived.Test.YtclgoamhbakdlaaPriceF
set_option linter.unusedVariables false
set_option linter.unusedSimpArgs false
namespace Go.Proofs.Ytclgoamhbakdlaa
open Go.RowKit

set_option maxHeartbeats 2000000 in
set_option maxRecDepth 20000 in
theorem refOf_lo (k n : Int) (w : World) (h : k < 1) : Calls Try.prog 15 #[.int .i64 k, .int .i64 n] w fun e w' => e = .returned (.tuple #[.int .u64 0, .int .i64 2]) ∧ w = w' := by
  have d1 : decide (k < 1) = true := by simp <;> omega
  go_enter Try.func15, Try.ntmps15
  go_wp2_with fail
  go_ret2
  exact ⟨rfl, rfl⟩

set_option maxHeartbeats 2000000 in
set_option maxRecDepth 20000 in
theorem refOf_hi (k n : Int) (w : World) (h : 5 < k) : Calls Try.prog 15 #[.int .i64 k, .int .i64 n] w fun e w' => e = .returned (.tuple #[.int .u64 0, .int .i64 2]) ∧ w = w' := by
  have d1 : decide (k < 1) = false := by simp <;> omega
  have d2 : decide (5 < k) = true := by simp <;> omega
  go_enter Try.func15, Try.ntmps15
  go_wp2_with fail
  go_ret2
  exact ⟨rfl, rfl⟩

set_option maxHeartbeats 2000000 in
set_option maxRecDepth 20000 in
theorem refOf_bad (k n : Int) (w : World) (h : ¬ k < 1) (h1 : ¬ 5 < k) (h2 : okI n = false) : Calls Try.prog 15 #[.int .i64 k, .int .i64 n] w fun e w' => e = .returned (.tuple #[.int .u64 0, .int .i64 2]) ∧ w = w' := by
  have d1 : decide (k < 1) = false := by simp <;> omega
  have d2 : decide (5 < k) = false := by simp <;> omega
  have HR := fun V : World => refRight_any n V
  rw [h2] at HR
  go_enter Try.func15, Try.ntmps15
  go_wp2_with fail
  refine (HR _).mono ?_
  rintro e w' ⟨rfl, rfl⟩
  go_wp2_with fail
  go_ret2
  exact ⟨rfl, rfl⟩

set_option maxHeartbeats 2000000 in
set_option maxRecDepth 20000 in
theorem refOf_1 (n : Int) (w : World) (h2 : okI n = true) : Calls Try.prog 15 #[.int .i64 1, .int .i64 n] w fun e w' => e = .returned (.tuple #[.int .u64 (priceI 1 n), .int .i64 0]) ∧ w = w' := by
  have hn : 0 ≤ n ∧ n ≤ 16777216 := by simp only [okI, Bool.and_eq_true, decide_eq_true_eq] at h2; exact h2
  have HR := fun V : World => refRight_any n V
  rw [h2] at HR
  have HW := fun V : World => refWords_any n V hn.1 hn.2
  have h3 := wordsI_nn hn.1
  have h4 := wordsI_le hn.2
  have w1 : IntKind.u64.wrap (wordsI n) = wordsI n := IntWalk.u64_in _ (by omega)
  have w2 : IntKind.u64.wrap n = n := IntWalk.u64_in _ (by omega)
  have w3 : IntKind.u64.wrap (3 * wordsI n) = 3 * wordsI n := IntWalk.u64_in _ (by omega)
  go_enter Try.func15, Try.ntmps15
  go_wp2_with fail
  refine (HR _).mono ?_
  rintro e w' ⟨rfl, rfl⟩
  go_wp2_with fail
  refine (HW _).mono ?_
  rintro e w' ⟨rfl, rfl⟩
  go_wp2_with fail
  go_ret2
  exact ⟨rfl, rfl⟩

set_option maxHeartbeats 2000000 in
set_option maxRecDepth 20000 in
theorem refOf_2 (n : Int) (w : World) (h2 : okI n = true) : Calls Try.prog 15 #[.int .i64 2, .int .i64 n] w fun e w' => e = .returned (.tuple #[.int .u64 (priceI 2 n), .int .i64 0]) ∧ w = w' := by
  have hn : 0 ≤ n ∧ n ≤ 16777216 := by simp only [okI, Bool.and_eq_true, decide_eq_true_eq] at h2; exact h2
  have HR := fun V : World => refRight_any n V
  rw [h2] at HR
  have HW := fun V : World => refWords_any n V hn.1 hn.2
  have h3 := wordsI_nn hn.1
  have h4 := wordsI_le hn.2
  have w1 : IntKind.u64.wrap (wordsI n) = wordsI n := IntWalk.u64_in _ (by omega)
  have w2 : IntKind.u64.wrap n = n := IntWalk.u64_in _ (by omega)
  have w3 : IntKind.u64.wrap (6 * wordsI n) = 6 * wordsI n := IntWalk.u64_in _ (by omega)
  go_enter Try.func15, Try.ntmps15
  go_wp2_with fail
  refine (HR _).mono ?_
  rintro e w' ⟨rfl, rfl⟩
  go_wp2_with fail
  refine (HW _).mono ?_
  rintro e w' ⟨rfl, rfl⟩
  go_wp2_with fail
  go_ret2
  exact ⟨rfl, rfl⟩

set_option maxHeartbeats 2000000 in
set_option maxRecDepth 20000 in
theorem refOf_3 (n : Int) (w : World) (h2 : okI n = true) : Calls Try.prog 15 #[.int .i64 3, .int .i64 n] w fun e w' => e = .returned (.tuple #[.int .u64 (priceI 3 n), .int .i64 0]) ∧ w = w' := by
  have hn : 0 ≤ n ∧ n ≤ 16777216 := by simp only [okI, Bool.and_eq_true, decide_eq_true_eq] at h2; exact h2
  have HR := fun V : World => refRight_any n V
  rw [h2] at HR
  have HW := fun V : World => refWords_any n V hn.1 hn.2
  have h3 := wordsI_nn hn.1
  have h4 := wordsI_le hn.2
  have w1 : IntKind.u64.wrap (wordsI n) = wordsI n := IntWalk.u64_in _ (by omega)
  have w2 : IntKind.u64.wrap n = n := IntWalk.u64_in _ (by omega)
  have w3 : IntKind.u64.wrap (8 * n) = 8 * n := IntWalk.u64_in _ (by omega)
  go_enter Try.func15, Try.ntmps15
  go_wp2_with fail
  refine (HR _).mono ?_
  rintro e w' ⟨rfl, rfl⟩
  go_wp2_with fail
  refine (HW _).mono ?_
  rintro e w' ⟨rfl, rfl⟩
  go_wp2_with fail
  go_ret2
  exact ⟨rfl, rfl⟩

set_option maxHeartbeats 2000000 in
set_option maxRecDepth 20000 in
theorem refOf_4 (n : Int) (w : World) (h2 : okI n = true) : Calls Try.prog 15 #[.int .i64 4, .int .i64 n] w fun e w' => e = .returned (.tuple #[.int .u64 (priceI 4 n), .int .i64 0]) ∧ w = w' := by
  have hn : 0 ≤ n ∧ n ≤ 16777216 := by simp only [okI, Bool.and_eq_true, decide_eq_true_eq] at h2; exact h2
  have HR := fun V : World => refRight_any n V
  rw [h2] at HR
  have HW := fun V : World => refWords_any n V hn.1 hn.2
  have h3 := wordsI_nn hn.1
  have h4 := wordsI_le hn.2
  have w1 : IntKind.u64.wrap (wordsI n) = wordsI n := IntWalk.u64_in _ (by omega)
  have w2 : IntKind.u64.wrap n = n := IntWalk.u64_in _ (by omega)
  have w3 : IntKind.u64.wrap (2 * wordsI n) = 2 * wordsI n := IntWalk.u64_in _ (by omega)
  go_enter Try.func15, Try.ntmps15
  go_wp2_with fail
  refine (HR _).mono ?_
  rintro e w' ⟨rfl, rfl⟩
  go_wp2_with fail
  refine (HW _).mono ?_
  rintro e w' ⟨rfl, rfl⟩
  go_wp2_with fail
  go_ret2
  exact ⟨rfl, rfl⟩

set_option maxHeartbeats 2000000 in
set_option maxRecDepth 20000 in
theorem refOf_5 (n : Int) (w : World) (h2 : okI n = true) : Calls Try.prog 15 #[.int .i64 5, .int .i64 n] w fun e w' => e = .returned (.tuple #[.int .u64 (priceI 5 n), .int .i64 0]) ∧ w = w' := by
  have hn : 0 ≤ n ∧ n ≤ 16777216 := by simp only [okI, Bool.and_eq_true, decide_eq_true_eq] at h2; exact h2
  have HR := fun V : World => refRight_any n V
  rw [h2] at HR
  have HW := fun V : World => refWords_any n V hn.1 hn.2
  have h3 := wordsI_nn hn.1
  have h4 := wordsI_le hn.2
  have w1 : IntKind.u64.wrap (wordsI n) = wordsI n := IntWalk.u64_in _ (by omega)
  have w2 : IntKind.u64.wrap n = n := IntWalk.u64_in _ (by omega)
  have w3 : IntKind.u64.wrap (50 * n) = 50 * n := IntWalk.u64_in _ (by omega)
  go_enter Try.func15, Try.ntmps15
  go_wp2_with fail
  refine (HR _).mono ?_
  rintro e w' ⟨rfl, rfl⟩
  go_wp2_with fail
  refine (HW _).mono ?_
  rintro e w' ⟨rfl, rfl⟩
  go_wp2_with fail
  go_ret2
  exact ⟨rfl, rfl⟩

theorem refOf_any (k n : Int) (w : World) : Calls Try.prog 15 #[.int .i64 k, .int .i64 n] w fun e w' => e = .returned (.tuple #[.int .u64 (if inK k && okI n then priceI k n else 0), .int .i64 (if inK k && okI n then 0 else 2)]) ∧ w = w' := by
  by_cases h1 : k < 1
  · rw [show inK k = false by unfold inK; rw [decide_eq_false (by omega)]; rfl, Bool.false_and]; exact refOf_lo k n w h1
  by_cases h2 : 5 < k
  · rw [show inK k = false by unfold inK; rw [decide_eq_false (p := k ≤ 5) (by omega), Bool.and_false], Bool.false_and]; exact refOf_hi k n w h2
  rw [show inK k = true by unfold inK; rw [decide_eq_true (by omega), decide_eq_true (by omega)]; rfl, Bool.true_and]
  rcases h : okI n with _ | _
  · exact refOf_bad k n w h1 h2 h
  rcases (by omega : k = 1 ∨ k = 2 ∨ k = 3 ∨ k = 4 ∨ k = 5) with rfl | rfl | rfl | rfl | rfl
  · exact refOf_1 n w h
  · exact refOf_2 n w h
  · exact refOf_3 n w h
  · exact refOf_4 n w h
  · exact refOf_5 n w h
end Go.Proofs.Ytclgoamhbakdlaa
