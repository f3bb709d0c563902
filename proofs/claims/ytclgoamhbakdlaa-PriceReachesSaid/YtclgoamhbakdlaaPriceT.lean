/- Walks: the document's Reach. -/
import Derived.Test.YtclgoamhbakdlaaPriceD
set_option linter.unusedVariables false
set_option linter.unusedSimpArgs false
namespace Go.Proofs.Ytclgoamhbakdlaa
open Go.RowKit

theorem smallB_iff (x : BitVec 256) : smallB x = true ↔ x.toNat < 18446744073709551616 := by
  unfold smallB
  simp only [Bool.and_eq_true, decide_eq_true_eq, L_eq]
  have := x.isLt
  omega
theorem small_nat {x : BitVec 256} (h : smallB x = true) : L x 0 = x.toNat := by
  have := (smallB_iff x).1 h
  rw [L_eq]
  omega
theorem endOk_iff {x y : BitVec 256} (hy : y ≠ 0) : endOk x y = true ↔ smallB x = true ∧ smallB y = true ∧ L x 0 ≤ 16777216 ∧ L y 0 ≤ 16777216 ∧ L x 0 + L y 0 ≤ 16777216 := by
  have hy0 : y.toNat ≠ 0 := fun h => hy (BitVec.eq_of_toNat_eq (by simpa using h))
  have hs : (x + y).toNat = (x.toNat + y.toNat) % 2 ^ 256 := BitVec.toNat_add x y
  have hx := x.isLt
  have hy1 := y.isLt
  unfold endOk
  simp only [Bool.and_eq_true, decide_eq_true_eq]
  constructor
  · rintro ⟨h1, h2, h3, h4⟩
    rw [small_nat h1] at h3 h4
    rw [small_nat h2] at h4
    have a1 := (smallB_iff x).1 h2
    have hsy : smallB y = true := (smallB_iff y).2 (by omega)
    rw [small_nat h2, small_nat hsy]
    exact ⟨h2, hsy, by omega, by omega, by omega⟩
  · rintro ⟨h1, h2, h3, h4, h5⟩
    rw [small_nat h1] at h3 h5
    rw [small_nat h2] at h4 h5
    have hss : smallB (x + y) = true := (smallB_iff _).2 (by omega)
    rw [small_nat hss, small_nat h1]
    exact ⟨hss, h1, by omega, by omega⟩
theorem end_sum {x y : BitVec 256} (h1 : smallB x = true) (h2 : smallB y = true) (h : L x 0 + L y 0 ≤ 16777216) : L (x + y) 0 = L x 0 + L y 0 := by
  have hs : (x + y).toNat = (x.toNat + y.toNat) % 2 ^ 256 := BitVec.toNat_add x y
  rw [small_nat h1, small_nat h2] at h ⊢
  have hss : smallB (x + y) = true := (smallB_iff _).2 (by omega)
  rw [small_nat hss]
  omega
theorem refSmall_any (x : BitVec 256) (w : World) : Calls Try.prog 35 #[W x] w fun e w' => e = .returned (.tuple #[.int .u64 (if smallB x then L x 0 else 0), .bool (smallB x)]) ∧ Below w.heap.size w w' := by
  unfold smallB
  by_cases h1 : L x 1 = 0
  · by_cases h2 : L x 2 = 0
    · by_cases h3 : L x 3 = 0
      · simp only [h1, h2, h3, decide_true, Bool.and_self, if_true]
        have e : W x = .agg #[.int .u64 (L x 0), .int .u64 0, .int .u64 0, .int .u64 0] := by show Value.agg #[.int .u64 (L x 0), .int .u64 (L x 1), .int .u64 (L x 2), .int .u64 (L x 3)] = _; rw [h1, h2, h3]
        rw [e]
        go_enter Try.func35, Try.ntmps35
        go_wp2_with fail
        go_ret2
        exact ⟨rfl, by go_grown⟩
      · simp only [h3, decide_false, Bool.and_false, Bool.false_eq_true, if_false]
        have e : W x = .agg #[.int .u64 (L x 0), .int .u64 0, .int .u64 0, .int .u64 (L x 3)] := by show Value.agg #[.int .u64 (L x 0), .int .u64 (L x 1), .int .u64 (L x 2), .int .u64 (L x 3)] = _; rw [h1, h2]
        rw [e]
        have d : decide (L x 3 = 0) = false := by simp [h3]
        go_enter Try.func35, Try.ntmps35
        go_wp2_with fail
        go_ret2
        exact ⟨rfl, by go_grown⟩
    · simp only [h2, decide_false, Bool.false_and, Bool.and_false, Bool.false_eq_true, if_false]
      have e : W x = .agg #[.int .u64 (L x 0), .int .u64 0, .int .u64 (L x 2), .int .u64 (L x 3)] := by show Value.agg #[.int .u64 (L x 0), .int .u64 (L x 1), .int .u64 (L x 2), .int .u64 (L x 3)] = _; rw [h1]
      rw [e]
      have d : decide (L x 2 = 0) = false := by simp [h2]
      go_enter Try.func35, Try.ntmps35
      go_wp2_with fail
      go_ret2
      exact ⟨rfl, by go_grown⟩
  · simp only [h1, decide_false, Bool.false_and, Bool.false_eq_true, if_false]
    have d : decide (L x 1 = 0) = false := by simp [h1]
    go_enter Try.func35, Try.ntmps35
    go_wp2_with fail
    go_ret2
    exact ⟨rfl, by go_grown⟩

set_option maxHeartbeats 4000000 in
set_option maxRecDepth 20000 in
theorem refReach_bad (n : Int) (x y : BitVec 256) (w : World) (h : okI n = false) :
    Calls Try.prog 21 #[.int .i64 n, W x, W y] w fun e w' => e = .returned (.tuple #[.int .i64 0, .int .u64 0, .int .i64 2]) ∧ Below w.heap.size w w' := by
  have HS1 := fun V : World => refSmall_any x V
  have HS2 := fun V : World => refSmall_any y V
  have hq := eqWord0 (L y 0) (L y 1) (L y 2) (L y 3) 0 0 0 0
  have HR := fun V : World => refRight_any n V
  have x0 := L_lo x 0
  have y0 := L_lo y 0
  rw [h] at HR
  generalize (if smallB x = true then L x 0 else 0) = E1 at HS1
  generalize smallB x = S1 at HS1
  generalize (if smallB y = true then L y 0 else 0) = E2 at HS2
  generalize smallB y = S2 at HS2
  go_enter Try.func21, Try.ntmps21
  go_wp2_with fail
  refine (HR _).mono ?_
  rintro e w' ⟨rfl, rfl⟩
  go_wp2_with fail
  go_ret3
  exact ⟨rfl, by go_grown⟩

set_option maxHeartbeats 4000000 in
set_option maxRecDepth 20000 in
theorem refReach_nought (n : Int) (x y : BitVec 256) (w : World) (h : okI n = true) (hy : (L y 0 = 0 ∧ L y 1 = 0 ∧ L y 2 = 0 ∧ L y 3 = 0)) :
    Calls Try.prog 21 #[.int .i64 n, W x, W y] w fun e w' => e = .returned (.tuple #[.int .i64 n, .int .u64 0, .int .i64 0]) ∧ Below w.heap.size w w' := by
  have HS1 := fun V : World => refSmall_any x V
  have HS2 := fun V : World => refSmall_any y V
  have hq := eqWord0 (L y 0) (L y 1) (L y 2) (L y 3) 0 0 0 0
  have HR := fun V : World => refRight_any n V
  have x0 := L_lo x 0
  have y0 := L_lo y 0
  have hn : 0 ≤ n ∧ n ≤ 16777216 := by simp only [okI, Bool.and_eq_true, decide_eq_true_eq] at h; exact h
  rw [h] at HR
  rw [decide_eq_true hy] at hq
  clear hy
  generalize (if smallB x = true then L x 0 else 0) = E1 at HS1
  generalize smallB x = S1 at HS1
  generalize (if smallB y = true then L y 0 else 0) = E2 at HS2
  generalize smallB y = S2 at HS2
  go_enter Try.func21, Try.ntmps21
  go_wp2_with fail
  refine (HR _).mono ?_
  rintro e w' ⟨rfl, rfl⟩
  go_wp2_with fail
  go_ret3
  exact ⟨rfl, by go_grown⟩

set_option maxHeartbeats 4000000 in
set_option maxRecDepth 20000 in
theorem refReach_far1 (n : Int) (x y : BitVec 256) (w : World) (h : okI n = true) (hy : ¬ (L y 0 = 0 ∧ L y 1 = 0 ∧ L y 2 = 0 ∧ L y 3 = 0)) (h1 : smallB x = false) :
    Calls Try.prog 21 #[.int .i64 n, W x, W y] w fun e w' => e = .returned (.tuple #[.int .i64 0, .int .u64 0, .int .i64 4]) ∧ Below w.heap.size w w' := by
  have HS1 := fun V : World => refSmall_any x V
  have HS2 := fun V : World => refSmall_any y V
  have hq := eqWord0 (L y 0) (L y 1) (L y 2) (L y 3) 0 0 0 0
  have HR := fun V : World => refRight_any n V
  have x0 := L_lo x 0
  have y0 := L_lo y 0
  have hn : 0 ≤ n ∧ n ≤ 16777216 := by simp only [okI, Bool.and_eq_true, decide_eq_true_eq] at h; exact h
  rw [h] at HR
  rw [decide_eq_false hy] at hq
  clear hy
  simp only [h1, if_true, if_false, Bool.false_eq_true] at HS1
  generalize (if smallB y = true then L y 0 else 0) = E2 at HS2
  generalize smallB y = S2 at HS2
  go_enter Try.func21, Try.ntmps21
  go_wp2_with fail
  refine (HR _).mono ?_
  rintro e w' ⟨rfl, rfl⟩
  go_wp2_with fail
  refine (HS1 _).mono ?_
  rintro e w1 ⟨rfl, hb1⟩
  have O1 := Own.grow' hb1 (Own.new (Own.new (Own.nil w) (w.heap.size) rfl) (w.heap.size + 1) (by simp))
  try simp only [List.setIfInBounds_toArray, List.set_cons_zero, List.set_cons_succ] at O1
  have bw1 : Below w.heap.size w w1 := Below.trans (by go_grown) (Below.mono hb1 (by first | omega | (simp; done) | (simp; omega)))
  have zw1 := Below.size hb1
  try simp only [World.size_alloc, World.size_drew, World.size_setCell] at zw1
  have c1x0 := Own.cell O1 0 rfl
  have f1x0 := Own.free O1 0 rfl
  have l1x0 := Own.lt O1 0 rfl
  have l1x0d0 := le_up 0 l1x0
  have l1x0d1 := le_up 1 l1x0
  simp only [upN] at l1x0d0 l1x0d1
  have c1x1 := Own.cell O1 1 rfl
  have f1x1 := Own.free O1 1 rfl
  have l1x1 := Own.lt O1 1 rfl
  have l1x1d0 := le_up 0 l1x1
  have l1x1d1 := le_up 1 l1x1
  simp only [upN] at l1x1d0 l1x1d1
  have HO1 := Lib.hid O1
  clear O1 hb1
  go_wp2_with fail
  refine (HS2 _).mono ?_
  rintro e w2 ⟨rfl, hb2⟩
  have O2 := Own.grow' hb2 HO1.out
  try simp only [List.setIfInBounds_toArray, List.set_cons_zero, List.set_cons_succ] at O2
  have bw2 : Below w.heap.size w w2 := Below.trans (by go_grown) (Below.mono hb2 (by first | omega | (simp; done) | (simp; omega)))
  have zw2 := Below.size hb2
  try simp only [World.size_alloc, World.size_drew, World.size_setCell] at zw2
  clear c1x0 f1x0 l1x0 l1x0d0 l1x0d1 c1x1 f1x1 l1x1 l1x1d0 l1x1d1
  have c2x0 := Own.cell O2 0 rfl
  have f2x0 := Own.free O2 0 rfl
  have l2x0 := Own.lt O2 0 rfl
  have l2x0d0 := le_up 0 l2x0
  have l2x0d1 := le_up 1 l2x0
  simp only [upN] at l2x0d0 l2x0d1
  have c2x1 := Own.cell O2 1 rfl
  have f2x1 := Own.free O2 1 rfl
  have l2x1 := Own.lt O2 1 rfl
  have l2x1d0 := le_up 0 l2x1
  have l2x1d1 := le_up 1 l2x1
  simp only [upN] at l2x1d0 l2x1d1
  have HO2 := Lib.hid O2
  clear O2 hb2
  go_wp2_with fail
  go_ret3
  exact ⟨rfl, by go_grown⟩

set_option maxHeartbeats 4000000 in
set_option maxRecDepth 20000 in
theorem refReach_far2 (n : Int) (x y : BitVec 256) (w : World) (h : okI n = true) (hy : ¬ (L y 0 = 0 ∧ L y 1 = 0 ∧ L y 2 = 0 ∧ L y 3 = 0)) (h1 : smallB x = true) (h2 : smallB y = false) :
    Calls Try.prog 21 #[.int .i64 n, W x, W y] w fun e w' => e = .returned (.tuple #[.int .i64 0, .int .u64 0, .int .i64 4]) ∧ Below w.heap.size w w' := by
  have HS1 := fun V : World => refSmall_any x V
  have HS2 := fun V : World => refSmall_any y V
  have hq := eqWord0 (L y 0) (L y 1) (L y 2) (L y 3) 0 0 0 0
  have HR := fun V : World => refRight_any n V
  have x0 := L_lo x 0
  have y0 := L_lo y 0
  have hn : 0 ≤ n ∧ n ≤ 16777216 := by simp only [okI, Bool.and_eq_true, decide_eq_true_eq] at h; exact h
  rw [h] at HR
  rw [decide_eq_false hy] at hq
  clear hy
  simp only [h1, if_true, if_false, Bool.false_eq_true] at HS1
  simp only [h2, if_true, if_false, Bool.false_eq_true] at HS2
  go_enter Try.func21, Try.ntmps21
  go_wp2_with fail
  refine (HR _).mono ?_
  rintro e w' ⟨rfl, rfl⟩
  go_wp2_with fail
  refine (HS1 _).mono ?_
  rintro e w1 ⟨rfl, hb1⟩
  have O1 := Own.grow' hb1 (Own.new (Own.new (Own.nil w) (w.heap.size) rfl) (w.heap.size + 1) (by simp))
  try simp only [List.setIfInBounds_toArray, List.set_cons_zero, List.set_cons_succ] at O1
  have bw1 : Below w.heap.size w w1 := Below.trans (by go_grown) (Below.mono hb1 (by first | omega | (simp; done) | (simp; omega)))
  have zw1 := Below.size hb1
  try simp only [World.size_alloc, World.size_drew, World.size_setCell] at zw1
  have c1x0 := Own.cell O1 0 rfl
  have f1x0 := Own.free O1 0 rfl
  have l1x0 := Own.lt O1 0 rfl
  have l1x0d0 := le_up 0 l1x0
  have l1x0d1 := le_up 1 l1x0
  simp only [upN] at l1x0d0 l1x0d1
  have c1x1 := Own.cell O1 1 rfl
  have f1x1 := Own.free O1 1 rfl
  have l1x1 := Own.lt O1 1 rfl
  have l1x1d0 := le_up 0 l1x1
  have l1x1d1 := le_up 1 l1x1
  simp only [upN] at l1x1d0 l1x1d1
  have HO1 := Lib.hid O1
  clear O1 hb1
  go_wp2_with fail
  refine (HS2 _).mono ?_
  rintro e w2 ⟨rfl, hb2⟩
  have O2 := Own.grow' hb2 HO1.out
  try simp only [List.setIfInBounds_toArray, List.set_cons_zero, List.set_cons_succ] at O2
  have bw2 : Below w.heap.size w w2 := Below.trans (by go_grown) (Below.mono hb2 (by first | omega | (simp; done) | (simp; omega)))
  have zw2 := Below.size hb2
  try simp only [World.size_alloc, World.size_drew, World.size_setCell] at zw2
  clear c1x0 f1x0 l1x0 l1x0d0 l1x0d1 c1x1 f1x1 l1x1 l1x1d0 l1x1d1
  have c2x0 := Own.cell O2 0 rfl
  have f2x0 := Own.free O2 0 rfl
  have l2x0 := Own.lt O2 0 rfl
  have l2x0d0 := le_up 0 l2x0
  have l2x0d1 := le_up 1 l2x0
  simp only [upN] at l2x0d0 l2x0d1
  have c2x1 := Own.cell O2 1 rfl
  have f2x1 := Own.free O2 1 rfl
  have l2x1 := Own.lt O2 1 rfl
  have l2x1d0 := le_up 0 l2x1
  have l2x1d1 := le_up 1 l2x1
  simp only [upN] at l2x1d0 l2x1d1
  have HO2 := Lib.hid O2
  clear O2 hb2
  go_wp2_with fail
  go_ret3
  exact ⟨rfl, by go_grown⟩

set_option maxHeartbeats 4000000 in
set_option maxRecDepth 20000 in
theorem refReach_far3 (n : Int) (x y : BitVec 256) (w : World) (h : okI n = true) (hy : ¬ (L y 0 = 0 ∧ L y 1 = 0 ∧ L y 2 = 0 ∧ L y 3 = 0)) (h1 : smallB x = true) (h2 : smallB y = true) (h3 : 16777216 < L x 0) :
    Calls Try.prog 21 #[.int .i64 n, W x, W y] w fun e w' => e = .returned (.tuple #[.int .i64 0, .int .u64 0, .int .i64 4]) ∧ Below w.heap.size w w' := by
  have HS1 := fun V : World => refSmall_any x V
  have HS2 := fun V : World => refSmall_any y V
  have hq := eqWord0 (L y 0) (L y 1) (L y 2) (L y 3) 0 0 0 0
  have HR := fun V : World => refRight_any n V
  have x0 := L_lo x 0
  have y0 := L_lo y 0
  have hn : 0 ≤ n ∧ n ≤ 16777216 := by simp only [okI, Bool.and_eq_true, decide_eq_true_eq] at h; exact h
  rw [h] at HR
  rw [decide_eq_false hy] at hq
  clear hy
  simp only [h1, if_true, if_false, Bool.false_eq_true] at HS1
  simp only [h2, if_true, if_false, Bool.false_eq_true] at HS2
  go_enter Try.func21, Try.ntmps21
  go_wp2_with fail
  refine (HR _).mono ?_
  rintro e w' ⟨rfl, rfl⟩
  go_wp2_with fail
  refine (HS1 _).mono ?_
  rintro e w1 ⟨rfl, hb1⟩
  have O1 := Own.grow' hb1 (Own.new (Own.new (Own.nil w) (w.heap.size) rfl) (w.heap.size + 1) (by simp))
  try simp only [List.setIfInBounds_toArray, List.set_cons_zero, List.set_cons_succ] at O1
  have bw1 : Below w.heap.size w w1 := Below.trans (by go_grown) (Below.mono hb1 (by first | omega | (simp; done) | (simp; omega)))
  have zw1 := Below.size hb1
  try simp only [World.size_alloc, World.size_drew, World.size_setCell] at zw1
  have c1x0 := Own.cell O1 0 rfl
  have f1x0 := Own.free O1 0 rfl
  have l1x0 := Own.lt O1 0 rfl
  have l1x0d0 := le_up 0 l1x0
  have l1x0d1 := le_up 1 l1x0
  simp only [upN] at l1x0d0 l1x0d1
  have c1x1 := Own.cell O1 1 rfl
  have f1x1 := Own.free O1 1 rfl
  have l1x1 := Own.lt O1 1 rfl
  have l1x1d0 := le_up 0 l1x1
  have l1x1d1 := le_up 1 l1x1
  simp only [upN] at l1x1d0 l1x1d1
  have HO1 := Lib.hid O1
  clear O1 hb1
  go_wp2_with fail
  refine (HS2 _).mono ?_
  rintro e w2 ⟨rfl, hb2⟩
  have O2 := Own.grow' hb2 HO1.out
  try simp only [List.setIfInBounds_toArray, List.set_cons_zero, List.set_cons_succ] at O2
  have bw2 : Below w.heap.size w w2 := Below.trans (by go_grown) (Below.mono hb2 (by first | omega | (simp; done) | (simp; omega)))
  have zw2 := Below.size hb2
  try simp only [World.size_alloc, World.size_drew, World.size_setCell] at zw2
  clear c1x0 f1x0 l1x0 l1x0d0 l1x0d1 c1x1 f1x1 l1x1 l1x1d0 l1x1d1
  have c2x0 := Own.cell O2 0 rfl
  have f2x0 := Own.free O2 0 rfl
  have l2x0 := Own.lt O2 0 rfl
  have l2x0d0 := le_up 0 l2x0
  have l2x0d1 := le_up 1 l2x0
  simp only [upN] at l2x0d0 l2x0d1
  have c2x1 := Own.cell O2 1 rfl
  have f2x1 := Own.free O2 1 rfl
  have l2x1 := Own.lt O2 1 rfl
  have l2x1d0 := le_up 0 l2x1
  have l2x1d1 := le_up 1 l2x1
  simp only [upN] at l2x1d0 l2x1d1
  have HO2 := Lib.hid O2
  clear O2 hb2
  go_wp2_with fail
  go_ret3
  exact ⟨rfl, by go_grown⟩

set_option maxHeartbeats 4000000 in
set_option maxRecDepth 20000 in
theorem refReach_far4 (n : Int) (x y : BitVec 256) (w : World) (h : okI n = true) (hy : ¬ (L y 0 = 0 ∧ L y 1 = 0 ∧ L y 2 = 0 ∧ L y 3 = 0)) (h1 : smallB x = true) (h2 : smallB y = true) (h3 : L x 0 ≤ 16777216) (h4 : 16777216 < L y 0) :
    Calls Try.prog 21 #[.int .i64 n, W x, W y] w fun e w' => e = .returned (.tuple #[.int .i64 0, .int .u64 0, .int .i64 4]) ∧ Below w.heap.size w w' := by
  have HS1 := fun V : World => refSmall_any x V
  have HS2 := fun V : World => refSmall_any y V
  have hq := eqWord0 (L y 0) (L y 1) (L y 2) (L y 3) 0 0 0 0
  have HR := fun V : World => refRight_any n V
  have x0 := L_lo x 0
  have y0 := L_lo y 0
  have hn : 0 ≤ n ∧ n ≤ 16777216 := by simp only [okI, Bool.and_eq_true, decide_eq_true_eq] at h; exact h
  rw [h] at HR
  rw [decide_eq_false hy] at hq
  clear hy
  simp only [h1, if_true, if_false, Bool.false_eq_true] at HS1
  simp only [h2, if_true, if_false, Bool.false_eq_true] at HS2
  go_enter Try.func21, Try.ntmps21
  go_wp2_with fail
  refine (HR _).mono ?_
  rintro e w' ⟨rfl, rfl⟩
  go_wp2_with fail
  refine (HS1 _).mono ?_
  rintro e w1 ⟨rfl, hb1⟩
  have O1 := Own.grow' hb1 (Own.new (Own.new (Own.nil w) (w.heap.size) rfl) (w.heap.size + 1) (by simp))
  try simp only [List.setIfInBounds_toArray, List.set_cons_zero, List.set_cons_succ] at O1
  have bw1 : Below w.heap.size w w1 := Below.trans (by go_grown) (Below.mono hb1 (by first | omega | (simp; done) | (simp; omega)))
  have zw1 := Below.size hb1
  try simp only [World.size_alloc, World.size_drew, World.size_setCell] at zw1
  have c1x0 := Own.cell O1 0 rfl
  have f1x0 := Own.free O1 0 rfl
  have l1x0 := Own.lt O1 0 rfl
  have l1x0d0 := le_up 0 l1x0
  have l1x0d1 := le_up 1 l1x0
  simp only [upN] at l1x0d0 l1x0d1
  have c1x1 := Own.cell O1 1 rfl
  have f1x1 := Own.free O1 1 rfl
  have l1x1 := Own.lt O1 1 rfl
  have l1x1d0 := le_up 0 l1x1
  have l1x1d1 := le_up 1 l1x1
  simp only [upN] at l1x1d0 l1x1d1
  have HO1 := Lib.hid O1
  clear O1 hb1
  go_wp2_with fail
  refine (HS2 _).mono ?_
  rintro e w2 ⟨rfl, hb2⟩
  have O2 := Own.grow' hb2 HO1.out
  try simp only [List.setIfInBounds_toArray, List.set_cons_zero, List.set_cons_succ] at O2
  have bw2 : Below w.heap.size w w2 := Below.trans (by go_grown) (Below.mono hb2 (by first | omega | (simp; done) | (simp; omega)))
  have zw2 := Below.size hb2
  try simp only [World.size_alloc, World.size_drew, World.size_setCell] at zw2
  clear c1x0 f1x0 l1x0 l1x0d0 l1x0d1 c1x1 f1x1 l1x1 l1x1d0 l1x1d1
  have c2x0 := Own.cell O2 0 rfl
  have f2x0 := Own.free O2 0 rfl
  have l2x0 := Own.lt O2 0 rfl
  have l2x0d0 := le_up 0 l2x0
  have l2x0d1 := le_up 1 l2x0
  simp only [upN] at l2x0d0 l2x0d1
  have c2x1 := Own.cell O2 1 rfl
  have f2x1 := Own.free O2 1 rfl
  have l2x1 := Own.lt O2 1 rfl
  have l2x1d0 := le_up 0 l2x1
  have l2x1d1 := le_up 1 l2x1
  simp only [upN] at l2x1d0 l2x1d1
  have HO2 := Lib.hid O2
  clear O2 hb2
  go_wp2_with fail
  go_ret3
  exact ⟨rfl, by go_grown⟩

set_option maxHeartbeats 4000000 in
set_option maxRecDepth 20000 in
theorem refReach_far5 (n : Int) (x y : BitVec 256) (w : World) (h : okI n = true) (hy : ¬ (L y 0 = 0 ∧ L y 1 = 0 ∧ L y 2 = 0 ∧ L y 3 = 0)) (h1 : smallB x = true) (h2 : smallB y = true) (h3 : L x 0 ≤ 16777216) (h4 : L y 0 ≤ 16777216) (h5 : 16777216 < L x 0 + L y 0) :
    Calls Try.prog 21 #[.int .i64 n, W x, W y] w fun e w' => e = .returned (.tuple #[.int .i64 0, .int .u64 0, .int .i64 4]) ∧ Below w.heap.size w w' := by
  have HS1 := fun V : World => refSmall_any x V
  have HS2 := fun V : World => refSmall_any y V
  have hq := eqWord0 (L y 0) (L y 1) (L y 2) (L y 3) 0 0 0 0
  have HR := fun V : World => refRight_any n V
  have x0 := L_lo x 0
  have y0 := L_lo y 0
  have hn : 0 ≤ n ∧ n ≤ 16777216 := by simp only [okI, Bool.and_eq_true, decide_eq_true_eq] at h; exact h
  rw [h] at HR
  rw [decide_eq_false hy] at hq
  clear hy
  simp only [h1, if_true, if_false, Bool.false_eq_true] at HS1
  simp only [h2, if_true, if_false, Bool.false_eq_true] at HS2
  have hw : IntKind.u64.wrap (L x 0 + L y 0) = L x 0 + L y 0 := IntWalk.u64_in _ (by omega)
  go_enter Try.func21, Try.ntmps21
  go_wp2_with fail
  refine (HR _).mono ?_
  rintro e w' ⟨rfl, rfl⟩
  go_wp2_with fail
  refine (HS1 _).mono ?_
  rintro e w1 ⟨rfl, hb1⟩
  have O1 := Own.grow' hb1 (Own.new (Own.new (Own.nil w) (w.heap.size) rfl) (w.heap.size + 1) (by simp))
  try simp only [List.setIfInBounds_toArray, List.set_cons_zero, List.set_cons_succ] at O1
  have bw1 : Below w.heap.size w w1 := Below.trans (by go_grown) (Below.mono hb1 (by first | omega | (simp; done) | (simp; omega)))
  have zw1 := Below.size hb1
  try simp only [World.size_alloc, World.size_drew, World.size_setCell] at zw1
  have c1x0 := Own.cell O1 0 rfl
  have f1x0 := Own.free O1 0 rfl
  have l1x0 := Own.lt O1 0 rfl
  have l1x0d0 := le_up 0 l1x0
  have l1x0d1 := le_up 1 l1x0
  simp only [upN] at l1x0d0 l1x0d1
  have c1x1 := Own.cell O1 1 rfl
  have f1x1 := Own.free O1 1 rfl
  have l1x1 := Own.lt O1 1 rfl
  have l1x1d0 := le_up 0 l1x1
  have l1x1d1 := le_up 1 l1x1
  simp only [upN] at l1x1d0 l1x1d1
  have HO1 := Lib.hid O1
  clear O1 hb1
  go_wp2_with fail
  refine (HS2 _).mono ?_
  rintro e w2 ⟨rfl, hb2⟩
  have O2 := Own.grow' hb2 HO1.out
  try simp only [List.setIfInBounds_toArray, List.set_cons_zero, List.set_cons_succ] at O2
  have bw2 : Below w.heap.size w w2 := Below.trans (by go_grown) (Below.mono hb2 (by first | omega | (simp; done) | (simp; omega)))
  have zw2 := Below.size hb2
  try simp only [World.size_alloc, World.size_drew, World.size_setCell] at zw2
  clear c1x0 f1x0 l1x0 l1x0d0 l1x0d1 c1x1 f1x1 l1x1 l1x1d0 l1x1d1
  have c2x0 := Own.cell O2 0 rfl
  have f2x0 := Own.free O2 0 rfl
  have l2x0 := Own.lt O2 0 rfl
  have l2x0d0 := le_up 0 l2x0
  have l2x0d1 := le_up 1 l2x0
  simp only [upN] at l2x0d0 l2x0d1
  have c2x1 := Own.cell O2 1 rfl
  have f2x1 := Own.free O2 1 rfl
  have l2x1 := Own.lt O2 1 rfl
  have l2x1d0 := le_up 0 l2x1
  have l2x1d1 := le_up 1 l2x1
  simp only [upN] at l2x1d0 l2x1d1
  have HO2 := Lib.hid O2
  clear O2 hb2
  go_wp2_with fail
  go_ret3
  exact ⟨rfl, by go_grown⟩

set_option maxHeartbeats 4000000 in
set_option maxRecDepth 20000 in
theorem refReach_ok (n : Int) (x y : BitVec 256) (w : World) (h : okI n = true) (hy : ¬ (L y 0 = 0 ∧ L y 1 = 0 ∧ L y 2 = 0 ∧ L y 3 = 0)) (h1 : smallB x = true) (h2 : smallB y = true) (h3 : L x 0 ≤ 16777216) (h4 : L y 0 ≤ 16777216) (h5 : L x 0 + L y 0 ≤ 16777216) :
    Calls Try.prog 21 #[.int .i64 n, W x, W y] w fun e w' => e = .returned (.tuple #[.int .i64 (max n (wordsI (L x 0 + L y 0))), .int .u64 (costI (max n (wordsI (L x 0 + L y 0))) - costI n), .int .i64 0]) ∧ Below w.heap.size w w' := by
  have HS1 := fun V : World => refSmall_any x V
  have HS2 := fun V : World => refSmall_any y V
  have hq := eqWord0 (L y 0) (L y 1) (L y 2) (L y 3) 0 0 0 0
  have HR := fun V : World => refRight_any n V
  have x0 := L_lo x 0
  have y0 := L_lo y 0
  have hn : 0 ≤ n ∧ n ≤ 16777216 := by simp only [okI, Bool.and_eq_true, decide_eq_true_eq] at h; exact h
  rw [h] at HR
  rw [decide_eq_false hy] at hq
  clear hy
  simp only [h1, if_true, if_false, Bool.false_eq_true] at HS1
  simp only [h2, if_true, if_false, Bool.false_eq_true] at HS2
  have hw : IntKind.u64.wrap (L x 0 + L y 0) = L x 0 + L y 0 := IntWalk.u64_in _ (by omega)
  have hww := wordsI_le (n := L x 0 + L y 0) (by omega)
  have hw0 := wordsI_nn (n := L x 0 + L y 0) (by omega)
  have hwA : ∀ m : Int, n ≤ m → m ≤ 16777216 → IntKind.u64.wrap (costI m - costI n) = costI m - costI n := fun m h6 h7 => by
    have hb := costI_bd (n := m) (by omega) (by omega)
    have hb2 := costI_bd (n := n) (by omega) (by omega)
    have hmono := costI_mono (a := n) (b := m) (by omega) (by omega)
    exact IntWalk.u64_in _ (by omega)
  go_enter Try.func21, Try.ntmps21
  go_wp2_with fail
  refine (HR _).mono ?_
  rintro e w' ⟨rfl, rfl⟩
  go_wp2_with fail
  refine (HS1 _).mono ?_
  rintro e w1 ⟨rfl, hb1⟩
  have O1 := Own.grow' hb1 (Own.new (Own.new (Own.nil w) (w.heap.size) rfl) (w.heap.size + 1) (by simp))
  try simp only [List.setIfInBounds_toArray, List.set_cons_zero, List.set_cons_succ] at O1
  have bw1 : Below w.heap.size w w1 := Below.trans (by go_grown) (Below.mono hb1 (by first | omega | (simp; done) | (simp; omega)))
  have zw1 := Below.size hb1
  try simp only [World.size_alloc, World.size_drew, World.size_setCell] at zw1
  have c1x0 := Own.cell O1 0 rfl
  have f1x0 := Own.free O1 0 rfl
  have l1x0 := Own.lt O1 0 rfl
  have l1x0d0 := le_up 0 l1x0
  have l1x0d1 := le_up 1 l1x0
  simp only [upN] at l1x0d0 l1x0d1
  have c1x1 := Own.cell O1 1 rfl
  have f1x1 := Own.free O1 1 rfl
  have l1x1 := Own.lt O1 1 rfl
  have l1x1d0 := le_up 0 l1x1
  have l1x1d1 := le_up 1 l1x1
  simp only [upN] at l1x1d0 l1x1d1
  have HO1 := Lib.hid O1
  clear O1 hb1
  go_wp2_with fail
  refine (HS2 _).mono ?_
  rintro e w2 ⟨rfl, hb2⟩
  have O2 := Own.grow' hb2 HO1.out
  try simp only [List.setIfInBounds_toArray, List.set_cons_zero, List.set_cons_succ] at O2
  have bw2 : Below w.heap.size w w2 := Below.trans (by go_grown) (Below.mono hb2 (by first | omega | (simp; done) | (simp; omega)))
  have zw2 := Below.size hb2
  try simp only [World.size_alloc, World.size_drew, World.size_setCell] at zw2
  clear c1x0 f1x0 l1x0 l1x0d0 l1x0d1 c1x1 f1x1 l1x1 l1x1d0 l1x1d1
  have c2x0 := Own.cell O2 0 rfl
  have f2x0 := Own.free O2 0 rfl
  have l2x0 := Own.lt O2 0 rfl
  have l2x0d0 := le_up 0 l2x0
  have l2x0d1 := le_up 1 l2x0
  simp only [upN] at l2x0d0 l2x0d1
  have c2x1 := Own.cell O2 1 rfl
  have f2x1 := Own.free O2 1 rfl
  have l2x1 := Own.lt O2 1 rfl
  have l2x1d0 := le_up 0 l2x1
  have l2x1d1 := le_up 1 l2x1
  simp only [upN] at l2x1d0 l2x1d1
  have HO2 := Lib.hid O2
  clear O2 hb2
  go_wp2_with fail
  refine (refWords_any _ _ (by omega) (by omega)).mono ?_
  rintro e w' ⟨rfl, rfl⟩
  go_wp2_with fail
  all_goals
    refine (refMemory_any _ _ (by omega) (by omega)).mono ?_
    rintro e w' ⟨rfl, rfl⟩
    go_wp2_with fail
    refine (refMemory_any _ _ (by omega) (by omega)).mono ?_
    rintro e w' ⟨rfl, rfl⟩
    go_wp2_with fail
    go_ret3
    refine ⟨?_, by go_grown⟩
    first
      | rw [show max n (wordsI (L x 0 + L y 0)) = n by omega, Int.sub_self]; rfl
      | rw [show max n (wordsI (L x 0 + L y 0)) = wordsI (L x 0 + L y 0) by omega]; refine Eq.trans (b := Ending.returned (.tuple #[.int .i64 (wordsI (L x 0 + L y 0)), .int .u64 (IntKind.u64.wrap (costI (wordsI (L x 0 + L y 0)) - costI n)), .int .i64 0])) rfl ?_; rw [hwA _ (by omega) (by omega)]

theorem refReach_any (n : Int) (x y : BitVec 256) (w : World) :
    Calls Try.prog 21 #[.int .i64 n, W x, W y] w fun e w' => e = .returned (.tuple #[.int .i64 (reachN n x y), .int .u64 (reachC n x y), .int .i64 (reachE n x y)]) ∧ Below w.heap.size w w' := by
  unfold reachN reachC reachE
  rcases h : okI n with _ | _
  · exact refReach_bad n x y w h
  by_cases hy : L y 0 = 0 ∧ L y 1 = 0 ∧ L y 2 = 0 ∧ L y 3 = 0
  · have hy' := (nought_iff y).1 hy
    simp only [if_true, if_pos hy']
    exact refReach_nought n x y w h hy
  have hy' : ¬ y = 0 := fun e => hy ((nought_iff y).2 e)
  have hi := endOk_iff (x := x) hy'
  simp only [if_true, if_neg hy']
  by_cases he : endOk x y = true
  · obtain ⟨h1, h2, h3, h4, h5⟩ := hi.1 he
    have hs := end_sum h1 h2 h5
    rw [he, hs]
    exact refReach_ok n x y w h hy h1 h2 h3 h4 h5
  · have he' : endOk x y = false := by simpa using he
    rw [he']
    rcases h1 : smallB x with _ | _
    · exact refReach_far1 n x y w h hy h1
    rcases h2 : smallB y with _ | _
    · exact refReach_far2 n x y w h hy h1 h2
    by_cases h3 : L x 0 ≤ 16777216
    · by_cases h4 : L y 0 ≤ 16777216
      · by_cases h5 : L x 0 + L y 0 ≤ 16777216
        · exact absurd (hi.2 ⟨h1, h2, h3, h4, h5⟩) he
        · exact refReach_far5 n x y w h hy h1 h2 h3 h4 (by omega)
      · exact refReach_far4 n x y w h hy h1 h2 h3 (by omega)
    · exact refReach_far3 n x y w h hy h1 h2 (by omega)
end Go.Proofs.Ytclgoamhbakdlaa
