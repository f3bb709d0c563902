/- A pair's sum as a wide number. No condition. -/
import Derived.Test.YtjmaigienigpnaaSpC1
set_option linter.unusedVariables false
set_option linter.unusedSimpArgs false
namespace Go.Proofs.Ytjmaigienigpnaa
open Go.RowKit

def sumRow (x y : BitVec 256) : Nat → Array Value
  | 0 => #[.int .u64 0, .int .u64 0, .int .u64 0, .int .u64 0, .int .u64 0, .int .u64 0, .int .u64 0, .int .u64 0]
  | 1 => #[.int .u64 (aLo (L x 0) (L y 0) 0), .int .u64 0, .int .u64 0, .int .u64 0, .int .u64 0, .int .u64 0, .int .u64 0, .int .u64 0]
  | 2 => #[.int .u64 (aLo (L x 0) (L y 0) 0), .int .u64 (aLo (L x 1) (L y 1) (c1 x y)), .int .u64 0, .int .u64 0, .int .u64 0, .int .u64 0, .int .u64 0, .int .u64 0]
  | 3 => #[.int .u64 (aLo (L x 0) (L y 0) 0), .int .u64 (aLo (L x 1) (L y 1) (c1 x y)), .int .u64 (aLo (L x 2) (L y 2) (c2 x y)), .int .u64 0, .int .u64 0, .int .u64 0, .int .u64 0, .int .u64 0]
  | _ => #[.int .u64 (aLo (L x 0) (L y 0) 0), .int .u64 (aLo (L x 1) (L y 1) (c1 x y)), .int .u64 (aLo (L x 2) (L y 2) (c2 x y)), .int .u64 (aLo (L x 3) (L y 3) (c3 x y)), .int .u64 0, .int .u64 0, .int .u64 0, .int .u64 0]
theorem two_top {a b w q : Nat} (ha : a < 2 ^ w) (hb : b < 2 ^ w) (hq : w + 1 ≤ q) : a + b < 2 ^ q := by
  have h := Nat.pow_le_pow_right (n := 2) (by decide) hq
  rw [Nat.pow_succ] at h
  omega
theorem sum_parts (x y : BitVec 256) : (#[.int .u64 (aLo (L x 0) (L y 0) 0), .int .u64 (aLo (L x 1) (L y 1) (c1 x y)), .int .u64 (aLo (L x 2) (L y 2) (c2 x y)), .int .u64 (aLo (L x 3) (L y 3) (c3 x y)), .int .u64 (addC x y 4), .int .u64 0, .int .u64 0, .int .u64 0] : Array Value) = wd8 (x.toNat + y.toNat) := by
  obtain ⟨q0, q1, q2, q3⟩ := add_parts x y
  have hx := x.isLt
  have hy := y.isLt
  have e : ∀ q, q < 4 → L (x + y) q = L8 (x.toNat + y.toNat) q := fun q hq => by
    rw [L_eq, L8_eq, BitVec.toNat_add]
    congr 1
    apply Nat.eq_of_testBit_eq
    intro j
    simp only [Nat.testBit_mod_two_pow, Nat.testBit_div_two_pow]
    by_cases hj : j < 64
    · rw [decide_eq_true hj, decide_eq_true (show j + 64 * q < 256 by omega)]; rfl
    · simp [hj]
  have hc : addC x y 4 = L8 (x.toNat + y.toNat) 4 := by
    have s0 := aSplit (L x 0) (L y 0) 0
    have s1 := aSplit (L x 1) (L y 1) (c1 x y)
    have s2 := aSplit (L x 2) (L y 2) (c2 x y)
    have s3 := aSplit (L x 3) (L y 3) (c3 x y)
    have hx1 := L_sum x
    have hy1 := L_sum y
    rw [L8_eq]
    show aHi (L x 3) (L y 3) (c3 x y) = _
    have hh := aHi_hi (L_hi x 3) (L_hi y 3) (c3_bd x y).2
    have h0 := aHi_lo (L_lo x 3) (L_lo y 3) (c3_bd x y).1
    rw [show aHi (L x 0) (L y 0) 0 = c1 x y from rfl] at s0
    rw [show aHi (L x 1) (L y 1) (c1 x y) = c2 x y from rfl] at s1
    rw [show aHi (L x 2) (L y 2) (c2 x y) = c3 x y from rfl] at s2
    simp only [Nat.reducePow, Nat.reduceMul] at *
    omega
  have z : ∀ q, 5 ≤ q → L8 (x.toNat + y.toNat) q = 0 := fun q hq => by
    rw [L8_eq, Nat.div_eq_of_lt (two_top hx hy (show 256 + 1 ≤ 64 * q by omega))]
    rfl
  unfold wd8
  rw [q0, q1, q2, q3, e 0 (by omega), e 1 (by omega), e 2 (by omega), e 3 (by omega), hc, z 5 (by omega), z 6 (by omega), z 7 (by omega)]
set_option maxHeartbeats 4000000 in
set_option maxRecDepth 20000 in
theorem sumP_any (x y : BitVec 256) (w : World) :
    Calls Try.prog 31 #[.agg #[.int .u64 (L x 0), .int .u64 (L x 1), .int .u64 (L x 2), .int .u64 (L x 3), .int .u64 (L y 0), .int .u64 (L y 1), .int .u64 (L y 2), .int .u64 (L y 3)]] w fun e w' => e = .returned (.agg (wd8 (x.toNat + y.toNat))) ∧ Below w.heap.size w w' := by
  have hadd := run_add
  have hsd := Proofs.Ytjmaigienigpnaa.setCell_drewN
  have x0 := L_lo x 0; have x1 := L_lo x 1; have x2 := L_lo x 2; have x3 := L_lo x 3
  have y0 := L_lo y 0; have y1 := L_lo y 1; have y2 := L_lo y 2; have y3 := L_lo y 3
  have k1 := (c1_bd x y).1; have k1' := (c1_bd x y).2
  have k2 := (c2_bd x y).1; have k2' := (c2_bd x y).2
  have k3 := (c3_bd x y).1; have k3' := (c3_bd x y).2
  rw [← sum_parts]
  obtain ⟨c4, hc4⟩ : ∃ c, c = addC x y 4 := ⟨_, rfl⟩
  rw [← hc4]
  go_enter Try.func31, Try.ntmps31
  go_wp2_with fail
  go_loopw [3, 5] (fun c i wr => ∃ k nd : Nat, k ≤ 4 ∧ i = .int .i64 k ∧ c = .int .u64 (addC x y k) ∧ wr = ((w.alloc (.cells #[.int .u64 (L x 0), .int .u64 (L x 1), .int .u64 (L x 2), .int .u64 (L x 3), .int .u64 (L y 0), .int .u64 (L y 1), .int .u64 (L y 2), .int .u64 (L y 3)] 43)).alloc (.cells (sumRow x y k) 56)).drewN nd)
    (fun _ i _ => 4 - (intOf i).toNat)
  case atStart => exact ⟨0, 0, by omega, rfl, rfl, rfl⟩
  case round =>
    obtain ⟨k, nd, hk, rfl, rfl, rfl⟩ := hrel
    rcases (by omega : k = 4 ∨ k = 0 ∨ k = 1 ∨ k = 2 ∨ k = 3) with rfl | rfl | rfl | rfl | rfl
    · simp only [sumRow]
      rw [← hc4]
      clear hc4
      go_wp2_with fail
      go_returns
      refine ⟨rfl, below_drewN ?_ _⟩
      go_grown
    all_goals
      simp only [sumRow, addC]
      go_wp2_with fail
      go_region_with fail
      all_goals go_wp2_with fail
      all_goals go_roundw
    all_goals first | exact ⟨1, nd + 1, by omega, rfl, rfl, rfl⟩ | exact ⟨2, nd + 1, by omega, rfl, rfl, rfl⟩ | exact ⟨3, nd + 1, by omega, rfl, rfl, rfl⟩ | exact ⟨4, nd + 1, by omega, rfl, rfl, rfl⟩ | (simp [intOf]; done)
end Go.Proofs.Ytjmaigienigpnaa
