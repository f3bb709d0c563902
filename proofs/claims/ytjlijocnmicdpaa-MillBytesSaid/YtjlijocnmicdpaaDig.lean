/- Digits: sums and products with carries. No program. No condition. -/
import Derived.Test.YtjlijocnmicdpaaKit
set_option linter.unusedVariables false
set_option linter.unusedSimpArgs false
namespace Go.Proofs.Ytjlijocnmicdpaa
open Go.RowKit

theorem mod_succ (n B k : Nat) : n % B ^ (k + 1) = n % B ^ k + B ^ k * (n / B ^ k % B) := by
  rw [Nat.pow_succ, Nat.mod_mul]
def cAdd (B a b k : Nat) : Nat := (a % B ^ k + b % B ^ k) / B ^ k
theorem cAdd_zero (B a b : Nat) : cAdd B a b 0 = 0 := by simp [cAdd, Nat.mod_one]
theorem cAdd_sum (B a b k : Nat) (hB : 0 < B) : (a % B ^ (k + 1) + b % B ^ (k + 1)) / B ^ k = cAdd B a b k + a / B ^ k % B + b / B ^ k % B := by
  have hP : 0 < B ^ k := Nat.pow_pos hB
  have e : a % B ^ (k + 1) + b % B ^ (k + 1) = (a % B ^ k + b % B ^ k) + B ^ k * (a / B ^ k % B + b / B ^ k % B) := by
    rw [mod_succ a, mod_succ b, Nat.mul_add]; omega
  rw [e, Nat.add_mul_div_left _ _ hP, cAdd]; omega
theorem cAdd_succ (B a b k : Nat) (hB : 0 < B) : (cAdd B a b k + a / B ^ k % B + b / B ^ k % B) / B = cAdd B a b (k + 1) := by
  rw [← cAdd_sum B a b k hB, Nat.div_div_eq_div_mul, ← Nat.pow_succ, cAdd]
theorem cAdd_dig (B a b k : Nat) (hB : 0 < B) : (cAdd B a b k + a / B ^ k % B + b / B ^ k % B) % B = (a + b) / B ^ k % B := by
  rw [← cAdd_sum B a b k hB]
  have h1 : (a + b) / B ^ k % B = (a + b) % B ^ (k + 1) / B ^ k := by
    rw [Nat.pow_succ, Nat.mod_mul_right_div_self]
  rw [h1, Nat.add_mod, Nat.pow_succ, Nat.mod_mul_right_div_self]
/-- The carry of a row of a product. -/
def cMul (B z x y i k : Nat) : Nat := (z % B ^ (i + k) + x * (y % B ^ k) * B ^ i) / B ^ (i + k)
theorem cMul_zero (B z x y i : Nat) (hB : 0 < B) : cMul B z x y i 0 = 0 := by
  simp only [cMul, Nat.pow_zero, Nat.mod_one, Nat.mul_zero, Nat.zero_mul, Nat.add_zero]
  exact Nat.div_eq_of_lt (Nat.mod_lt _ (Nat.pow_pos hB))
theorem cMul_sum (B z x y i k : Nat) (hB : 0 < B) : (z % B ^ (i + k + 1) + x * (y % B ^ (k + 1)) * B ^ i) / B ^ (i + k) = cMul B z x y i k + z / B ^ (i + k) % B + x * (y / B ^ k % B) := by
  have hP : 0 < B ^ (i + k) := Nat.pow_pos hB
  have e : z % B ^ (i + k + 1) + x * (y % B ^ (k + 1)) * B ^ i = (z % B ^ (i + k) + x * (y % B ^ k) * B ^ i) + B ^ (i + k) * (z / B ^ (i + k) % B + x * (y / B ^ k % B)) := by
    rw [mod_succ z, mod_succ y, Nat.mul_add, Nat.mul_add, Nat.add_mul]
    have : x * (B ^ k * (y / B ^ k % B)) * B ^ i = B ^ (i + k) * (x * (y / B ^ k % B)) := by
      rw [Nat.pow_add]; ac_rfl
    omega
  rw [e, Nat.add_mul_div_left _ _ hP, cMul]; omega
theorem cMul_succ (B z x y i k : Nat) (hB : 0 < B) : (cMul B z x y i k + z / B ^ (i + k) % B + x * (y / B ^ k % B)) / B = cMul B z x y i (k + 1) := by
  rw [← cMul_sum B z x y i k hB, Nat.div_div_eq_div_mul, ← Nat.pow_succ, cMul]; rfl
theorem cMul_dig (B z x y i k : Nat) (hB : 0 < B) : (cMul B z x y i k + z / B ^ (i + k) % B + x * (y / B ^ k % B)) % B = (z + x * y * B ^ i) / B ^ (i + k) % B := by
  rw [← cMul_sum B z x y i k hB]
  have h1 : ∀ n, n / B ^ (i + k) % B = n % B ^ (i + k + 1) / B ^ (i + k) := fun n => by
    rw [Nat.pow_succ, Nat.mod_mul_right_div_self]
  rw [h1, h1 (z + _)]
  congr 1
  have e : x * y * B ^ i % B ^ (i + k + 1) = x * (y % B ^ (k + 1)) * B ^ i % B ^ (i + k + 1) := by
    have hy : x * y * B ^ i = x * (y % B ^ (k + 1)) * B ^ i + B ^ (i + k + 1) * (x * (y / B ^ (k + 1))) := by
      conv => lhs; rw [← Nat.mod_add_div y (B ^ (k + 1))]
      rw [Nat.mul_add, Nat.add_mul, Nat.add_assoc i k 1, Nat.pow_add B i (k + 1)]
      congr 1; ac_rfl
    rw [hy, Nat.add_mul_mod_self_left]
  rw [Nat.add_mod, Nat.mod_mod, Nat.add_mod z, e]
end Go.Proofs.Ytjlijocnmicdpaa
