/- Products by numbers of 64 bits, row by row: plain laws. No program. No condition. -/
import Derived.Test.YtjmaigienigpnaaWords
import Derived.Test.YtjmaigienigpnaaDig
set_option linter.unusedVariables false
set_option linter.unusedSimpArgs false
namespace Go.Proofs.Ytjmaigienigpnaa
open Go.RowKit

abbrev B64 : Nat := 18446744073709551616
def dg (n q : Nat) : Nat := n / B64 ^ q % B64
theorem dg_lt (n q : Nat) : dg n q < 18446744073709551616 := Nat.mod_lt _ (by decide)
theorem pow_b64 (q : Nat) : 2 ^ (64 * q) = B64 ^ q := by rw [Nat.pow_mul]
theorem L_dg (x : BitVec 256) (q : Nat) : L x q = ((dg x.toNat q : Nat) : Int) := by
  rw [L_eq, pow_b64]; rfl
theorem dg_low (Z t i j : Nat) (h : j < i) : dg (Z + t * B64 ^ i) j = dg Z j := by
  unfold dg
  have e : t * B64 ^ i = B64 ^ j * (B64 * (t * B64 ^ (i - j - 1))) := by
    rw [show i = j + 1 + (i - j - 1) by omega, Nat.pow_add, Nat.pow_add, show j + 1 + (i - j - 1) - j - 1 = i - j - 1 by omega]
    simp only [Nat.pow_one]
    ac_rfl
  rw [e, Nat.add_mul_div_left _ _ (Nat.pow_pos (by decide)), Nat.add_mul_mod_self_left]
theorem cMul_top (B Z x Y i k : Nat) (hB : 0 < B) (hx : x < B) : cMul B Z x Y i k < B := by
  unfold cMul
  have hP : 0 < B ^ (i + k) := Nat.pow_pos hB
  have h1 := Nat.mod_lt Z hP
  have h2 : Y % B ^ k ≤ B ^ k - 1 := by have := Nat.mod_lt Y (show 0 < B ^ k from Nat.pow_pos hB); omega
  have h3 : x * (Y % B ^ k) * B ^ i ≤ (B - 1) * ((B ^ k - 1) * B ^ i) := by
    rw [Nat.mul_assoc]
    exact Nat.mul_le_mul (by omega) (Nat.mul_le_mul_right _ h2)
  have h4 : (B ^ k - 1) * B ^ i ≤ B ^ (i + k) - 1 := by
    have h5 : 0 < B ^ i := Nat.pow_pos hB
    rw [Nat.sub_mul, Nat.one_mul, Nat.pow_add, Nat.mul_comm (B ^ k)]
    omega
  have h6 : (B - 1) * ((B ^ k - 1) * B ^ i) ≤ (B - 1) * (B ^ (i + k) - 1) := Nat.mul_le_mul_left _ h4
  refine Nat.div_lt_of_lt_mul ?_
  have h7 : (B - 1) * (B ^ (i + k) - 1) + B ^ (i + k) ≤ B ^ (i + k) * B := by
    generalize B ^ (i + k) = P at *
    obtain ⟨b, rfl⟩ : ∃ b, B = b + 1 := ⟨B - 1, by omega⟩
    obtain ⟨p, rfl⟩ : ∃ p, P = p + 1 := ⟨P - 1, by omega⟩
    simp only [Nat.add_sub_cancel]
    rw [Nat.mul_add, Nat.mul_one, Nat.add_mul, Nat.one_mul, Nat.mul_comm p b]
    omega
  omega
/-- What so many rows come to. -/
def rows64 (X Y i : Nat) : Nat := X % B64 ^ i * Y
theorem rows64_zero (X Y : Nat) : rows64 X Y 0 = 0 := by unfold rows64; rw [Nat.pow_zero, Nat.mod_one, Nat.zero_mul]
theorem rows64_succ (X Y i : Nat) : rows64 X Y (i + 1) = rows64 X Y i + dg X i * Y * B64 ^ i := by
  unfold rows64 dg
  rw [mod_succ, Nat.add_mul]
  congr 1
  ac_rfl
theorem rows64_lt {X Y i : Nat} (hY : Y < B64 ^ 4) : rows64 X Y i < B64 ^ (i + 4) := by
  unfold rows64
  rw [Nat.pow_add]
  have h1 := Nat.mod_lt X (show 0 < B64 ^ i from Nat.pow_pos (by decide))
  exact Nat.mul_lt_mul_of_lt_of_le h1 (Nat.le_of_lt hY) (Nat.pow_pos (by decide))
theorem rows64_end (x y : BitVec 256) : rows64 x.toNat y.toNat 4 = x.toNat * y.toNat := by
  unfold rows64
  rw [Nat.mod_eq_of_lt (by rw [← pow_b64]; exact x.isLt)]
theorem dg_big {n a q : Nat} (h : n < B64 ^ a) (hq : a ≤ q) : dg n q = 0 := by
  unfold dg
  rw [Nat.div_eq_of_lt (Nat.lt_of_lt_of_le h (Nat.pow_le_pow_right (by decide) hq))]
  rfl
/-- One step: what is added, and what is carried. -/
structure MStepP (p z c : Nat) : Prop where
  lo : ((p % 18446744073709551616 + z) % 18446744073709551616 + c) % 18446744073709551616 = (c + z + p) % 18446744073709551616
  hi : p / 18446744073709551616 + (p % 18446744073709551616 + z) / 18446744073709551616 + ((p % 18446744073709551616 + z) % 18446744073709551616 + c) / 18446744073709551616 = (c + z + p) / 18446744073709551616
  h1 : p / 18446744073709551616 + (p % 18446744073709551616 + z) / 18446744073709551616 < 18446744073709551616
  h2 : (c + z + p) / 18446744073709551616 < 18446744073709551616
abbrev MStep (a b z c : Nat) : Prop := MStepP (a * b) z c
theorem mstepP {p z c : Nat} (h : p ≤ 340282366920938463426481119284349108225) (hz : z < 18446744073709551616) (hc : c < 18446744073709551616) : MStepP p z c := by
  refine ⟨?_, ?_, ?_, ?_⟩ <;> omega
theorem mstep {a b z c : Nat} (ha : a < 18446744073709551616) (hb : b < 18446744073709551616) (hz : z < 18446744073709551616) (hc : c < 18446744073709551616) : MStep a b z c :=
  mstepP (Nat.mul_le_mul (show a ≤ 18446744073709551615 by omega) (show b ≤ 18446744073709551615 by omega)) hz hc
end Go.Proofs.Ytjmaigienigpnaa
