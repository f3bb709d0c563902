/- Numbers of 64 bits; words. No program of its own. No condition. -/
import Derived.Test.YtjmplababaejaaaKit
set_option linter.unusedVariables false
set_option linter.unusedSimpArgs false
namespace Go.Proofs.Ytjmplababaejaaa
open Go.RowKit
/-- A number of 64 bits. -/
@[irreducible] def N (a : BitVec 64) : Int := (a.toNat : Int)
theorem N_eq (a : BitVec 64) : N a = (a.toNat : Int) := by unfold N; rfl
theorem N_lo (a : BitVec 64) : 0 ≤ N a := by rw [N_eq]; omega
theorem N_lt (a : BitVec 64) : N a < 18446744073709551616 := by rw [N_eq]; have := a.isLt; simp only [Nat.reducePow] at this; omega
theorem N_hi (a : BitVec 64) : N a ≤ 18446744073709551615 := by have := N_lt a; omega
theorem N_inj {a b : BitVec 64} (h : N a = N b) : a = b := by rw [N_eq, N_eq] at h; exact BitVec.eq_of_toNat_eq (by omega)
theorem N_dec (a b : BitVec 64) : decide (N a = N b) = decide (a = b) := by
  rw [Bool.eq_iff_iff]; simp only [decide_eq_true_eq]; exact ⟨N_inj, fun h => by rw [h]⟩
theorem N_of (x : Int) (h0 : 0 ≤ x) (h1 : x ≤ 18446744073709551615) : N (BitVec.ofNat 64 x.toNat) = x := by
  rw [N_eq, BitVec.toNat_ofNat]; simp only [Nat.reducePow]; omega
theorem N_mod (x : Int) : IntKind.u64.wrap x = x % 18446744073709551616 := IntKind.wrap_u64 x
theorem N_wrap (n : Nat) : IntKind.u64.wrap (n : Int) = N (BitVec.ofNat 64 n) := by
  rw [N_mod, N_eq, BitVec.toNat_ofNat]; simp only [Nat.reducePow]; omega
theorem N_add (a b : BitVec 64) : IntKind.u64.wrap (N a + N b) = N (a + b) := by
  rw [N_eq a, N_eq b, ← Int.natCast_add, N_wrap]; congr 1
theorem N_sub (a b : BitVec 64) : IntKind.u64.wrap (N a - N b) = N (a - b) := by
  rw [N_mod, N_eq, N_eq, N_eq, BitVec.toNat_sub]; have := a.isLt; have := b.isLt; simp only [Nat.reducePow] at *; omega
theorem N_mul (a b : BitVec 64) : IntKind.u64.wrap (N a * N b) = N (a * b) := by
  rw [N_eq a, N_eq b, ← Int.natCast_mul, N_wrap]; congr 1
theorem N_shl (a : BitVec 64) (n : Nat) : IntKind.u64.wrap (N a * 2 ^ n) = N (a <<< n) := by
  have : N a * 2 ^ n = ((a.toNat * 2 ^ n : Nat) : Int) := by rw [N_eq, Int.natCast_mul, Int.natCast_pow]; rfl
  rw [this, N_wrap]; congr 1
  exact BitVec.eq_of_toNat_eq (by rw [BitVec.toNat_shiftLeft, BitVec.toNat_ofNat, Nat.shiftLeft_eq])
theorem N_shr (a : BitVec 64) (n : Nat) : N a / 2 ^ n = N (a >>> n) := by
  rw [N_eq, N_eq, BitVec.toNat_ushiftRight, Nat.shiftRight_eq_div_pow, Int.natCast_ediv, Int.natCast_pow]; rfl
theorem ofInt_N (a : BitVec 64) : BitVec.ofInt 64 (N a) = a := by
  rw [N_eq, BitVec.ofInt_natCast]; exact BitVec.eq_of_toNat_eq (by rw [BitVec.toNat_ofNat]; exact Nat.mod_eq_of_lt a.isLt)
theorem N_or (a b : BitVec 64) : bits .or .u64 (N a) (N b) = N (a ||| b) := by
  show IntKind.u64.wrap (((BitVec.ofInt 64 (N a)) ||| (BitVec.ofInt 64 (N b))).toNat : Int) = _
  rw [ofInt_N, ofInt_N, N_wrap]; congr 1; exact BitVec.eq_of_toNat_eq (by rw [BitVec.toNat_ofNat]; exact Nat.mod_eq_of_lt (a ||| b).isLt)
theorem N_and (a b : BitVec 64) : bits .and .u64 (N a) (N b) = N (a &&& b) := by
  show IntKind.u64.wrap (((BitVec.ofInt 64 (N a)) &&& (BitVec.ofInt 64 (N b))).toNat : Int) = _
  rw [ofInt_N, ofInt_N, N_wrap]; congr 1; exact BitVec.eq_of_toNat_eq (by rw [BitVec.toNat_ofNat]; exact Nat.mod_eq_of_lt (a &&& b).isLt)
theorem N_xor (a b : BitVec 64) : bits .xor .u64 (N a) (N b) = N (a ^^^ b) := by
  show IntKind.u64.wrap (((BitVec.ofInt 64 (N a)) ^^^ (BitVec.ofInt 64 (N b))).toNat : Int) = _
  rw [ofInt_N, ofInt_N, N_wrap]; congr 1; exact BitVec.eq_of_toNat_eq (by rw [BitVec.toNat_ofNat]; exact Nat.mod_eq_of_lt (a ^^^ b).isLt)
theorem N_andNot (a b : BitVec 64) : bits .andNot .u64 (N a) (N b) = N (a &&& ~~~b) := by
  show IntKind.u64.wrap (((BitVec.ofInt 64 (N a)) &&& ~~~(BitVec.ofInt 64 (N b))).toNat : Int) = _
  rw [ofInt_N, ofInt_N, N_wrap]; congr 1; exact BitVec.eq_of_toNat_eq (by rw [BitVec.toNat_ofNat]; exact Nat.mod_eq_of_lt (a &&& ~~~b).isLt)
theorem N_not (a : BitVec 64) : bits .xor .u64 (-1) (N a) = N (~~~a) := by
  show IntKind.u64.wrap (((BitVec.ofInt 64 (-1)) ^^^ (BitVec.ofInt 64 (N a))).toNat : Int) = _
  rw [ofInt_N, show BitVec.ofInt 64 (-1) = BitVec.allOnes 64 by decide, BitVec.allOnes_xor, N_wrap]; congr 1; exact BitVec.eq_of_toNat_eq (by rw [BitVec.toNat_ofNat]; exact Nat.mod_eq_of_lt (~~~a).isLt)
theorem N_not' (a : BitVec 64) : bits .xor .u64 18446744073709551615 (N a) = N (~~~a) := by
  show IntKind.u64.wrap (((BitVec.ofInt 64 18446744073709551615) ^^^ (BitVec.ofInt 64 (N a))).toNat : Int) = _
  rw [ofInt_N, show BitVec.ofInt 64 18446744073709551615 = BitVec.allOnes 64 by decide, BitVec.allOnes_xor, N_wrap]; congr 1; exact BitVec.eq_of_toNat_eq (by rw [BitVec.toNat_ofNat]; exact Nat.mod_eq_of_lt (~~~a).isLt)
/-- A word's number. -/
def lim (x : BitVec 256) (q : Nat) : BitVec 64 := x.extractLsb' (64 * q) 64
theorem lim_bit (x : BitVec 256) (q j : Nat) : (lim x q).getLsbD j = (decide (j < 64) && x.getLsbD (64 * q + j)) := by
  unfold lim; rw [BitVec.getLsbD_extractLsb']
/-- The bits for which it is so, of the first so many. -/
def setB (f : Nat → Bool) : Nat → BitVec 256
  | 0 => 0
  | k + 1 => if f k then setB f k ||| BitVec.twoPow 256 k else setB f k
theorem setB_bit (f : Nat → Bool) (k j : Nat) : (setB f k).getLsbD j = (decide (j < k) && (decide (j < 256) && f j)) := by
  induction k with
  | zero => simp [setB]
  | succ k ih =>
    unfold setB
    split
    · rename_i h
      rw [BitVec.getLsbD_or, ih, BitVec.getLsbD_twoPow]
      by_cases e : j = k
      · subst e; simp [h]
      · have : ¬ k = j := fun q => e q.symm
        by_cases h2 : j < k
        · simp [h2, this, Nat.lt_succ_of_lt h2]
        · have : ¬ j < k + 1 := by omega
          simp [h2, this, show ¬ k = j by omega]
    · rename_i h
      rw [ih]
      by_cases e : j = k
      · subst e; simp [h]
      · by_cases h2 : j < k
        · simp [h2, Nat.lt_succ_of_lt h2]
        · simp [h2, show ¬ j < k + 1 by omega]
theorem setB_full {f : Nat → Bool} {y : BitVec 256} (h : ∀ i, i < 256 → y.getLsbD i = f i) : setB f 256 = y := by
  apply BitVec.eq_of_getLsbD_eq
  intro i hi
  rw [setB_bit, h i hi]; simp [hi]
theorem lim_or_pow (x : BitVec 256) (i q : Nat) (hi : i < 256) : lim (x ||| BitVec.twoPow 256 i) q = if q = i / 64 then lim x q ||| (1#64 <<< (i % 64)) else lim x q := by
  apply BitVec.eq_of_getLsbD_eq
  intro j hj
  have e1 : (BitVec.twoPow 256 i).getLsbD (64 * q + j) = decide (64 * q + j = i) := by
    rw [BitVec.getLsbD_twoPow]; simp [hi, eq_comm]
  rw [lim_bit, BitVec.getLsbD_or, e1]
  split
  · rename_i h
    have : (1#64 <<< (i % 64)).getLsbD j = decide (j = i % 64) := by
      rw [BitVec.getLsbD_shiftLeft]; simp only [BitVec.getLsbD_one]
      by_cases e : j = i % 64
      · subst e; simp; omega
      · by_cases h2 : j < i % 64
        · simp [h2, e]
        · simp [hj, h2, e]; omega
    rw [BitVec.getLsbD_or, lim_bit, this]
    have : decide (64 * q + j = i) = decide (j = i % 64) := by rw [Bool.eq_iff_iff]; simp only [decide_eq_true_eq]; omega
    rw [this]; simp [hj]
  · rename_i h
    have : decide (64 * q + j = i) = false := by rw [decide_eq_false_iff_not]; omega
    rw [this, lim_bit]; simp
end Go.Proofs.Ytjmplababaejaaa
