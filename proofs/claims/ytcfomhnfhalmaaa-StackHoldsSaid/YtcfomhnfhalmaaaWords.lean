/- Plain facts on words of 256 bits and their four parts of 64 bits; no program. No condition. -/
import Derived.WalkKit
set_option linter.unusedVariables false
set_option linter.unusedSimpArgs false
namespace Go.Proofs.Ytcfomhnfhalmaaa
open Go.RowKit

/-- A part of a word. -/
@[irreducible] def L (x : BitVec 256) (i : Nat) : Int := ((x.toNat / 2 ^ (64 * i) % 2 ^ 64 : Nat) : Int)
abbrev W (x : BitVec 256) : Value := .agg #[.int .u64 (L x 0), .int .u64 (L x 1), .int .u64 (L x 2), .int .u64 (L x 3)]

theorem L_eq (x : BitVec 256) (i : Nat) : L x i = ((x.toNat / 2 ^ (64 * i) % 2 ^ 64 : Nat) : Int) := by unfold L; rfl
theorem L_lo (x : BitVec 256) (i : Nat) : 0 ≤ L x i := by rw [L_eq]; omega
theorem L_hi (x : BitVec 256) (i : Nat) : L x i < 18446744073709551616 := by rw [L_eq]; omega
theorem L_hi' (x : BitVec 256) (i : Nat) : L x i ≤ 18446744073709551615 := by have := L_hi x i; omega

theorem L0 (x : BitVec 256) : L x 0 = ((x.toNat % 18446744073709551616 : Nat) : Int) := by rw [L_eq]; simp
theorem L1 (x : BitVec 256) : L x 1 = ((x.toNat / 18446744073709551616 % 18446744073709551616 : Nat) : Int) := by rw [L_eq]
theorem L2 (x : BitVec 256) : L x 2 = ((x.toNat / 340282366920938463463374607431768211456 % 18446744073709551616 : Nat) : Int) := by rw [L_eq]
theorem L3 (x : BitVec 256) : L x 3 = ((x.toNat / 6277101735386680763835789423207666416102355444464034512896 : Nat) : Int) := by
  rw [L_eq]; have := x.isLt; simp only [Nat.reduceMul, Nat.reducePow] at *; omega
theorem L_sum (x : BitVec 256) : (x.toNat : Int) = L x 0 + L x 1 * 18446744073709551616 + L x 2 * 340282366920938463463374607431768211456 + L x 3 * 6277101735386680763835789423207666416102355444464034512896 := by
  rw [L0, L1, L2, L3]; omega

/-- The word of four parts. -/
def wOf (a b c d : Int) : BitVec 256 := BitVec.ofNat 256 (a + b * 18446744073709551616 + c * 340282366920938463463374607431768211456 + d * 6277101735386680763835789423207666416102355444464034512896).toNat

theorem wOf_toNat {a b c d : Int} (ha : 0 ≤ a ∧ a ≤ 18446744073709551615) (hb : 0 ≤ b ∧ b ≤ 18446744073709551615) (hc : 0 ≤ c ∧ c ≤ 18446744073709551615) (hd : 0 ≤ d ∧ d ≤ 18446744073709551615) :
    ((wOf a b c d).toNat : Int) = a + b * 18446744073709551616 + c * 340282366920938463463374607431768211456 + d * 6277101735386680763835789423207666416102355444464034512896 := by
  unfold wOf
  rw [BitVec.toNat_ofNat]
  simp only [Nat.reducePow]
  omega

theorem wOf_parts {a b c d : Int} (ha : 0 ≤ a ∧ a ≤ 18446744073709551615) (hb : 0 ≤ b ∧ b ≤ 18446744073709551615) (hc : 0 ≤ c ∧ c ≤ 18446744073709551615) (hd : 0 ≤ d ∧ d ≤ 18446744073709551615) :
    L (wOf a b c d) 0 = a ∧ L (wOf a b c d) 1 = b ∧ L (wOf a b c d) 2 = c ∧ L (wOf a b c d) 3 = d := by
  have h := wOf_toNat ha hb hc hd
  rw [L0, L1, L2, L3]
  refine ⟨?_, ?_, ?_, ?_⟩ <;> omega

theorem L_ext {x y : BitVec 256} (h0 : L x 0 = L y 0) (h1 : L x 1 = L y 1) (h2 : L x 2 = L y 2) (h3 : L x 3 = L y 3) : x = y := by
  apply BitVec.eq_of_toNat_eq
  have hx := L_sum x
  have hy := L_sum y
  rw [h0, h1, h2, h3] at hx
  omega

theorem L_eq_iff (x y : BitVec 256) : (L x 0 == L y 0 && (L x 1 == L y 1 && (L x 2 == L y 2 && L x 3 == L y 3))) = decide (x = y) := by
  rw [Bool.eq_iff_iff]
  simp only [Bool.and_eq_true, beq_iff_eq, decide_eq_true_eq]
  constructor
  · rintro ⟨h0, h1, h2, h3⟩; exact L_ext h0 h1 h2 h3
  · rintro rfl; exact ⟨rfl, rfl, rfl, rfl⟩

/-- Four parts are a word's. -/
structure IsW (x : BitVec 256) (a b c d : Int) : Prop where
  p0 : a = L x 0
  p1 : b = L x 1
  p2 : c = L x 2
  p3 : d = L x 3
theorem isW (x : BitVec 256) : IsW x (L x 0) (L x 1) (L x 2) (L x 3) := ⟨rfl, rfl, rfl, rfl⟩
theorem isW_of {a b c d : Int} (ha : 0 ≤ a ∧ a ≤ 18446744073709551615) (hb : 0 ≤ b ∧ b ≤ 18446744073709551615) (hc : 0 ≤ c ∧ c ≤ 18446744073709551615) (hd : 0 ≤ d ∧ d ≤ 18446744073709551615) : IsW (wOf a b c d) a b c d := by
  obtain ⟨h0, h1, h2, h3⟩ := wOf_parts ha hb hc hd
  exact ⟨h0.symm, h1.symm, h2.symm, h3.symm⟩
theorem small_parts (n : Nat) (h : n < 18446744073709551616) : L (BitVec.ofNat 256 n) 0 = n ∧ L (BitVec.ofNat 256 n) 1 = 0 ∧ L (BitVec.ofNat 256 n) 2 = 0 ∧ L (BitVec.ofNat 256 n) 3 = 0 := by
  have e : (BitVec.ofNat 256 n).toNat = n := by rw [BitVec.toNat_ofNat]; simp only [Nat.reducePow]; omega
  rw [L0, L1, L2, L3, e]
  refine ⟨?_, ?_, ?_, ?_⟩ <;> omega
theorem isW_small {n : Int} (h0 : 0 ≤ n) (h : n < 18446744073709551616) : IsW (BitVec.ofNat 256 n.toNat) n 0 0 0 := by
  obtain ⟨a, b, c, d⟩ := small_parts n.toNat (by omega)
  exact ⟨by rw [a]; omega, b.symm, c.symm, d.symm⟩

/-- A sum of parts, with what is carried. -/
@[irreducible] def aLo (x y c : Int) : Int := (x + y + c) % 18446744073709551616
@[irreducible] def aHi (x y c : Int) : Int := (x + y + c) / 18446744073709551616
theorem aLo_eq (x y c : Int) : aLo x y c = (x + y + c) % 18446744073709551616 := by unfold aLo; rfl
theorem aHi_eq (x y c : Int) : aHi x y c = (x + y + c) / 18446744073709551616 := by unfold aHi; rfl
theorem aHi_lo {x y c : Int} (hx : 0 ≤ x) (hy : 0 ≤ y) (hc : 0 ≤ c) : 0 ≤ aHi x y c := by rw [aHi_eq]; omega
theorem aHi_hi {x y c : Int} (hx : x < 18446744073709551616) (hy : y < 18446744073709551616) (hc : c ≤ 1) : aHi x y c ≤ 1 := by rw [aHi_eq]; omega
/-- What is carried into the parts 1, 2, 3 of a sum. -/
def c1 (x y : BitVec 256) : Int := aHi (L x 0) (L y 0) 0
def c2 (x y : BitVec 256) : Int := aHi (L x 1) (L y 1) (c1 x y)
def cc3 (x y : BitVec 256) : Int := aHi (L x 2) (L y 2) (c2 x y)
theorem c1_bd (x y : BitVec 256) : 0 ≤ c1 x y ∧ c1 x y ≤ 1 := ⟨aHi_lo (L_lo _ _) (L_lo _ _) (by omega), aHi_hi (L_hi _ _) (L_hi _ _) (by omega)⟩
theorem c2_bd (x y : BitVec 256) : 0 ≤ c2 x y ∧ c2 x y ≤ 1 := ⟨aHi_lo (L_lo _ _) (L_lo _ _) (c1_bd x y).1, aHi_hi (L_hi _ _) (L_hi _ _) (c1_bd x y).2⟩
theorem c3_bd (x y : BitVec 256) : 0 ≤ cc3 x y ∧ cc3 x y ≤ 1 := ⟨aHi_lo (L_lo _ _) (L_lo _ _) (c2_bd x y).1, aHi_hi (L_hi _ _) (L_hi _ _) (c2_bd x y).2⟩

/-- Parts that add up to a word are its parts. -/
theorem parts_of {z : BitVec 256} {a b c d : Int} (ha : 0 ≤ a ∧ a ≤ 18446744073709551615) (hb : 0 ≤ b ∧ b ≤ 18446744073709551615) (hc : 0 ≤ c ∧ c ≤ 18446744073709551615) (hd : 0 ≤ d ∧ d ≤ 18446744073709551615)
    (h : (z.toNat : Int) = a + b * 18446744073709551616 + c * 340282366920938463463374607431768211456 + d * 6277101735386680763835789423207666416102355444464034512896) : a = L z 0 ∧ b = L z 1 ∧ c = L z 2 ∧ d = L z 3 := by
  rw [L0, L1, L2, L3]
  refine ⟨?_, ?_, ?_, ?_⟩ <;> omega
theorem aSplit (x y c : Int) : aLo x y c + aHi x y c * 18446744073709551616 = x + y + c ∧ 0 ≤ aLo x y c ∧ aLo x y c ≤ 18446744073709551615 := by
  rw [aLo_eq, aHi_eq]; omega
theorem add_parts (x y : BitVec 256) : aLo (L x 0) (L y 0) 0 = L (x + y) 0 ∧ aLo (L x 1) (L y 1) (c1 x y) = L (x + y) 1 ∧ aLo (L x 2) (L y 2) (c2 x y) = L (x + y) 2 ∧ aLo (L x 3) (L y 3) (cc3 x y) = L (x + y) 3 := by
  have hx := L_sum x; have hy := L_sum y
  have hs : (x + y).toNat = (x.toNat + y.toNat) % 115792089237316195423570985008687907853269984665640564039457584007913129639936 := by rw [BitVec.toNat_add]
  have s0 := aSplit (L x 0) (L y 0) 0
  have s1 := aSplit (L x 1) (L y 1) (c1 x y)
  have s2 := aSplit (L x 2) (L y 2) (c2 x y)
  have s3 := aSplit (L x 3) (L y 3) (cc3 x y)
  have e1 : aHi (L x 0) (L y 0) 0 = c1 x y := rfl
  have e2 : aHi (L x 1) (L y 1) (c1 x y) = c2 x y := rfl
  have e3 : aHi (L x 2) (L y 2) (c2 x y) = cc3 x y := rfl
  have k4 : 0 ≤ aHi (L x 3) (L y 3) (cc3 x y) ∧ aHi (L x 3) (L y 3) (cc3 x y) ≤ 1 := ⟨aHi_lo (L_lo _ _) (L_lo _ _) (c3_bd x y).1, aHi_hi (L_hi _ _) (L_hi _ _) (c3_bd x y).2⟩
  rw [e1] at s0; rw [e2] at s1; rw [e3] at s2
  refine parts_of s0.2 s1.2 s2.2 s3.2 ?_
  have := x.isLt; have := y.isLt
  omega

/-- A difference of parts, with what is borrowed. -/
@[irreducible] def sLo (x y c : Int) : Int := (x - y - c) % 18446744073709551616
@[irreducible] def sHi (x y c : Int) : Int := if x < y + c then 1 else 0
theorem sLo_eq (x y c : Int) : sLo x y c = (x - y - c) % 18446744073709551616 := by unfold sLo; rfl
theorem sHi_eq (x y c : Int) : sHi x y c = if x < y + c then 1 else 0 := by unfold sHi; rfl
theorem sHi_bd (x y c : Int) : 0 ≤ sHi x y c ∧ sHi x y c ≤ 1 := by rw [sHi_eq]; split <;> omega
def d1 (x y : BitVec 256) : Int := sHi (L x 0) (L y 0) 0
def d2 (x y : BitVec 256) : Int := sHi (L x 1) (L y 1) (d1 x y)
def d3 (x y : BitVec 256) : Int := sHi (L x 2) (L y 2) (d2 x y)
theorem d1_bd (x y : BitVec 256) : 0 ≤ d1 x y ∧ d1 x y ≤ 1 := sHi_bd _ _ _
theorem d2_bd (x y : BitVec 256) : 0 ≤ d2 x y ∧ d2 x y ≤ 1 := sHi_bd _ _ _
theorem d3_bd (x y : BitVec 256) : 0 ≤ d3 x y ∧ d3 x y ≤ 1 := sHi_bd _ _ _
theorem sSplit (x y c : Int) (hx : 0 ≤ x) (hx' : x < 18446744073709551616) (hy : 0 ≤ y) (hy' : y < 18446744073709551616) (hc : 0 ≤ c) (hc' : c ≤ 1) : sLo x y c = x - y - c + sHi x y c * 18446744073709551616 ∧ 0 ≤ sLo x y c ∧ sLo x y c ≤ 18446744073709551615 := by
  rw [sLo_eq, sHi_eq]; split <;> omega
theorem sub_parts (x y : BitVec 256) : sLo (L x 0) (L y 0) 0 = L (x - y) 0 ∧ sLo (L x 1) (L y 1) (d1 x y) = L (x - y) 1 ∧ sLo (L x 2) (L y 2) (d2 x y) = L (x - y) 2 ∧ sLo (L x 3) (L y 3) (d3 x y) = L (x - y) 3 := by
  have hx := L_sum x; have hy := L_sum y
  have hs : (x - y).toNat = (115792089237316195423570985008687907853269984665640564039457584007913129639936 - y.toNat + x.toNat) % 115792089237316195423570985008687907853269984665640564039457584007913129639936 := by rw [BitVec.toNat_sub]
  have s0 := sSplit (L x 0) (L y 0) 0 (L_lo _ _) (L_hi _ _) (L_lo _ _) (L_hi _ _) (by omega) (by omega)
  have s1 := sSplit (L x 1) (L y 1) (d1 x y) (L_lo _ _) (L_hi _ _) (L_lo _ _) (L_hi _ _) (d1_bd x y).1 (d1_bd x y).2
  have s2 := sSplit (L x 2) (L y 2) (d2 x y) (L_lo _ _) (L_hi _ _) (L_lo _ _) (L_hi _ _) (d2_bd x y).1 (d2_bd x y).2
  have s3 := sSplit (L x 3) (L y 3) (d3 x y) (L_lo _ _) (L_hi _ _) (L_lo _ _) (L_hi _ _) (d3_bd x y).1 (d3_bd x y).2
  have e1 : sHi (L x 0) (L y 0) 0 = d1 x y := rfl
  have e2 : sHi (L x 1) (L y 1) (d1 x y) = d2 x y := rfl
  have e3 : sHi (L x 2) (L y 2) (d2 x y) = d3 x y := rfl
  have k4 := sHi_bd (L x 3) (L y 3) (d3 x y)
  have k1 := d1_bd x y; have k2 := d2_bd x y; have k3 := d3_bd x y
  rw [e1] at s0; rw [e2] at s1; rw [e3] at s2
  refine parts_of s0.2 s1.2 s2.2 s3.2 ?_
  have := x.isLt; have := y.isLt
  simp only [Nat.reducePow] at *
  omega
end Go.Proofs.Ytcfomhnfhalmaaa
