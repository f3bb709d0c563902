/- Plain: products of words, part by part. No program. No condition. -/
import Derived.Test.YtjlijocnmicdpaaWords
set_option linter.unusedVariables false
set_option linter.unusedSimpArgs false
namespace Go.Proofs.Ytjlijocnmicdpaa
open Go.RowKit

abbrev G64 : Nat := 18446744073709551616
def V4 (o : Nat → Nat) : Nat := o 0 + o 1 * G64 + o 2 * (G64 * G64) + o 3 * (G64 * G64 * G64)
def up (o : Nat → Nat) (q v : Nat) : Nat → Nat := fun j => if j = q then v else o j
theorem V4_up (o : Nat → Nat) {q : Nat} (hq : q < 4) (v : Nat) : V4 (up o q v) + o q * G64 ^ q = V4 o + v * G64 ^ q := by
  rcases (by omega : q = 0 ∨ q = 1 ∨ q = 2 ∨ q = 3) with rfl | rfl | rfl | rfl <;> simp [V4, up, G64] <;> omega
def pt (n q : Nat) : Nat := n / G64 ^ q % G64
theorem pt_lt (n q : Nat) : pt n q < G64 := Nat.mod_lt _ (by decide)
theorem mod_succ' (n q : Nat) : n % G64 ^ (q + 1) = n % G64 ^ q + pt n q * G64 ^ q := by
  unfold pt
  rw [Nat.pow_succ, Nat.mod_mul, Nat.mul_comm (G64 ^ q)]
theorem M4_eq : G64 ^ 4 = 2 ^ 256 := by decide
/-- What the rows and the carry come to, ahead of inner round k of outer round i. -/
def MInv (a b : Nat) (i k : Nat) (o : Nat → Nat) (c : Nat) : Prop := (V4 o + c * G64 ^ (i + k)) % G64 ^ 4 = ((a % G64 ^ i) * b + pt a i * (b % G64 ^ k) * G64 ^ i) % G64 ^ 4
theorem MInv.start {a b i : Nat} {o : Nat → Nat} (h : V4 o % G64 ^ 4 = (a % G64 ^ i) * b % G64 ^ 4) : MInv a b i 0 o 0 := by
  unfold MInv
  rw [Nat.zero_mul, Nat.add_zero, h, Nat.pow_zero, Nat.mod_one, Nat.mul_zero, Nat.zero_mul, Nat.add_zero]
theorem MInv.step {a b i k : Nat} {o : Nat → Nat} {c lo c' : Nat} (h : MInv a b i k o c) (hik : i + k < 4) (he : lo + G64 * c' = pt a i * pt b k + o (i + k) + c) : MInv a b i (k + 1) (up o (i + k) lo) c' := by
  unfold MInv at *
  have h1 := V4_up o hik lo
  have e1 : V4 (up o (i + k) lo) + c' * G64 ^ (i + (k + 1)) = V4 o + c * G64 ^ (i + k) + pt a i * pt b k * G64 ^ (i + k) := by
    have h2 : c' * G64 ^ (i + (k + 1)) = (G64 * c') * G64 ^ (i + k) := by
      rw [← Nat.add_assoc, Nat.pow_succ, Nat.mul_comm (G64 ^ (i + k)) G64, ← Nat.mul_assoc, Nat.mul_comm c' G64]
    have h3 : (lo + G64 * c') * G64 ^ (i + k) = (pt a i * pt b k + o (i + k) + c) * G64 ^ (i + k) := by rw [he]
    rw [Nat.add_mul, Nat.add_mul, Nat.add_mul] at h3
    rw [h2]
    omega
  have e2 : (a % G64 ^ i) * b + pt a i * (b % G64 ^ (k + 1)) * G64 ^ i = ((a % G64 ^ i) * b + pt a i * (b % G64 ^ k) * G64 ^ i) + pt a i * pt b k * G64 ^ (i + k) := by
    rw [mod_succ', Nat.mul_add, Nat.add_mul, ← Nat.add_assoc]
    congr 1
    rw [Nat.pow_add, Nat.mul_assoc, Nat.mul_assoc, Nat.mul_assoc, Nat.mul_comm (G64 ^ k) (G64 ^ i)]
  rw [e1, e2, Nat.add_mod, h, ← Nat.add_mod]
theorem MInv.stop {a b i : Nat} {o : Nat → Nat} {c : Nat} (hi : i ≤ 4) (h : MInv a b i (4 - i) o c) : V4 o % G64 ^ 4 = (a % G64 ^ (i + 1)) * b % G64 ^ 4 := by
  unfold MInv at h
  rw [show i + (4 - i) = 4 by omega, Nat.add_mul_mod_self_right] at h
  rw [h, mod_succ' a i, Nat.add_mul]
  have e : pt a i * G64 ^ i * b = pt a i * (b % G64 ^ (4 - i)) * G64 ^ i + G64 ^ 4 * (pt a i * (b / G64 ^ (4 - i))) := by
    have h1 := Nat.div_add_mod b (G64 ^ (4 - i))
    have h2 : G64 ^ 4 = G64 ^ (4 - i) * G64 ^ i := by rw [← Nat.pow_add]; congr 1; omega
    conv => lhs; rw [← h1]
    rw [h2]
    generalize G64 ^ (4 - i) = P
    generalize G64 ^ i = Q
    generalize b / P = d
    generalize b % P = r
    generalize pt a i = p
    simp only [Nat.mul_add, Nat.mul_comm, Nat.mul_left_comm, Nat.add_comm]
  rw [e, ← Nat.add_assoc, Nat.add_mul_mod_self_left]
end Go.Proofs.Ytjlijocnmicdpaa
