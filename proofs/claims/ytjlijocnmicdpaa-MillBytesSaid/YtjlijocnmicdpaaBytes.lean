/- A word's bytes. No program of its own. No condition. -/
import Derived.Test.YtjlijocnmicdpaaSl
set_option linter.unusedVariables false
set_option linter.unusedSimpArgs false
namespace Go.Proofs.Ytjlijocnmicdpaa
open Go.RowKit

/-- A byte at its place. -/
@[irreducible] def sh (c s : Nat) : Nat := c <<< s
theorem sh_def (c s : Nat) : sh c s = c <<< s := by unfold sh; rfl
theorem sh_zero (s : Nat) : sh 0 s = 0 := by rw [sh_def]; simp
/-- Eight bytes as a number: number q of those that f tells. -/
def ob (f : Nat → Nat) (q : Nat) : Nat := sh (f (8 * q)) 0 ||| (sh (f (8 * q + 1)) 8 ||| (sh (f (8 * q + 2)) 16 ||| (sh (f (8 * q + 3)) 24 ||| (sh (f (8 * q + 4)) 32 ||| (sh (f (8 * q + 5)) 40 ||| (sh (f (8 * q + 6)) 48 ||| sh (f (8 * q + 7)) 56))))))
def upd (f : Nat → Nat) (k c : Nat) : Nat → Nat := fun j => if j = k then c else f j
theorem ob_other {f : Nat → Nat} {k c q : Nat} (h : q ≠ k / 8) : ob (upd f k c) q = ob f q := by
  have : ∀ r, r < 8 → upd f k c (8 * q + r) = f (8 * q + r) := fun r hr => by unfold upd; rw [if_neg (by omega)]
  have h0 := this 0 (by omega)
  rw [Nat.add_zero] at h0
  unfold ob
  rw [h0, this 1 (by omega), this 2 (by omega), this 3 (by omega), this 4 (by omega), this 5 (by omega), this 6 (by omega), this 7 (by omega)]
theorem ob_step {f : Nat → Nat} {k c : Nat} (h : f k = 0) : ob (upd f k c) (k / 8) = ob f (k / 8) ||| sh c (8 * (k % 8)) := by
  obtain ⟨q, r, hr, rfl⟩ : ∃ q r, r < 8 ∧ k = 8 * q + r := ⟨k / 8, k % 8, Nat.mod_lt _ (by omega), by omega⟩
  have hq : (8 * q + r) / 8 = q := by omega
  have hm : (8 * q + r) % 8 = r := by omega
  rw [hq, hm]
  have hu : ∀ s, s < 8 → upd f (8 * q + r) c (8 * q + s) = if s = r then c else f (8 * q + s) := fun s hs => by unfold upd; by_cases e : s = r <;> simp [e]
  have h0 := hu 0 (by omega)
  rw [Nat.add_zero] at h0
  unfold ob
  rw [h0, hu 1 (by omega), hu 2 (by omega), hu 3 (by omega), hu 4 (by omega), hu 5 (by omega), hu 6 (by omega), hu 7 (by omega)]
  have hz : ∀ s, s = r → f (8 * q + s) = 0 := fun s e => by rw [e]; exact h
  rcases (by omega : r = 0 ∨ r = 1 ∨ r = 2 ∨ r = 3 ∨ r = 4 ∨ r = 5 ∨ r = 6 ∨ r = 7) with rfl | rfl | rfl | rfl | rfl | rfl | rfl | rfl <;> (try rw [Nat.add_zero] at h) <;> simp [h, sh_zero] <;> ac_rfl
theorem ob_lt {f : Nat → Nat} (h : ∀ j, f j < 256) (q : Nat) : ob f q < 2 ^ 64 := by
  have hs : ∀ j s, s ≤ 56 → sh (f j) s < 2 ^ 64 := fun j s hs => by
    rw [sh_def, Nat.shiftLeft_eq]
    calc f j * 2 ^ s < 256 * 2 ^ s := Nat.mul_lt_mul_of_pos_right (h j) (Nat.pow_pos (by omega))
      _ ≤ 256 * 2 ^ 56 := Nat.mul_le_mul_left _ (Nat.pow_le_pow_right (by omega) hs)
      _ = 2 ^ 64 := by decide
  unfold ob
  repeat' apply Nat.or_lt_two_pow
  all_goals exact hs _ _ (by omega)
/-- The byte number j of four numbers. -/
def byteAt (x : Nat → Nat) (j : Nat) : Nat := x (j / 8) / 2 ^ (8 * (j % 8)) % 256
theorem sh_bit (x j r s : Nat) (hs : s = 8 * r) : (sh (x / 2 ^ (8 * r) % 2 ^ 8) s).testBit j = (decide (j / 8 = r) && x.testBit j) := by
  subst hs
  rw [sh_def]
  simp only [Nat.testBit_shiftLeft, Nat.testBit_mod_two_pow, Nat.testBit_div_two_pow]
  by_cases h : j / 8 = r
  · have h1 : 8 * r ≤ j := by omega
    have h2 : j - 8 * r < 8 := by omega
    rw [decide_eq_true h, decide_eq_true (show j ≥ 8 * r from h1), decide_eq_true h2]
    simp only [Bool.true_and]
    congr 1; omega
  · rw [decide_eq_false h]
    by_cases h1 : 8 * r ≤ j
    · rw [decide_eq_false (show ¬ (j - 8 * r < 8) by omega)]; simp
    · rw [decide_eq_false (show ¬ (j ≥ 8 * r) from h1)]; simp
theorem ob_bytes {x : Nat → Nat} {q : Nat} (h : x q < 2 ^ 64) : ob (byteAt x) q = x q := by
  have hb : ∀ r, r < 8 → byteAt x (8 * q + r) = x q / 2 ^ (8 * r) % 2 ^ 8 := fun r hr => by
    unfold byteAt; rw [show (8 * q + r) / 8 = q by omega, show (8 * q + r) % 8 = r by omega]
  have h0 := hb 0 (by omega)
  rw [Nat.add_zero] at h0
  unfold ob
  rw [h0, hb 1 (by omega), hb 2 (by omega), hb 3 (by omega), hb 4 (by omega), hb 5 (by omega), hb 6 (by omega), hb 7 (by omega)]
  apply Nat.eq_of_testBit_eq
  intro j
  simp only [Nat.testBit_or, sh_bit (x q) j 0 0 rfl, sh_bit (x q) j 1 8 rfl, sh_bit (x q) j 2 16 rfl, sh_bit (x q) j 3 24 rfl, sh_bit (x q) j 4 32 rfl, sh_bit (x q) j 5 40 rfl, sh_bit (x q) j 6 48 rfl, sh_bit (x q) j 7 56 rfl]
  cases ht : (x q).testBit j with
  | false => simp
  | true =>
    have hj : j < 64 := by
      rcases Nat.lt_or_ge j 64 with hj | hj
      · exact hj
      · rw [Nat.testBit_lt_two_pow (Nat.lt_of_lt_of_le h (Nat.pow_le_pow_right (by omega) hj))] at ht; cases ht
    have hq : j / 8 = 0 ∨ j / 8 = 1 ∨ j / 8 = 2 ∨ j / 8 = 3 ∨ j / 8 = 4 ∨ j / 8 = 5 ∨ j / 8 = 6 ∨ j / 8 = 7 := by omega
    rcases hq with e | e | e | e | e | e | e | e <;> simp [e]
end Go.Proofs.Ytjlijocnmicdpaa
