/- Quotients, sums and products by a modulus, Euclid: plain laws. No program. No condition. -/
import Derived.Test.YtjlijocnmicdpaaKit
set_option linter.unusedVariables false
set_option linter.unusedSimpArgs false
namespace Go.Proofs.Ytjlijocnmicdpaa
open Go.RowKit

/-- Twice a word, and a bit. -/
def dbl (x : BitVec 256) (b : Bool) : BitVec 256 := (x + x) ||| (if b then 1#256 else 0#256)
theorem dbl_nat (x : BitVec 256) (b : Bool) : (dbl x b).toNat = (2 * x.toNat + b.toNat) % 2 ^ 256 := by
  unfold dbl
  have hx := x.isLt
  have e : (x + x).toNat = 2 * (x.toNat % 2 ^ 255) := by
    rw [BitVec.toNat_add]
    have h : (2 : Nat) ^ 256 = 2 * 2 ^ 255 := by decide
    rw [h]
    generalize (2 : Nat) ^ 255 = P
    rw [show x.toNat + x.toNat = 2 * x.toNat by omega, Nat.mul_mod_mul_left]
  have h2 : (2 * x.toNat + b.toNat) % 2 ^ 256 = 2 * (x.toNat % 2 ^ 255) + b.toNat := by
    have h : (2 : Nat) ^ 256 = 2 * 2 ^ 255 := by decide
    rw [h]
    have hb : b.toNat < 2 := Bool.toNat_lt b
    have hP : x.toNat % 2 ^ 255 < 2 ^ 255 := Nat.mod_lt _ (by decide)
    have := Nat.mod_add_div x.toNat (2 ^ 255)
    generalize (2 : Nat) ^ 255 = P at *
    generalize x.toNat % P = r at *
    have e2 : 2 * x.toNat + b.toNat = (2 * r + b.toNat) + 2 * P * (x.toNat / P) := by
      rw [Nat.mul_assoc]; generalize P * (x.toNat / P) = T at *; omega
    rw [e2, Nat.add_mul_mod_self_left, Nat.mod_eq_of_lt (by omega)]
  rw [h2, BitVec.toNat_or, e]
  cases b
  · simp
  · have : (2 * (x.toNat % 2 ^ 255)) ||| 1 = 2 * (x.toNat % 2 ^ 255) + 1 := by
      have := Nat.two_pow_add_eq_or_of_lt (i := 1) (b := 1) (by decide) (x.toNat % 2 ^ 255)
      rw [Nat.pow_one] at this; exact this.symm
    simpa using this
def goesB (m r : BitVec 256) (b : Bool) : Bool := r.msb || decide (m.toNat ≤ (dbl r b).toNat)
def stepW (m r : BitVec 256) (b : Bool) : BitVec 256 := if goesB m r b then dbl r b - m else dbl r b
def stepQ (m r q : BitVec 256) (b : Bool) : BitVec 256 := if goesB m r b then dbl q false ||| 1#256 else dbl q false
theorem goesB_iff (m r : BitVec 256) (b : Bool) (h : r.toNat < m.toNat) : goesB m r b = decide (m.toNat ≤ 2 * r.toNat + b.toNat) := by
  unfold goesB
  rw [dbl_nat]
  have hb : b.toNat < 2 := Bool.toNat_lt b
  have hm := m.isLt
  have hr := r.isLt
  have hs : r.msb = decide (2 ^ 255 ≤ r.toNat) := by rw [BitVec.msb_eq_decide]
  rw [hs]
  simp only [Nat.reducePow] at *
  by_cases h1 : 57896044618658097711785492504343953926634992332820282019728792003956564819968 ≤ r.toNat
  · rw [decide_eq_true h1, decide_eq_true (by omega : m.toNat ≤ 2 * r.toNat + b.toNat)]; rfl
  · rw [decide_eq_false h1, Bool.false_or]
    congr 1
    rw [Nat.mod_eq_of_lt (by omega)]
theorem stepW_nat (m r : BitVec 256) (b : Bool) (h : r.toNat < m.toNat) : (stepW m r b).toNat = (2 * r.toNat + b.toNat) % m.toNat := by
  have hb : b.toNat < 2 := Bool.toNat_lt b
  have hm := m.isLt
  unfold stepW
  rw [goesB_iff m r b h]
  by_cases h1 : m.toNat ≤ 2 * r.toNat + b.toNat
  · rw [decide_eq_true h1, if_pos rfl, BitVec.toNat_sub, dbl_nat]
    have : (2 * r.toNat + b.toNat) % m.toNat = 2 * r.toNat + b.toNat - m.toNat := by
      rw [Nat.mod_eq_sub_mod h1, Nat.mod_eq_of_lt (by omega)]
    rw [this]
    simp only [Nat.reducePow] at *
    omega
  · rw [decide_eq_false h1, if_neg (by simp), dbl_nat, Nat.mod_eq_of_lt (by omega), Nat.mod_eq_of_lt (by omega)]
theorem or_one_dbl (q : BitVec 256) : dbl q false ||| 1#256 = dbl q true := by unfold dbl; simp
theorem stepQ_nat (m r q : BitVec 256) (b : Bool) (h : r.toNat < m.toNat) : (stepQ m r q b).toNat = (2 * q.toNat + (2 * r.toNat + b.toNat) / m.toNat) % 2 ^ 256 := by
  have hb : b.toNat < 2 := Bool.toNat_lt b
  unfold stepQ
  rw [goesB_iff m r b h, or_one_dbl]
  by_cases h1 : m.toNat ≤ 2 * r.toNat + b.toNat
  · have : (2 * r.toNat + b.toNat) / m.toNat = 1 := Nat.div_eq_of_lt_le (by omega) (by omega)
    rw [decide_eq_true h1, if_pos rfl, dbl_nat, this]; rfl
  · rw [decide_eq_false h1, if_neg (by simp), dbl_nat, Nat.div_eq_of_lt (by omega)]; rfl
/-- What is left of the first bits of a number, and how often. -/
theorem half_eq (n i : Nat) : n / 2 ^ i = 2 * (n / 2 ^ (i + 1)) + (n.testBit i).toNat := by
  have h : n / 2 ^ (i + 1) = n / 2 ^ i / 2 := by rw [Nat.pow_succ, Nat.div_div_eq_div_mul]
  rw [h, Nat.testBit_eq_decide_div_mod_eq]
  by_cases e : n / 2 ^ i % 2 = 1
  · simp only [e, decide_true, Bool.toNat_true]; omega
  · simp only [e, decide_false, Bool.toNat_false]; omega
def remN (n : Nat) (m : BitVec 256) (i : Nat) : BitVec 256 := BitVec.ofNat 256 (n / 2 ^ i % m.toNat)
def quoN (n : Nat) (m : BitVec 256) (i : Nat) : BitVec 256 := BitVec.ofNat 256 (n / 2 ^ i / m.toNat)
theorem remN_nat {n : Nat} {m : BitVec 256} {i : Nat} (hm : 0 < m.toNat) : (remN n m i).toNat = n / 2 ^ i % m.toNat := by
  unfold remN; rw [BitVec.toNat_ofNat]; exact Nat.mod_eq_of_lt (Nat.lt_trans (Nat.mod_lt _ hm) m.isLt)
theorem remN_lt {n : Nat} {m : BitVec 256} {i : Nat} (hm : 0 < m.toNat) : (remN n m i).toNat < m.toNat := by rw [remN_nat hm]; exact Nat.mod_lt _ hm
theorem remN_step (n : Nat) (m : BitVec 256) (i : Nat) (hm : 0 < m.toNat) : stepW m (remN n m (i + 1)) (n.testBit i) = remN n m i := by
  apply BitVec.eq_of_toNat_eq
  rw [stepW_nat _ _ _ (remN_lt hm), remN_nat hm, remN_nat hm, half_eq n i, Nat.add_mod, Nat.add_mod (2 * (n / 2 ^ (i + 1))), Nat.mul_mod 2 (n / 2 ^ (i + 1) % m.toNat), Nat.mod_mod, ← Nat.mul_mod]
theorem quoN_step (n : Nat) (m : BitVec 256) (i : Nat) (hm : 0 < m.toNat) : stepQ m (remN n m (i + 1)) (quoN n m (i + 1)) (n.testBit i) = quoN n m i := by
  apply BitVec.eq_of_toNat_eq
  rw [stepQ_nat _ _ _ _ (remN_lt hm), remN_nat hm]
  unfold quoN
  rw [BitVec.toNat_ofNat, BitVec.toNat_ofNat, half_eq n i]
  have hd := Nat.mod_add_div (n / 2 ^ (i + 1)) m.toNat
  generalize n / 2 ^ (i + 1) = T at *
  generalize (n.testBit i).toNat = b at *
  have e : (2 * T + b) / m.toNat = 2 * (T / m.toNat) + (2 * (T % m.toNat) + b) / m.toNat := by
    have : 2 * T + b = (2 * (T % m.toNat) + b) + m.toNat * (2 * (T / m.toNat)) := by
      rw [Nat.mul_left_comm]; generalize m.toNat * (T / m.toNat) = Y at *; omega
    rw [this, Nat.add_mul_div_left _ _ hm]; omega
  rw [e]
  generalize (2 * (T % m.toNat) + b) / m.toNat = Z
  generalize T / m.toNat = Q
  generalize (2 : Nat) ^ 256 = P
  rw [Nat.add_mod, Nat.mul_mod, Nat.mod_mod, ← Nat.mul_mod, ← Nat.add_mod]
theorem remN_top {n : Nat} (m : BitVec 256) {k : Nat} (h : n < 2 ^ k) : remN n m k = 0#256 := by
  unfold remN; rw [Nat.div_eq_of_lt h, Nat.zero_mod]
theorem quoN_top {n : Nat} (m : BitVec 256) {k : Nat} (h : n < 2 ^ k) : quoN n m k = 0#256 := by
  unfold quoN; rw [Nat.div_eq_of_lt h, Nat.zero_div]
theorem remN_end (x m : BitVec 256) : remN x.toNat m 0 = x % m := by
  apply BitVec.eq_of_toNat_eq
  unfold remN; rw [Nat.pow_zero, Nat.div_one, BitVec.toNat_umod, BitVec.toNat_ofNat]
  exact Nat.mod_eq_of_lt (Nat.lt_of_le_of_lt (Nat.mod_le _ _) x.isLt)
theorem quoN_end (x m : BitVec 256) : quoN x.toNat m 0 = x / m := by
  apply BitVec.eq_of_toNat_eq
  unfold quoN; rw [Nat.pow_zero, Nat.div_one, BitVec.toNat_udiv, BitVec.toNat_ofNat]
  exact Nat.mod_eq_of_lt (Nat.lt_of_le_of_lt (Nat.div_le_self _ _) x.isLt)
/-- The sum of two that are below a modulus, below it. -/
def addM (a b m : BitVec 256) : BitVec 256 := if decide ((a + b).toNat < a.toNat) || decide (m.toNat ≤ (a + b).toNat) then a + b - m else a + b
theorem addM_nat {a b m : BitVec 256} (ha : a.toNat < m.toNat) (hb : b.toNat < m.toNat) : (addM a b m).toNat = (a.toNat + b.toNat) % m.toNat := by
  have hm := m.isLt
  have h1 : (a.toNat + b.toNat) % m.toNat = if m.toNat ≤ a.toNat + b.toNat then a.toNat + b.toNat - m.toNat else a.toNat + b.toNat := by
    split
    · rename_i h; rw [Nat.mod_eq_sub_mod h, Nat.mod_eq_of_lt (by omega)]
    · exact Nat.mod_eq_of_lt (by omega)
  rw [h1]
  unfold addM
  have hs : (a + b).toNat = (a.toNat + b.toNat) % 2 ^ 256 := BitVec.toNat_add a b
  by_cases hc : m.toNat ≤ a.toNat + b.toNat
  · have : (decide ((a + b).toNat < a.toNat) || decide (m.toNat ≤ (a + b).toNat)) = true := by
      rw [hs]; simp only [Nat.reducePow, Bool.or_eq_true, decide_eq_true_eq] at *; omega
    rw [this, if_pos rfl, if_pos hc, BitVec.toNat_sub, hs]
    simp only [Nat.reducePow] at *; omega
  · have : (decide ((a + b).toNat < a.toNat) || decide (m.toNat ≤ (a + b).toNat)) = false := by
      rw [hs]; simp only [Nat.reducePow, Bool.or_eq_false_iff, decide_eq_false_iff_not] at *; omega
    rw [this, if_neg (by simp), if_neg hc, hs]
    simp only [Nat.reducePow] at *; omega
/-- What is left, nought by nought. -/
def modW (a b : BitVec 256) : BitVec 256 := if b = 0#256 then 0#256 else a % b
def divW (a b : BitVec 256) : BitVec 256 := if b = 0#256 then 0#256 else a / b
theorem pos_of_ne {m : BitVec 256} (h : ¬ m = 0#256) : 0 < m.toNat := by
  rcases Nat.eq_zero_or_pos m.toNat with h0 | h0
  · exact absurd (BitVec.eq_of_toNat_eq h0) h
  · exact h0
def mulMn (a b m : BitVec 256) (i : Nat) : BitVec 256 := BitVec.ofNat 256 (a.toNat * (b.toNat / 2 ^ i) % m.toNat)
theorem mulMn_nat {a b m : BitVec 256} {i : Nat} (hm : 0 < m.toNat) : (mulMn a b m i).toNat = a.toNat * (b.toNat / 2 ^ i) % m.toNat := by
  unfold mulMn; rw [BitVec.toNat_ofNat]; exact Nat.mod_eq_of_lt (Nat.lt_trans (Nat.mod_lt _ hm) m.isLt)
theorem mulMn_lt {a b m : BitVec 256} {i : Nat} (hm : 0 < m.toNat) : (mulMn a b m i).toNat < m.toNat := by rw [mulMn_nat hm]; exact Nat.mod_lt _ hm
theorem mulMn_step0 (a b m : BitVec 256) (i : Nat) (hm : 0 < m.toNat) (h : b.getLsbD i = false) : addM (mulMn a b m (i + 1)) (mulMn a b m (i + 1)) m = mulMn a b m i := by
  apply BitVec.eq_of_toNat_eq
  rw [addM_nat (mulMn_lt hm) (mulMn_lt hm), mulMn_nat hm, mulMn_nat hm, half_eq b.toNat i]
  have : (b.toNat.testBit i) = false := h
  rw [this]
  generalize b.toNat / 2 ^ (i + 1) = T
  rw [show 2 * T + false.toNat = T + T by simp; omega, Nat.mul_add, ← Nat.add_mod]
theorem mulMn_step1 (a b m : BitVec 256) (i : Nat) (hm : 0 < m.toNat) (h : b.getLsbD i = true) : addM (addM (mulMn a b m (i + 1)) (mulMn a b m (i + 1)) m) (a % m) m = mulMn a b m i := by
  apply BitVec.eq_of_toNat_eq
  have h1 : (a % m).toNat = a.toNat % m.toNat := BitVec.toNat_umod
  have h0 := addM_nat (mulMn_lt (a := a) (b := b) (i := i + 1) hm) (mulMn_lt (a := a) (b := b) (i := i + 1) hm)
  rw [addM_nat (by rw [h0]; exact Nat.mod_lt _ hm) (by rw [h1]; exact Nat.mod_lt _ hm), h0, h1, mulMn_nat hm, mulMn_nat hm, half_eq b.toNat i]
  have : (b.toNat.testBit i) = true := h
  rw [this]
  generalize b.toNat / 2 ^ (i + 1) = T
  rw [show 2 * T + true.toNat = T + T + 1 by simp; omega, Nat.mul_add, Nat.mul_add, Nat.mul_one, Nat.add_mod (a.toNat * T + a.toNat * T), Nat.add_mod (a.toNat * T)]
theorem mulMn_top (a b m : BitVec 256) : mulMn a b m 256 = 0#256 := by
  unfold mulMn; rw [Nat.div_eq_of_lt b.isLt, Nat.mul_zero, Nat.zero_mod]
theorem addM_mod {a b m : BitVec 256} (hm : 0 < m.toNat) : addM (a % m) (b % m) m = BitVec.ofNat 256 ((a.toNat + b.toNat) % m.toNat) := by
  apply BitVec.eq_of_toNat_eq
  have h1 : (a % m).toNat = a.toNat % m.toNat := BitVec.toNat_umod
  have h2 : (b % m).toNat = b.toNat % m.toNat := BitVec.toNat_umod
  rw [addM_nat (by rw [h1]; exact Nat.mod_lt _ hm) (by rw [h2]; exact Nat.mod_lt _ hm), h1, h2, ← Nat.add_mod, BitVec.toNat_ofNat, Nat.mod_eq_of_lt (Nat.lt_trans (Nat.mod_lt _ hm) m.isLt)]
/-- The order of signed words. -/
theorem less_signed (a b : BitVec 256) : decide ((a ^^^ BitVec.twoPow 256 255).toNat < (b ^^^ BitVec.twoPow 256 255).toNat) = (if a.msb = b.msb then decide (a.toNat < b.toNat) else a.msb) := by
  have key : ∀ x : BitVec 256, (x ^^^ BitVec.twoPow 256 255).toNat = if x.msb then x.toNat - 2 ^ 255 else x.toNat + 2 ^ 255 := fun x => by
    have e : x ^^^ BitVec.twoPow 256 255 = x + BitVec.twoPow 256 255 := by
      apply BitVec.eq_of_getLsbD_eq
      intro i hi
      rw [BitVec.getLsbD_xor, BitVec.getLsbD_add hi, BitVec.getLsbD_twoPow]
      have hc : BitVec.carry i x (BitVec.twoPow 256 255) false = false := by
        rw [BitVec.carry]
        have : (BitVec.twoPow 256 255).toNat % 2 ^ i = 0 := by
          rw [BitVec.toNat_twoPow, Nat.mod_eq_of_lt (by decide : (2:Nat) ^ 255 < 2 ^ 256)]
          have : (2 : Nat) ^ 255 = 2 ^ i * 2 ^ (255 - i) := by rw [← Nat.pow_add]; congr 1; omega
          rw [this, Nat.mul_mod_right]
        rw [this]
        have := Nat.mod_lt x.toNat (Nat.two_pow_pos i)
        simp; omega
      rw [hc]; simp
    rw [e, BitVec.toNat_add, BitVec.toNat_twoPow, BitVec.msb_eq_decide]
    have := x.isLt
    simp only [Nat.reducePow, Nat.reduceMod, decide_eq_true_eq, Nat.reduceSub] at *
    split <;> omega
  rw [key, key]
  have ha := a.isLt
  have hb := b.isLt
  have ma : a.msb = decide (2 ^ 255 ≤ a.toNat) := BitVec.msb_eq_decide a
  have mb : b.msb = decide (2 ^ 255 ≤ b.toNat) := BitVec.msb_eq_decide b
  cases h1 : a.msb <;> cases h2 : b.msb <;> rw [h1] at ma <;> rw [h2] at mb <;> simp at ma mb ⊢ <;> simp only [Nat.reducePow] at * <;> omega
/-- Euclid's pairs. -/
def pairsL (a b : BitVec 256) : List (BitVec 256 × BitVec 256) :=
  if a = 0#256 then [] else (a, b) :: (if h : b = 0#256 then [] else pairsL b (a % b))
termination_by b.toNat
decreasing_by
  rw [BitVec.toNat_umod]
  exact Nat.mod_lt _ (by rcases Nat.eq_zero_or_pos b.toNat with h0 | h0; exact absurd (BitVec.eq_of_toNat_eq h0) h; exact h0)
theorem pairsL_nil (b : BitVec 256) : pairsL 0#256 b = [] := by rw [pairsL]; simp
theorem pairsL_cons {a : BitVec 256} (b : BitVec 256) (h : ¬ a = 0#256) : pairsL a b = (a, b) :: pairsL b (modW a b) := by
  rw [pairsL, if_neg h]
  congr 1
  unfold modW
  split
  · rename_i hb; rw [hb, pairsL_nil]
  · rfl
theorem last_goes : ∀ (n : Nat) (a b : BitVec 256), b.toNat ≤ n → ¬ a = 0#256 → ∃ x y, (pairsL a b).getLast? = some (x, y) ∧ ¬ x = 0#256 ∧ a.toNat % x.toNat = 0 ∧ b.toNat % x.toNat = 0 := by
  intro n
  induction n with
  | zero =>
    intro a b hb ha
    have : b = 0#256 := BitVec.eq_of_toNat_eq (by simpa using hb)
    subst this
    refine ⟨a, 0#256, ?_, ha, Nat.mod_self _, Nat.zero_mod _⟩
    rw [pairsL_cons _ ha, pairsL_nil]; rfl
  | succ n ih =>
    intro a b hb ha
    by_cases h0 : b = 0#256
    · subst h0
      refine ⟨a, 0#256, ?_, ha, Nat.mod_self _, Nat.zero_mod _⟩
      rw [pairsL_cons _ ha, pairsL_nil]; rfl
    · have hp : 0 < b.toNat := by rcases Nat.eq_zero_or_pos b.toNat with h | h; exact absurd (BitVec.eq_of_toNat_eq h) h0; exact h
      have hlt : (a % b).toNat < b.toNat := by rw [BitVec.toNat_umod]; exact Nat.mod_lt _ hp
      obtain ⟨x, y, h1, h2, h3, h4⟩ := ih b (a % b) (by omega) h0
      refine ⟨x, y, ?_, h2, ?_, h3⟩
      · rw [pairsL_cons _ ha]
        have : modW a b = a % b := by unfold modW; rw [if_neg h0]
        rw [this, List.getLast?_cons, h1]; rfl
      · rw [BitVec.toNat_umod] at h4
        have e := Nat.mod_add_div a.toNat b.toNat
        rw [← e]
        exact Nat.mod_eq_zero_of_dvd (Nat.dvd_add (Nat.dvd_of_mod_eq_zero h4) (Nat.dvd_trans (Nat.dvd_of_mod_eq_zero h3) (Nat.dvd_mul_right _ _)))
end Go.Proofs.Ytjlijocnmicdpaa
