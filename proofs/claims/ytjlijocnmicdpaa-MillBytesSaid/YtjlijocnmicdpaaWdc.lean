/- Words and their bytes, by the document. No condition. -/
import Derived.Test.YtjlijocnmicdpaaRf0
import Derived.Test.YtjlijocnmicdpaaWords
import Derived.Test.YtjlijocnmicdpaaDig
set_option linter.unusedVariables false
set_option linter.unusedSimpArgs false
namespace Go.Proofs.Ytjlijocnmicdpaa
open Go.RowKit

def lq (x : BitVec 256) (q : Nat) : Nat := x.toNat / 2 ^ (64 * q) % 2 ^ 64
theorem W_lq (x : BitVec 256) : W x = .agg (limbs (lq x)) := by
  unfold W limbs lq
  rw [L_eq, L_eq, L_eq, L_eq]
theorem lq_lt (x : BitVec 256) (q : Nat) : lq x q < 2 ^ 64 := Nat.mod_lt _ (by decide)
theorem L_lq (x : BitVec 256) (q : Nat) : L x q = ((lq x q : Nat) : Int) := L_eq x q
/-- A digit. -/
def dig (n j : Nat) : Nat := n / 256 ^ j % 256
theorem dig_lt (n j : Nat) : dig n j < 256 := Nat.mod_lt _ (by decide)
theorem pow256 (j : Nat) : 256 ^ j = 2 ^ (8 * j) := by rw [Nat.pow_mul]
theorem byteAt_lq (x : BitVec 256) (j : Nat) : byteAt (lq x) j = dig x.toNat j := by
  unfold byteAt lq dig
  rw [pow256]
  show _ % 2 ^ 8 = _ % 2 ^ 8
  apply Nat.eq_of_testBit_eq
  intro i
  simp only [Nat.testBit_mod_two_pow, Nat.testBit_div_two_pow]
  by_cases hi : i < 8
  · rw [show i + 8 * (j % 8) + 64 * (j / 8) = i + 8 * j by omega, decide_eq_true (show i + 8 * (j % 8) < 64 by omega)]
    simp
  · simp [hi]
theorem dig_mod {n j : Nat} (h : j < 32) : dig (n % 2 ^ 256) j = dig n j := by
  unfold dig
  rw [pow256]
  show _ % 2 ^ 8 = _ % 2 ^ 8
  apply Nat.eq_of_testBit_eq
  intro i
  simp only [Nat.testBit_mod_two_pow, Nat.testBit_div_two_pow]
  by_cases hi : i < 8
  · rw [decide_eq_true (show i + 8 * j < 256 by omega)]
    simp
  · simp [hi]
theorem ob_congr {f g : Nat → Nat} {q : Nat} (h : ∀ j, j < 8 * q + 8 → f j = g j) : ob f q = ob g q := by
  unfold ob
  rw [h _ (by omega), h _ (by omega), h _ (by omega), h _ (by omega), h _ (by omega), h _ (by omega), h _ (by omega), h _ (by omega)]
theorem limbs_congr {x y : Nat → Nat} (h : ∀ q, q < 4 → x q = y q) : limbs x = limbs y := by
  unfold limbs
  rw [h 0 (by omega), h 1 (by omega), h 2 (by omega), h 3 (by omega)]
theorem refBytesW (x : BitVec 256) (w : World) : Calls Try.prog 57 #[W x] w fun e w' => e = .returned (.agg (arr32 fun j => ((dig x.toNat (31 - j) : Nat) : Int))) ∧ Below w.heap.size w w' := by
  rw [W_lq, show (arr32 fun j => ((dig x.toNat (31 - j) : Nat) : Int)) = arr32 fun j => ((byteAt (lq x) (31 - j) : Nat) : Int) from arr32_congr fun j _ => by rw [byteAt_lq]]
  exact refWordBytes_any (lq x) w (lq_lt x)
theorem refFromW (n : Nat) (w : World) : Calls Try.prog 58 #[.agg (arr32 fun j => ((dig n (31 - j) : Nat) : Int))] w fun e w' => e = .returned (W (BitVec.ofNat 256 n)) ∧ Below w.heap.size w w' := by
  have h := refFrom_any (fun j => dig n (31 - j)) w (fun j => dig_lt _ _)
  rw [show limbs (ob (fF (fun j => dig n (31 - j)) 32)) = limbs (lq (BitVec.ofNat 256 n)) from limbs_congr fun q hq => ?_] at h
  · rw [W_lq]; exact h
  · rw [← ob_bytes (lq_lt (BitVec.ofNat 256 n) q)]
    refine ob_congr fun j hj => ?_
    rw [byteAt_lq, BitVec.toNat_ofNat, dig_mod (by omega)]
    unfold fF
    rw [if_pos (by omega)]
    dsimp only
    rw [show 31 - (31 - j) = j by omega]
theorem ofNat_add (x y : BitVec 256) : BitVec.ofNat 256 (x.toNat + y.toNat) = x + y := by
  apply BitVec.eq_of_toNat_eq
  rw [BitVec.toNat_ofNat, BitVec.toNat_add]
theorem ofNat_mul (x y : BitVec 256) : BitVec.ofNat 256 (x.toNat * y.toNat) = x * y := by
  apply BitVec.eq_of_toNat_eq
  rw [BitVec.toNat_ofNat, BitVec.toNat_mul]
end Go.Proofs.Ytjlijocnmicdpaa
