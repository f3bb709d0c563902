/- Walks: the word of bytes. -/
import Derived.Test.YtjlijocnmicdpaaDWb
import Derived.Test.YtjlijocnmicdpaaReg
set_option linter.unusedVariables false
set_option linter.unusedSimpArgs false
namespace Go.Proofs.Ytjlijocnmicdpaa
open Go.RowKit

theorem own1 {w : World} {b : Nat} {c : Array Value} {t : TypeId} (h : Blk w b c t) : Own [(b, c, t)] w := fun p hp => by
  simp at hp; subst hp; exact h
theorem bits_or_nat {X Y : Nat} (hX : X < 2 ^ 64) (hY : Y < 2 ^ 64) : bits .or .u64 ((X : Nat) : Int) ((Y : Nat) : Int) = ((X ||| Y : Nat) : Int) := by
  show IntKind.u64.wrap ((BitVec.ofInt 64 ((X : Nat) : Int) ||| BitVec.ofInt 64 ((Y : Nat) : Int)).toNat : Int) = _
  rw [BitVec.ofInt_natCast, BitVec.ofInt_natCast, BitVec.toNat_or, BitVec.toNat_ofNat, BitVec.toNat_ofNat, Nat.mod_eq_of_lt hX, Nat.mod_eq_of_lt hY]
  have := Nat.or_lt_two_pow hX hY
  exact IntWalk.u64_in _ (by simp only [Nat.reducePow] at this; omega)
theorem or_sh {a c : Nat} (ha : a < 2 ^ 64) (hc : c < 256) (m : Nat) : bits .or .u64 ((a : Nat) : Int) (IntKind.u64.wrap (IntKind.u64.wrap ((c : Nat) : Int) * 2 ^ (8 * (m % 8)))) = ((a ||| sh c (8 * (m % 8)) : Nat) : Int) := by
  have h1 : c * 2 ^ (8 * (m % 8)) < 2 ^ 64 := by
    calc c * 2 ^ (8 * (m % 8)) < 256 * 2 ^ (8 * (m % 8)) := Nat.mul_lt_mul_of_pos_right hc (Nat.pow_pos (by omega))
      _ ≤ 256 * 2 ^ 56 := Nat.mul_le_mul_left _ (Nat.pow_le_pow_right (by omega) (by omega))
      _ = 2 ^ 64 := by decide
  rw [IntWalk.u64_in ((c : Nat) : Int) (by omega)]
  have e : ((c : Nat) : Int) * 2 ^ (8 * (m % 8)) = ((c * 2 ^ (8 * (m % 8)) : Nat) : Int) := by simp
  rw [e, IntWalk.u64_in _ (by simp only [Nat.reducePow] at h1; omega), bits_or_nat ha h1, sh_def, Nat.shiftLeft_eq]
/-- The bytes that are read already, by their places. -/
def fR (xs : List Nat) (k j : Nat) : Nat := if j < xs.length ∧ xs.length - 1 - j < k then xs.getD (xs.length - 1 - j) 0 else 0
theorem fR_zero (xs : List Nat) : fR xs 0 = fun _ => 0 := by funext j; unfold fR; rw [if_neg (by omega)]
theorem ob_none (q : Nat) : ob (fun _ => 0) q = 0 := by simp [ob, sh_zero]
theorem fR_free {xs : List Nat} {k m : Nat} (h : m + k + 1 = xs.length) : fR xs k m = 0 := by unfold fR; rw [if_neg (by omega)]
theorem fR_step {xs : List Nat} {k m c : Nat} (h : m + k + 1 = xs.length) (hc : xs[k]? = some c) : fR xs (k + 1) = upd (fR xs k) m c := by
  funext j
  unfold fR upd
  dsimp only
  by_cases hj : j = m
  · subst hj
    rw [if_pos rfl, if_pos (by omega), show xs.length - 1 - j = k by omega, List.getD_eq_getElem?_getD, hc]; rfl
  · rw [if_neg hj]
    by_cases h1 : j < xs.length ∧ xs.length - 1 - j < k
    · rw [if_pos h1, if_pos (by omega)]
    · rw [if_neg h1, if_neg (by omega)]
theorem fR_lt {xs : List Nat} (h : ∀ x ∈ xs, x < 256) (k j : Nat) : fR xs k j < 256 := by
  unfold fR
  split
  · rw [List.getD_eq_getElem?_getD]
    cases hq : xs[xs.length - 1 - j]? with
    | none => simp
    | some c => exact h c (List.mem_of_getElem? hq)
  · omega
theorem limbs_set {f : Nat → Nat} {k c : Nat} (h : f k = 0) (hk : k / 8 < 4) : (limbs (ob f)).setIfInBounds (k / 8) (.int .u64 ((ob f (k / 8) ||| sh c (8 * (k % 8)) : Nat) : Int)) = limbs (ob (upd f k c)) := by
  have e : ∀ q, q < 4 → ((ob (upd f k c) q : Nat) : Int) = if q = k / 8 then ((ob f (k / 8) ||| sh c (8 * (k % 8)) : Nat) : Int) else ((ob f q : Nat) : Int) := fun q hq => by
    by_cases hqk : q = k / 8
    · rw [if_pos hqk, hqk, ob_step h]
    · rw [if_neg hqk, ob_other hqk]
  unfold limbs
  rw [e 0 (by omega), e 1 (by omega), e 2 (by omega), e 3 (by omega)]
  rcases (by omega : k / 8 = 0 ∨ k / 8 = 1 ∨ k / 8 = 2 ∨ k / 8 = 3) with hq | hq | hq | hq <;> rw [hq] <;> simp
def ReadRel (xs : List Nat) (w : World) (i : Value) (wr : World) : Prop :=
  ∃ k : Nat, k ≤ xs.length ∧ i = .int .i64 k ∧ Blk wr w.heap.size (limbs (ob (fR xs k))) 80 ∧ Below w.heap.size w wr
def natC (xs : List Nat) : List Value := bytesC (xs.map fun x => ((x : Nat) : Int))
end Go.Proofs.Ytjlijocnmicdpaa
