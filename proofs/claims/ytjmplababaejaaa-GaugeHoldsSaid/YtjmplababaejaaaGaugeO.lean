/- Labels: two ways to tell which lies below which. -/
import Derived.Test.YtjmplababaejaaaGaugeL
namespace Go.Proofs.Ytjmplababaejaaa
theorem has_bit (X : BitVec 64) (k : Nat) : hasI (X.toNat : Int) k = X.getLsbD k := by
  unfold hasI
  have e : ((X.toNat : Int) / 2 ^ k % 2) = ((X.toNat / 2 ^ k % 2 : Nat) : Int) := by
    rw [Int.natCast_emod, Int.natCast_ediv, Int.natCast_pow]; rfl
  rw [e, BitVec.getLsbD, Nat.testBit_eq_decide_div_mod_eq, Bool.eq_iff_iff]
  simp only [beq_iff_eq, decide_eq_true_eq]
  omega
theorem below_bits (X Y : BitVec 64) : belowI (X.toNat : Int) (Y.toNat : Int) = decide (X &&& ~~~Y = 0#64) := by
  have h : bits .andNot .u64 (X.toNat : Int) (Y.toNat : Int) = ((X &&& ~~~Y).toNat : Int) := by
    show IntKind.u64.wrap ((BitVec.ofInt 64 (X.toNat : Int) &&& ~~~ BitVec.ofInt 64 (Y.toNat : Int)).toNat : Int) = _
    rw [BitVec.ofInt_natCast, BitVec.ofInt_natCast, BitVec.ofNat_toNat, BitVec.ofNat_toNat, BitVec.setWidth_eq, BitVec.setWidth_eq]
    have := (X &&& ~~~Y).isLt
    exact IntWalk.u64_in _ (by simp only [Nat.reducePow] at this; omega)
  unfold belowI
  rw [h, Bool.eq_iff_iff]
  simp only [beq_iff_eq, decide_eq_true_eq]
  rw [← BitVec.toNat_inj]
  simp only [BitVec.toNat_ofNat, Nat.zero_mod]
  omega
theorem refBelow_bits (X Y : BitVec 64) : refBelowI (X.toNat : Int) (Y.toNat : Int) = decide (X &&& ~~~Y = 0#64) := by
  unfold refBelowI
  rw [Bool.eq_iff_iff]
  simp only [List.all_eq_true, List.mem_range, has_bit, decide_eq_true_eq]
  constructor
  · intro h
    apply BitVec.eq_of_getLsbD_eq
    intro i hi
    have := h i hi
    simp only [BitVec.getLsbD_and, BitVec.getLsbD_not, hi, decide_true, Bool.true_and, BitVec.getLsbD_zero]
    revert this
    cases X.getLsbD i <;> cases Y.getLsbD i <;> simp
  · intro h i hi
    have := congrArg (fun z : BitVec 64 => z.getLsbD i) h
    simp only [BitVec.getLsbD_and, BitVec.getLsbD_not, hi, decide_true, Bool.true_and, BitVec.getLsbD_zero] at this
    revert this
    cases X.getLsbD i <;> cases Y.getLsbD i <;> simp
theorem below_same (x y : Int) (hx : U x) (hy : U y) : belowI x y = refBelowI x y := by
  have e : ∀ z : Int, U z → ((BitVec.ofInt 64 z).toNat : Int) = z := fun z hz => by
    rw [BitVec.toNat_ofInt]; have h0 := hz.1; have h1 := hz.2; simp only [Nat.reducePow]; omega
  rw [← e x hx, ← e y hy, below_bits, refBelow_bits]
end Go.Proofs.Ytjmplababaejaaa
