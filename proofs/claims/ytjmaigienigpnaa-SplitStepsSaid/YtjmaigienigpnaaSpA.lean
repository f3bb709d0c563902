/- Bits and signs of words, by the document. No condition. -/
import Derived.Test.YtjmaigienigpnaaOrdB
import Derived.Test.YtjmaigienigpnaaWoSub
import Derived.Test.YtjmaigienigpnaaRefM
import Derived.Test.YtjmaigienigpnaaSpP
set_option linter.unusedVariables false
set_option linter.unusedSimpArgs false
namespace Go.Proofs.Ytjmaigienigpnaa
open Go.RowKit

theorem bit_of (x : BitVec 256) (i : Nat) (hi : i < 256) : (L x (i / 64) / 2 ^ (i % 64) % 2 == 1) = x.getLsbD i := by
  rw [L_eq]
  have e : (((x.toNat / 2 ^ (64 * (i / 64)) % 2 ^ 64 : Nat) : Int) / 2 ^ (i % 64) % 2 == 1) = ((x.toNat / 2 ^ (64 * (i / 64)) % 2 ^ 64) / 2 ^ (i % 64) % 2 == 1) := by
    rw [Bool.eq_iff_iff, beq_iff_eq, beq_iff_eq]
    have : ((x.toNat / 2 ^ (64 * (i / 64)) % 2 ^ 64 : Nat) : Int) / 2 ^ (i % 64) = ((x.toNat / 2 ^ (64 * (i / 64)) % 2 ^ 64 / 2 ^ (i % 64) : Nat) : Int) := by simp
    rw [this]
    omega
  rw [e]
  have h1 : (x.toNat / 2 ^ (64 * (i / 64)) % 2 ^ 64).testBit (i % 64) = x.getLsbD i := by
    rw [Nat.testBit_mod_two_pow, Nat.testBit_div_two_pow, decide_eq_true (show i % 64 < 64 by omega), Bool.true_and, BitVec.getLsbD]
    congr 1
    omega
  rw [← h1, Nat.testBit_eq_decide_div_mod_eq]
  rw [Bool.eq_iff_iff]
  simp
set_option maxRecDepth 20000 in
set_option maxHeartbeats 2000000 in
theorem refBitW (x : BitVec 256) (i : Nat) (hi : i < 256) (w : World)  : Calls Try.prog 35 #[W x, .int .i64 i] w fun e w' => e = .returned (.bool (x.getLsbD i)) ∧ Below w.heap.size w w' := by
  have hb := bit_of x i hi
  have hwx := wc_at x (show i / 64 < 4 by omega)
  have hc := fun V : World => (Own.new (Own.nil V) (c := wc x) (t := 24) V.heap.size rfl).cell 0 rfl (i / 64)
  have hc2 := (hc w).trans hwx
  have hlo := L_lo x (i / 64)
  have hpn : 0 ≤ L x (i / 64) / 2 ^ (i % 64) := Int.ediv_nonneg hlo (by exact Int.le_of_lt (Int.pow_pos (by decide)))
  have htm := Int.tmod_eq_emod_of_nonneg (b := 2) hpn
  have HTM := Lib.hid htm
  generalize L x (i / 64) = lx at *
  clear hc hwx hpn htm
  go_enter Try.func35, Try.ntmps35
  go_wp2_with fail
  go_ret
  exact ⟨by rw [HTM.out, hb]; rfl, by go_grown⟩
theorem neg_of (x : BitVec 256) : (L x 3 / 9223372036854775808 == 1) = x.getLsbD 255 := by
  have h := bit_of x 255 (by decide)
  rw [← h, show 255 / 64 = 3 from rfl, show 255 % 64 = 63 from rfl, Bool.eq_iff_iff, beq_iff_eq, beq_iff_eq]
  have h1 := L_lo x 3
  have h2 := L_hi x 3
  simp only [Int.reducePow]
  omega
theorem not_of {a : Int} (h0 : 0 ≤ a) (h1 : a < 18446744073709551616) : bits .xor .u64 IntKind.u64.max a = 18446744073709551615 - a := by
  obtain ⟨n, rfl⟩ := Int.eq_ofNat_of_zero_le h0
  show IntKind.u64.wrap ((BitVec.ofInt 64 IntKind.u64.max ^^^ BitVec.ofInt 64 ((n : Nat) : Int)).toNat : Int) = _
  rw [show BitVec.ofInt 64 IntKind.u64.max = BitVec.allOnes 64 by decide, BitVec.ofInt_natCast, BitVec.allOnes_xor, IntWalk.u64_in _ (by have := (~~~BitVec.ofNat 64 n).isLt; omega), BitVec.toNat_not, BitVec.toNat_ofNat]
  simp only [Nat.reducePow]
  omega
theorem L_not (x : BitVec 256) (i : Nat) (hi : i < 4) : 18446744073709551615 - L x i = L (~~~x) i := by
  have h := x.isLt
  have e : (~~~x).toNat = 2 ^ 256 - 1 - x.toNat := BitVec.toNat_not
  rcases (by omega : i = 0 ∨ i = 1 ∨ i = 2 ∨ i = 3) with rfl | rfl | rfl | rfl
  · rw [L0, L0, e]; simp only [Nat.reducePow] at *; omega
  · rw [L1, L1, e]; simp only [Nat.reducePow] at *; omega
  · rw [L2, L2, e]; simp only [Nat.reducePow] at *; omega
  · rw [L3, L3, e]; simp only [Nat.reducePow] at *; omega
theorem sub_not (x y : BitVec 256) : x + ~~~y + 1#256 = x - y := by
  rw [BitVec.sub_eq_add_neg, BitVec.neg_eq_not_add, BitVec.add_assoc]
theorem L_one : L 1#256 0 = 1 ∧ L 1#256 1 = 0 ∧ L 1#256 2 = 0 ∧ L 1#256 3 = 0 := by
  rw [L0, L1, L2, L3]; decide
theorem L_small {n : Nat} (h : n < 18446744073709551616) : L (BitVec.ofNat 256 n) 0 = n ∧ L (BitVec.ofNat 256 n) 1 = 0 ∧ L (BitVec.ofNat 256 n) 2 = 0 ∧ L (BitVec.ofNat 256 n) 3 = 0 := small_parts n h
theorem one_bit (j : Nat) : (1 : Nat).testBit j = decide (0 = j) := by rw [show (1 : Nat) = 2 ^ 0 from rfl, Nat.testBit_two_pow]
theorem lq_or (x : BitVec 256) (b : Bool) (q : Nat) : lq (x ||| (if b then 1#256 else 0#256)) q = lq x q ||| (if q = 0 then b.toNat else 0) := by
  cases b
  · simp
  · unfold lq
    rw [if_pos rfl, BitVec.toNat_or]
    apply Nat.eq_of_testBit_eq
    intro j
    simp only [Nat.testBit_mod_two_pow, Nat.testBit_div_two_pow, Nat.testBit_or]
    by_cases hj : j < 64
    · rw [decide_eq_true hj]
      simp only [Bool.true_and]
      congr 1
      rw [show (1#256 : BitVec 256).toNat = 1 from rfl]
      by_cases hq : q = 0
      · subst hq; simp
      · rw [if_neg hq, Nat.zero_testBit, one_bit]
        simp; omega
    · rw [decide_eq_false hj]
      simp only [Bool.false_and, Bool.false_or]
      split
      · rw [show (true).toNat = 1 from rfl, one_bit]; simp; omega
      · simp
theorem L_dbl (x : BitVec 256) (b : Bool) : bits .or .u64 (L (x + x) 0) (b.toNat : Int) = L (dbl x b) 0 ∧ L (x + x) 1 = L (dbl x b) 1 ∧ L (x + x) 2 = L (dbl x b) 2 ∧ L (x + x) 3 = L (dbl x b) 3 := by
  unfold dbl
  simp only [L_lq, lq_or]
  refine ⟨?_, by simp, by simp, by simp⟩
  rw [if_pos trivial]
  exact bits_or_nat (lq_lt _ _) (by have := Bool.toNat_lt b; omega)
set_option maxRecDepth 20000 in
set_option maxHeartbeats 2000000 in
theorem refNegW (x : BitVec 256) (w : World)  : Calls Try.prog 27 #[W x] w fun e w' => e = .returned (.bool (x.getLsbD 255)) ∧ Below w.heap.size w w' := by
  have HB := Lib.hid (fun V => show Calls Try.prog 35 #[W x, .int .i64 255] V fun e w' => e = .returned (.bool (x.getLsbD 255)) ∧ Below V.heap.size V w' from refBitW x 255 (by decide) V)
  go_enter Try.func27, Try.ntmps27
  go_wp2_with fail
  refine (HB.out _).mono ?_
  rintro e w1 ⟨rfl, hb1⟩
  have O1 := Own.grow' hb1 (Own.new (Own.nil w) (w.heap.size) (by first | rfl | simp))
  try simp only [List.setIfInBounds_toArray, List.set_cons_zero, List.set_cons_succ] at O1
  have bw1 : Below w.heap.size w w1 := Below.trans (by go_grown) (Below.mono hb1 (by first | omega | (simp; done) | (simp; omega)))
  have zw1 := Below.size hb1
  try simp only [World.size_alloc, World.size_drew, World.size_setCell] at zw1
  have c1x0 := Own.cell O1 0 rfl
  have f1x0 := Own.free O1 0 rfl
  have l1x0 := Own.lt O1 0 rfl
  have l1x0d0 := le_up 0 l1x0
  have l1x0d1 := le_up 1 l1x0
  simp only [upN] at l1x0d0 l1x0d1
  have HO1 := Lib.hid O1
  clear O1 hb1
  go_wp2_with fail
  go_ret
  exact ⟨rfl, by go_grown⟩
set_option maxRecDepth 20000 in
set_option maxHeartbeats 2000000 in
theorem negW (x : BitVec 256) (w : World)  : Calls Try.prog 26 #[W x] w fun e w' => e = .returned (.bool (x.getLsbD 255)) ∧ Below w.heap.size w w' := by
  go_enter Try.func26, Try.ntmps26
  go_wp2_with fail
  go_ret
  exact ⟨by rw [neg_of]; rfl, by go_grown⟩
set_option maxRecDepth 20000 in
set_option maxHeartbeats 2000000 in
theorem refNotW (x : BitVec 256) (w : World)  : Calls Try.prog 49 #[W x] w fun e w' => e = .returned (W (~~~x)) ∧ Below w.heap.size w w' := by
  have hn0 := (not_of (L_lo x 0) (L_hi x 0)).trans (L_not x 0 (by decide))
  have hn1 := (not_of (L_lo x 1) (L_hi x 1)).trans (L_not x 1 (by decide))
  have hn2 := (not_of (L_lo x 2) (L_hi x 2)).trans (L_not x 2 (by decide))
  have hn3 := (not_of (L_lo x 3) (L_hi x 3)).trans (L_not x 3 (by decide))
  have hsg : IntKind.u64.signed = false := rfl
  go_enter Try.func49, Try.ntmps49
  go_wp2_with fail
  refine bodyPost_ret (v := W (~~~x)) (by simp [results, Try.results49, go_sem, *]) rfl ?_
  exact ⟨rfl, by go_grown⟩
set_option maxRecDepth 20000 in
set_option maxHeartbeats 2000000 in
theorem refOneW  (w : World)  : Calls Try.prog 17 #[.int .u64 1] w fun e w' => e = .returned (W 1#256) ∧ Below w.heap.size w w' := by
  obtain ⟨o0, o1, o2, o3⟩ := L_one
  go_enter Try.func17, Try.ntmps17
  go_wp2_with fail
  refine bodyPost_ret (v := W 1#256) (by simp [results, Try.results17, go_sem, *]) rfl ?_
  exact ⟨rfl, by go_grown⟩
set_option maxRecDepth 20000 in
set_option maxHeartbeats 2000000 in
theorem refOfW (n : Nat) (hn : n < 18446744073709551616) (w : World)  : Calls Try.prog 17 #[.int .u64 n] w fun e w' => e = .returned (W (BitVec.ofNat 256 n)) ∧ Below w.heap.size w w' := by
  obtain ⟨o0, o1, o2, o3⟩ := L_small hn
  go_enter Try.func17, Try.ntmps17
  go_wp2_with fail
  refine bodyPost_ret (v := W (BitVec.ofNat 256 n)) (by simp [results, Try.results17, go_sem, *]) rfl ?_
  exact ⟨rfl, by go_grown⟩
set_option maxRecDepth 20000 in
set_option maxHeartbeats 2000000 in
theorem refSubW (x y : BitVec 256) (w : World)  : Calls Try.prog 32 #[W x, W y] w fun e w' => e = .returned (W (x - y)) ∧ Below w.heap.size w w' := by
  have HN := Lib.hid (fun V => refNotW y V)
  have HA := Lib.hid (fun V => refAddW x (~~~y) V)
  have HO := Lib.hid (fun V => refOneW V)
  have hs := fun V => refAddW (x + ~~~y) 1#256 V
  rw [sub_not] at hs
  have HS := Lib.hid hs
  clear hs
  go_enter Try.func32, Try.ntmps32
  go_wp2_with fail
  refine wp_region_grow w.heap.size 6 0 0 [(0, 0, 32, 4), (1, 0, 64, 8), (2, 2, 128, 64), (3, 5, 256, 160), (4, 8, 512, 0), (5, 24, 1024, 768), (6, 63, 0, 1040)] [(.p 0, 1), (.p 1, 3), (.p 2, 7), (.p 3, 15), (.p 4, 31), (.p 5, 63)] [(6, 127)] _ (fun p hp => hp) (by first | omega | (simp; done) | (simp; omega)) (by kernel_rfl) (by kernel_rfl) (Own.new (Own.new (Own.new (Own.nil w) (w.heap.size) (by first | rfl | simp)) (w.heap.size + 1) (by simp)) (w.heap.size + 1 + 1) (by simp)) ?_
  refine wpG_pure (i := 0) (v := ?v1x0) rfl rfl (by rfl) (fun w hB hG K hK => ?h1x0) ?_
  case h1x0 =>
    have cx := Own.cell hG 2 rfl
    go_wp2_with fail
    exact hK _ (Below.refl _ _)
  simp only [List.set_cons_zero, List.set_cons_succ]
  refine wpG_pure (i := 1) (v := ?v1x1) rfl rfl (by rfl) (fun w hB hG K hK => ?h1x1) ?_
  case h1x1 =>
    have cx := Own.cell hG 1 rfl
    go_wp2_with fail
    exact hK _ (Below.refl _ _)
  simp only [List.set_cons_zero, List.set_cons_succ]
  refine wpG_pure (i := 2) (v := ?v1x2) rfl rfl (by rfl) (fun w hB hG K hK => ?h1x2) ?_
  case h1x2 =>
    go_wp2_with fail
    refine (HN.out _).mono ?_
    rintro e wx ⟨rfl, hbx⟩
    exact hK _ hbx
  simp only [List.set_cons_zero, List.set_cons_succ]
  refine wpG_pure (i := 3) (v := ?v1x3) rfl rfl (by rfl) (fun w hB hG K hK => ?h1x3) ?_
  case h1x3 =>
    go_wp2_with fail
    refine (HA.out _).mono ?_
    rintro e wx ⟨rfl, hbx⟩
    exact hK _ hbx
  simp only [List.set_cons_zero, List.set_cons_succ]
  refine wpG_pure (i := 4) (v := ?v1x4) rfl rfl (by rfl) (fun w hB hG K hK => ?h1x4) ?_
  case h1x4 =>
    go_wp2_with fail
    refine (HO.out _).mono ?_
    rintro e wx ⟨rfl, hbx⟩
    exact hK _ hbx
  simp only [List.set_cons_zero, List.set_cons_succ]
  refine wpG_pure (i := 5) (v := ?v1x5) rfl rfl (by rfl) (fun w hB hG K hK => ?h1x5) ?_
  case h1x5 =>
    go_wp2_with fail
    refine (HS.out _).mono ?_
    rintro e wx ⟨rfl, hbx⟩
    exact hK _ hbx
  simp only [List.set_cons_zero, List.set_cons_succ]
  refine wpG_nil (fun w1 hb1 hG1 => ?_)
  simp only [List.append_eq, List.cons_append, List.nil_append, List.drop_succ_cons, List.drop_zero, List.drop_nil]
  have O1 := Own.of hG1
  try simp only [List.setIfInBounds_toArray, List.set_cons_zero, List.set_cons_succ] at O1
  have bw1 : Below w.heap.size w w1 := Below.trans (by go_grown) (Below.mono hb1 (by first | omega | (simp; done) | (simp; omega)))
  have zw1 := Below.size hb1
  try simp only [World.size_alloc, World.size_drew, World.size_setCell] at zw1
  have c1x0 := Own.cell O1 0 rfl
  have f1x0 := Own.free O1 0 rfl
  have l1x0 := Own.lt O1 0 rfl
  have l1x0d0 := le_up 0 l1x0
  have l1x0d1 := le_up 1 l1x0
  simp only [upN] at l1x0d0 l1x0d1
  have c1x1 := Own.cell O1 1 rfl
  have f1x1 := Own.free O1 1 rfl
  have l1x1 := Own.lt O1 1 rfl
  have l1x1d0 := le_up 0 l1x1
  have l1x1d1 := le_up 1 l1x1
  simp only [upN] at l1x1d0 l1x1d1
  have c1x2 := Own.cell O1 2 rfl
  have f1x2 := Own.free O1 2 rfl
  have l1x2 := Own.lt O1 2 rfl
  have l1x2d0 := le_up 0 l1x2
  have l1x2d1 := le_up 1 l1x2
  simp only [upN] at l1x2d0 l1x2d1
  have HO1 := Lib.hid O1
  clear O1 hb1
  go_wp2_with fail
  refine bodyPost_ret (v := W (x - y)) (by simp [results, Try.results32, go_sem, *]) rfl ?_
  exact ⟨rfl, by go_grown⟩
end Go.Proofs.Ytjmaigienigpnaa
