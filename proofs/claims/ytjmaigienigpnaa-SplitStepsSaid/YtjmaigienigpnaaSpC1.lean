/- Small ones of package split. No condition. -/
import Derived.Test.YtjmaigienigpnaaSpB
set_option linter.unusedVariables false
set_option linter.unusedSimpArgs false
namespace Go.Proofs.Ytjmaigienigpnaa
open Go.RowKit

/-- A part of a wide number. -/
@[irreducible] def L8 (n q : Nat) : Int := ((n / 2 ^ (64 * q) % 2 ^ 64 : Nat) : Int)
theorem L8_eq (n q : Nat) : L8 n q = ((n / 2 ^ (64 * q) % 2 ^ 64 : Nat) : Int) := by unfold L8; rfl
theorem L8_lo (n q : Nat) : 0 ≤ L8 n q := by rw [L8_eq]; omega
theorem L8_hi (n q : Nat) : L8 n q < 18446744073709551616 := by rw [L8_eq]; omega
abbrev wd8 (n : Nat) : Array Value := #[.int .u64 (L8 n 0), .int .u64 (L8 n 1), .int .u64 (L8 n 2), .int .u64 (L8 n 3), .int .u64 (L8 n 4), .int .u64 (L8 n 5), .int .u64 (L8 n 6), .int .u64 (L8 n 7)]
theorem wd8_at (n : Nat) {q : Nat} (h : q < 8) : (wd8 n)[q]? = some (.int .u64 (L8 n q)) := by
  rcases (by omega : q = 0 ∨ q = 1 ∨ q = 2 ∨ q = 3 ∨ q = 4 ∨ q = 5 ∨ q = 6 ∨ q = 7) with rfl | rfl | rfl | rfl | rfl | rfl | rfl | rfl <;> rfl
theorem and_one {a : Int} (h0 : 0 ≤ a) (h1 : a < 18446744073709551616) : bits .and .u64 a 1 = a % 2 := by
  obtain ⟨n, rfl⟩ := Int.eq_ofNat_of_zero_le h0
  show IntKind.u64.wrap ((BitVec.ofInt 64 ((n : Nat) : Int) &&& BitVec.ofInt 64 1).toNat : Int) = _
  rw [BitVec.ofInt_natCast, show BitVec.ofInt 64 1 = 1#64 from rfl, IntWalk.u64_in _ (by have := (BitVec.ofNat 64 n &&& 1#64).isLt; omega), BitVec.toNat_and, BitVec.toNat_ofNat, Nat.mod_eq_of_lt (by omega), show (1#64 : BitVec 64).toNat = 1 from rfl, Nat.and_one_is_mod]
  omega
theorem bit8 (n j : Nat) : bits .and .u64 (L8 n (j / 64) / 2 ^ (j % 64)) 1 = (((n.testBit j).toNat : Nat) : Int) := by
  have h0 : 0 ≤ L8 n (j / 64) / 2 ^ (j % 64) := Int.ediv_nonneg (L8_lo _ _) (Int.le_of_lt (Int.pow_pos (by decide)))
  have h1 : L8 n (j / 64) / 2 ^ (j % 64) < 18446744073709551616 := by
    refine Int.lt_of_le_of_lt (Int.ediv_le_self _ (L8_lo _ _)) (L8_hi _ _)
  rw [and_one h0 h1, L8_eq]
  have e : ((n / 2 ^ (64 * (j / 64)) % 2 ^ 64 : Nat) : Int) / 2 ^ (j % 64) % 2 = ((n / 2 ^ (64 * (j / 64)) % 2 ^ 64 / 2 ^ (j % 64) % 2 : Nat) : Int) := by simp
  rw [e]
  congr 1
  have h2 : (n / 2 ^ (64 * (j / 64)) % 2 ^ 64).testBit (j % 64) = n.testBit j := by
    rw [Nat.testBit_mod_two_pow, Nat.testBit_div_two_pow, decide_eq_true (show j % 64 < 64 by omega), Bool.true_and]
    congr 1
    omega
  rw [← h2, Nat.testBit_eq_decide_div_mod_eq]
  generalize n / 2 ^ (64 * (j / 64)) % 2 ^ 64 / 2 ^ (j % 64) = v
  rcases (by omega : v % 2 = 0 ∨ v % 2 = 1) with h | h <;> rw [h] <;> rfl
theorem L8_word (x : BitVec 256) : wd8 x.toNat = #[.int .u64 (L x 0), .int .u64 (L x 1), .int .u64 (L x 2), .int .u64 (L x 3), .int .u64 0, .int .u64 0, .int .u64 0, .int .u64 0] := by
  unfold wd8
  have h := x.isLt
  have e : ∀ q, q < 4 → L8 x.toNat q = L x q := fun q _ => by rw [L8_eq, L_eq]
  have z : ∀ q, 4 ≤ q → L8 x.toNat q = 0 := fun q hq => by
    rw [L8_eq, Nat.div_eq_of_lt (Nat.lt_of_lt_of_le h (Nat.pow_le_pow_right (by decide) (by omega)))]
    rfl
  rw [e 0 (by omega), e 1 (by omega), e 2 (by omega), e 3 (by omega), z 4 (by omega), z 5 (by omega), z 6 (by omega), z 7 (by omega)]
set_option maxRecDepth 20000 in
set_option maxHeartbeats 2000000 in
theorem noneW (x y : BitVec 256) (w : World)  : Calls Try.prog 52 #[.agg #[.int .u64 (L x 0), .int .u64 (L x 1), .int .u64 (L x 2), .int .u64 (L x 3), .int .u64 (L y 0), .int .u64 (L y 1), .int .u64 (L y 2), .int .u64 (L y 3)]] w fun e w' => e = .returned (.bool (decide (y = 0#256))) ∧ Below w.heap.size w w' := by
  have hq := eqZ y
  go_enter Try.func52, Try.ntmps52
  go_wp2_with fail
  go_ret
  exact ⟨rfl, by go_grown⟩
set_option maxRecDepth 20000 in
set_option maxHeartbeats 2000000 in
theorem rest1W (x : BitVec 256) (b : Bool) (w : World)  : Calls Try.prog 53 #[W x, .int .u64 (b.toNat : Nat)] w fun e w' => e = .returned (.tuple #[W (dbl x b), .bool (x.getLsbD 255)]) ∧ Below w.heap.size w w' := by
  have HA := Lib.hid (fun sb V (h : Blk V sb #[.int .u64 (L x 0), .int .u64 (L x 1), .int .u64 (L x 2), .int .u64 (L x 3), .int .u64 (L x 0), .int .u64 (L x 1), .int .u64 (L x 2), .int .u64 (L x 3)] 24) => add_any x x sb _ V h)
  obtain ⟨hor, h1, h2, h3⟩ := L_dbl x b
  obtain ⟨e, he⟩ : ∃ e, e = dbl x b := ⟨_, rfl⟩
  rw [← he] at hor h1 h2 h3 ⊢
  generalize ((b.toNat : Nat) : Int) = c at *
  clear he
  go_enter Try.func53, Try.ntmps53
  go_wp2_with fail
  refine (HA.out _ _ (Own.get (Own.new (Own.new (Own.new (Own.nil w) (w.heap.size) (by first | rfl | simp)) (w.heap.size + 1) (by simp)) (w.heap.size + 1 + 1) (by simp)) 0 rfl)).mono ?_
  rintro e w1 ⟨rfl, hb1⟩
  have O1 := Own.grow' hb1 (Own.new (Own.new (Own.new (Own.nil w) (w.heap.size) (by first | rfl | simp)) (w.heap.size + 1) (by simp)) (w.heap.size + 1 + 1) (by simp))
  try simp only [List.setIfInBounds_toArray, List.set_cons_zero, List.set_cons_succ] at O1
  have bw1 : Below w.heap.size w w1 := Below.trans (by go_grown) (Below.mono hb1 (by first | omega | (simp; done) | (simp; omega)))
  have zw1 := Below.size hb1
  try simp only [World.size_alloc, World.size_drew, World.size_setCell] at zw1
  have c1x0 := Own.cell O1 0 rfl
  have f1x0 := Own.free O1 0 rfl
  have l1x0 := Own.lt O1 0 rfl
  have l1x0d0 := le_up 0 l1x0
  have l1x0d1 := le_up 1 l1x0
  simp only [upN] at l1x0d0 l1x0d1
  have c1x1 := Own.cell O1 1 rfl
  have f1x1 := Own.free O1 1 rfl
  have l1x1 := Own.lt O1 1 rfl
  have l1x1d0 := le_up 0 l1x1
  have l1x1d1 := le_up 1 l1x1
  simp only [upN] at l1x1d0 l1x1d1
  have c1x2 := Own.cell O1 2 rfl
  have f1x2 := Own.free O1 2 rfl
  have l1x2 := Own.lt O1 2 rfl
  have l1x2d0 := le_up 0 l1x2
  have l1x2d1 := le_up 1 l1x2
  simp only [upN] at l1x2d0 l1x2d1
  have HO1 := Lib.hid O1
  clear O1 hb1
  go_upto_region 3 with (fail)
  refine wp_name fun wn3 hwn3 => ?_
  have hOwn3 := (show Own _ wn3 by rw [hwn3]; exact (Own.set (Own.set (Own.set (Own.set HO1.out 2 rfl (Ne1.cons (by first | omega | (simp; omega)) (Ne1.cons (by first | omega | (simp; omega)) Ne1.nil))) 2 rfl (Ne1.cons (by first | omega | (simp; omega)) (Ne1.cons (by first | omega | (simp; omega)) Ne1.nil))) 2 rfl (Ne1.cons (by first | omega | (simp; omega)) (Ne1.cons (by first | omega | (simp; omega)) Ne1.nil))) 2 rfl (Ne1.cons (by first | omega | (simp; omega)) (Ne1.cons (by first | omega | (simp; omega)) Ne1.nil))))
  try simp only [List.setIfInBounds_toArray, List.set_cons_zero, List.set_cons_succ] at hOwn3
  have hBwn3 : Below w.heap.size w wn3 := by rw [hwn3]; go_grown
  clear hwn3
  have bw2 := hBwn3
  clear c1x0 f1x0 l1x0 l1x0d0 l1x0d1 c1x1 f1x1 l1x1 l1x1d0 l1x1d1 c1x2 f1x2 l1x2 l1x2d0 l1x2d1
  have O2 := hOwn3
  have c2x0 := Own.cell O2 0 rfl
  have f2x0 := Own.free O2 0 rfl
  have l2x0 := Own.lt O2 0 rfl
  have l2x0d0 := le_up 0 l2x0
  have l2x0d1 := le_up 1 l2x0
  simp only [upN] at l2x0d0 l2x0d1
  have c2x1 := Own.cell O2 1 rfl
  have f2x1 := Own.free O2 1 rfl
  have l2x1 := Own.lt O2 1 rfl
  have l2x1d0 := le_up 0 l2x1
  have l2x1d1 := le_up 1 l2x1
  simp only [upN] at l2x1d0 l2x1d1
  have c2x2 := Own.cell O2 2 rfl
  have f2x2 := Own.free O2 2 rfl
  have l2x2 := Own.lt O2 2 rfl
  have l2x2d0 := le_up 0 l2x2
  have l2x2d1 := le_up 1 l2x2
  simp only [upN] at l2x2d0 l2x2d1
  have HO2 := Lib.hid O2
  clear O2
  go_upto_region 4 with (fail)
  refine wp_name fun wn4 hwn4 => ?_
  have hOwn4 := (show Own _ wn4 by rw [hwn4]; exact (Own.set HO2.out 2 rfl (Ne1.cons (by first | omega | (simp; omega)) (Ne1.cons (by first | omega | (simp; omega)) Ne1.nil))))
  try simp only [List.setIfInBounds_toArray, List.set_cons_zero, List.set_cons_succ] at hOwn4
  have hBwn4 : Below w.heap.size w wn4 := by rw [hwn4]; go_grown
  clear hwn4
  have bw3 := hBwn4
  clear c2x0 f2x0 l2x0 l2x0d0 l2x0d1 c2x1 f2x1 l2x1 l2x1d0 l2x1d1 c2x2 f2x2 l2x2 l2x2d0 l2x2d1
  have O3 := hOwn4
  have c3x0 := Own.cell O3 0 rfl
  have f3x0 := Own.free O3 0 rfl
  have l3x0 := Own.lt O3 0 rfl
  have l3x0d0 := le_up 0 l3x0
  have l3x0d1 := le_up 1 l3x0
  simp only [upN] at l3x0d0 l3x0d1
  have c3x1 := Own.cell O3 1 rfl
  have f3x1 := Own.free O3 1 rfl
  have l3x1 := Own.lt O3 1 rfl
  have l3x1d0 := le_up 0 l3x1
  have l3x1d1 := le_up 1 l3x1
  simp only [upN] at l3x1d0 l3x1d1
  have c3x2 := Own.cell O3 2 rfl
  have f3x2 := Own.free O3 2 rfl
  have l3x2 := Own.lt O3 2 rfl
  have l3x2d0 := le_up 0 l3x2
  have l3x2d1 := le_up 1 l3x2
  simp only [upN] at l3x2d0 l3x2d1
  have HO3 := Lib.hid O3
  clear O3
  go_wp2_with fail
  refine bodyPost_ret (v := .tuple #[W e, .bool (L x 3 / 9223372036854775808 == 1)]) (by simp [results, Try.results53, go_sem, *]) rfl ?_
  exact ⟨by rw [neg_of], by go_grown⟩
theorem rest1Z (x : BitVec 256) (w : World) : Calls Try.prog 53 #[W x, .int .u64 0] w fun e w' => e = .returned (.tuple #[W (dbl x false), .bool (x.getLsbD 255)]) ∧ Below w.heap.size w w' := rest1W x false w
set_option maxRecDepth 20000 in
set_option maxHeartbeats 2000000 in
theorem turned_true (x : BitVec 256) (w : World)  : Calls Try.prog 44 #[W x, .bool true] w fun e w' => e = .returned (W (0#256 - x)) ∧ Below w.heap.size w w' := by
  have HS := Lib.hid (fun V => show Calls Try.prog 55 #[.agg #[.int .u64 0, .int .u64 0, .int .u64 0, .int .u64 0], W x] V fun e w' => e = .returned (W (0#256 - x)) ∧ Below V.heap.size V w' by rw [← W_zero]; exact subW_any 0#256 x V)
  go_enter Try.func44, Try.ntmps44
  go_wp2_with fail
  refine (HS.out _).mono ?_
  rintro e w1 ⟨rfl, hb1⟩
  have O1 := Own.grow' hb1 (Own.new (Own.new (Own.nil w) (w.heap.size) (by first | rfl | simp)) (w.heap.size + 1) (by simp))
  try simp only [List.setIfInBounds_toArray, List.set_cons_zero, List.set_cons_succ] at O1
  have bw1 : Below w.heap.size w w1 := Below.trans (by go_grown) (Below.mono hb1 (by first | omega | (simp; done) | (simp; omega)))
  have zw1 := Below.size hb1
  try simp only [World.size_alloc, World.size_drew, World.size_setCell] at zw1
  have c1x0 := Own.cell O1 0 rfl
  have f1x0 := Own.free O1 0 rfl
  have l1x0 := Own.lt O1 0 rfl
  have l1x0d0 := le_up 0 l1x0
  have l1x0d1 := le_up 1 l1x0
  simp only [upN] at l1x0d0 l1x0d1
  have c1x1 := Own.cell O1 1 rfl
  have f1x1 := Own.free O1 1 rfl
  have l1x1 := Own.lt O1 1 rfl
  have l1x1d0 := le_up 0 l1x1
  have l1x1d1 := le_up 1 l1x1
  simp only [upN] at l1x1d0 l1x1d1
  have HO1 := Lib.hid O1
  clear O1 hb1
  go_wp2_with fail
  refine bodyPost_ret (v := W (0#256 - x)) (by simp [results, Try.results44, go_sem, *]) rfl ?_
  exact ⟨rfl, by go_grown⟩
set_option maxRecDepth 20000 in
set_option maxHeartbeats 2000000 in
theorem turned_false (x : BitVec 256) (w : World)  : Calls Try.prog 44 #[W x, .bool false] w fun e w' => e = .returned (W x) ∧ Below w.heap.size w w' := by
  have HS := Lib.hid (fun V => show Calls Try.prog 55 #[.agg #[.int .u64 0, .int .u64 0, .int .u64 0, .int .u64 0], W x] V fun e w' => e = .returned (W (0#256 - x)) ∧ Below V.heap.size V w' by rw [← W_zero]; exact subW_any 0#256 x V)
  go_enter Try.func44, Try.ntmps44
  go_wp2_with fail
  refine bodyPost_ret (v := W x) (by simp [results, Try.results44, go_sem, *]) rfl ?_
  exact ⟨rfl, by go_grown⟩
theorem turnedW (x : BitVec 256) (b : Bool) (w : World) : Calls Try.prog 44 #[W x, .bool b] w fun e w' => e = .returned (W (if b then 0#256 - x else x)) ∧ Below w.heap.size w w' := by
  cases b
  · exact turned_false x w
  · exact turned_true x w
end Go.Proofs.Ytjmaigienigpnaa
