/- What is left of sums and products. No condition. -/
import Derived.Test.YtjmaigienigpnaaSpM
import Derived.Test.YtjmaigienigpnaaSpS
import Derived.Test.YtjmaigienigpnaaSpD
set_option linter.unusedVariables false
set_option linter.unusedSimpArgs false
namespace Go.Proofs.Ytjmaigienigpnaa
open Go.RowKit

def addMW (a b m : BitVec 256) : BitVec 256 := if m = 0#256 then 0#256 else BitVec.ofNat 256 ((a.toNat + b.toNat) % m.toNat)
def mulMW (a b m : BitVec 256) : BitVec 256 := if m = 0#256 then 0#256 else BitVec.ofNat 256 (a.toNat * b.toNat % m.toNat)
theorem remN_zero (n : Nat) (m : BitVec 256) : remN n m 0 = BitVec.ofNat 256 (n % m.toNat) := by unfold remN; rw [Nat.pow_zero, Nat.div_one]
theorem addM_W (a b m : BitVec 256) (h : ¬ m = 0#256) : addM (a % m) (b % m) m = addMW a b m := by
  unfold addMW; rw [if_neg h, addM_mod (pos_of_ne h)]
theorem mulM_end (a b m : BitVec 256) (h : ¬ m = 0#256) : mulMn a b m 0 = mulMW a b m := by
  unfold mulMW mulMn; rw [if_neg h, Nat.pow_zero, Nat.div_one]
theorem prod_up {a b n m : Nat} (h1 : a < 2 ^ n) (h2 : b < 2 ^ n) (hm : m = n + n) : a * b < 2 ^ m := by
  subst hm
  rw [Nat.pow_add]
  exact Nat.mul_lt_mul_of_lt_of_le h1 (Nat.le_of_lt h2) (Nat.pow_pos (by decide))
theorem sum_up {a b n m : Nat} (h1 : a < 2 ^ n) (h2 : b < 2 ^ n) (hm : n < m) : a + b < 2 ^ m := by
  have h3 := Nat.pow_le_pow_right (show 0 < 2 by decide) (show n + 1 ≤ m from hm)
  rw [Nat.pow_succ] at h3
  omega
theorem bd_prod (a b : BitVec 256) : a.toNat * b.toNat < 2 ^ 512 := prod_up (n := 256) (m := 512) a.isLt b.isLt rfl
theorem bd_sum (a b : BitVec 256) : a.toNat + b.toNat < 2 ^ 512 := sum_up (n := 256) (m := 512) a.isLt b.isLt (by decide)
theorem restM (m : BitVec 256) (n : Nat) (hn : n < 2 ^ 512) (w : World) : Calls Try.prog 39 #[.agg #[.int .u64 0, .int .u64 0, .int .u64 0, .int .u64 0, .int .u64 (L m 0), .int .u64 (L m 1), .int .u64 (L m 2), .int .u64 (L m 3)], .agg (wd8 n)] w fun e w' => e = .returned (.tuple #[W (if m = 0#256 then 0#256 else quoN n m 0), W (if m = 0#256 then 0#256 else BitVec.ofNat 256 (n % m.toNat))]) ∧ Below w.heap.size w w' := by
  have h := restW 0#256 m n hn w
  rw [L_zero, L_zero, L_zero, L_zero, remN_zero] at h
  exact h
set_option maxRecDepth 20000 in
set_option maxHeartbeats 2000000 in
theorem left_sum (x y m : BitVec 256) (w : World)  : Calls Try.prog 30 #[.agg #[.int .u64 (L x 0), .int .u64 (L x 1), .int .u64 (L x 2), .int .u64 (L x 3), .int .u64 (L y 0), .int .u64 (L y 1), .int .u64 (L y 2), .int .u64 (L y 3)], .func (.func 31) #[] #[], W m] w fun e w' => e = .returned (W (addMW x y m)) ∧ Below w.heap.size w w' := by
  have hs := fun V => sumP_any x y V
  have hr := fun V => restM m (x.toNat + y.toNat) (bd_sum x y) V
  rw [show W (addMW x y m) = W (if m = 0#256 then 0#256 else BitVec.ofNat 256 ((x.toNat + y.toNat) % m.toNat)) from rfl]
  generalize (if m = 0#256 then 0#256 else BitVec.ofNat 256 ((x.toNat + y.toNat) % m.toNat)) = r0 at *
  generalize (if m = 0#256 then 0#256 else quoN (x.toNat + y.toNat) m 0) = q0 at *
  generalize wd8 (x.toNat + y.toNat) = w8 at *
  have HS := Lib.hid hs
  have HR := Lib.hid hr
  clear hs hr
  go_enter Try.func30, Try.ntmps30
  go_wp2_with fail
  refine wp_region_grow w.heap.size 14 12288 3072 [(0, 0, 1024, 32), (1, 1, 2048, 1024), (2, 2, 4096, 2048), (3, 0, 8192, 2), (4, 0, 16384, 8), (5, 24, 32768, 24576), (6, 36, 65536, 36864), (7, 64, 512, 65536), (8, 128, 131072, 512), (9, 128, 262144, 512), (10, 0, 128, 0), (11, 0, 256, 0), (12, 3583, 0, 131200), (13, 8191, 0, 262400)] [(.p 0, 1), (.p 1, 3), (.p 2, 7), (.p 3, 15), (.p 4, 31), (.p 5, 63), (.p 6, 127), (.p 7, 255), (.p 8, 511), (.p 9, 1023), (.gg 10 11, 4095), (.c 12, 8191), (.c 13, 16383)] [] _ (fun p hp => hp) (by first | omega | (simp; done) | (simp; omega)) (by kernel_rfl) (by kernel_rfl) (Own.new (Own.new (Own.new (Own.nil w) (w.heap.size) (by first | rfl | simp)) (w.heap.size + 1) (by simp)) (w.heap.size + 1 + 1) (by simp)) ?_
  refine wpG_pure (i := 0) (v := ?v1x0) rfl rfl (by rfl) (fun w hB hG K hK => ?h1x0) ?_
  case h1x0 =>
    have cx := Own.cell hG 1 rfl
    go_wp2_with fail
    exact hK _ (Below.refl _ _)
  simp only [List.set_cons_zero, List.set_cons_succ]
  refine wpG_pure (i := 1) (v := ?v1x1) rfl rfl (by rfl) (fun w hB hG K hK => ?h1x1) ?_
  case h1x1 =>
    go_wp2_with fail
    exact hK _ (Below.refl _ _)
  simp only [List.set_cons_zero, List.set_cons_succ]
  refine wpG_pure (i := 2) (v := ?v1x2) rfl rfl (by rfl) (fun w hB hG K hK => ?h1x2) ?_
  case h1x2 =>
    go_wp2_with fail
    exact hK _ (Below.refl _ _)
  simp only [List.set_cons_zero, List.set_cons_succ]
  refine wpG_move (i := 3) rfl rfl rfl (by rfl) rfl ?_
  simp only [List.set_cons_zero, List.set_cons_succ]
  refine wpG_pure (i := 4) (v := ?v1x4) rfl rfl (by rfl) (fun w hB hG K hK => ?h1x4) ?_
  case h1x4 =>
    have cx := Own.cell hG 2 rfl
    go_wp2_with fail
    exact hK _ (Below.refl _ _)
  simp only [List.set_cons_zero, List.set_cons_succ]
  refine wpG_pure (i := 5) (v := ?v1x5) rfl rfl (by rfl) (fun w hB hG K hK => ?h1x5) ?_
  case h1x5 =>
    go_wp2_with fail
    refine (HS.out _).mono ?_
    rintro e wx ⟨rfl, hbx⟩
    exact hK _ hbx
  simp only [List.set_cons_zero, List.set_cons_succ]
  refine wpG_pure (i := 6) (v := ?v1x6) rfl rfl (by rfl) (fun w hB hG K hK => ?h1x6) ?_
  case h1x6 =>
    go_wp2_with fail
    refine (HR.out _).mono ?_
    rintro e wx ⟨rfl, hbx⟩
    exact hK _ hbx
  simp only [List.set_cons_zero, List.set_cons_succ]
  refine wpG_move (i := 7) rfl rfl rfl (by rfl) rfl ?_
  simp only [List.set_cons_zero, List.set_cons_succ]
  refine wpG_pure (i := 8) (v := ?v1x8) rfl rfl (by rfl) (fun w hB hG K hK => ?h1x8) ?_
  case h1x8 =>
    go_wp2_with fail
    exact hK _ (Below.refl _ _)
  simp only [List.set_cons_zero, List.set_cons_succ]
  refine wpG_pure (i := 9) (v := ?v1x9) rfl rfl (by rfl) (fun w hB hG K hK => ?h1x9) ?_
  case h1x9 =>
    go_wp2_with fail
    exact hK _ (Below.refl _ _)
  simp only [List.set_cons_zero, List.set_cons_succ]
  refine wpG_pair (i := 10) (j := 11) (c := ?c1x10) (t := ?t1x10) (c2 := ?c1x11) (t2 := ?t1x11) (fun b => .pointer (some ⟨b, 0, none⟩)) (fun b => .pointer (some ⟨b, 0, none⟩)) rfl rfl rfl rfl (by rfl) (by rfl) (fun w hB hG K hK => ?h1x10) (fun w hB hG K hK => ?h1x11) (fun v1g1 v1g2 l1g1 l1g2 n1g1 _ _ => ?_)
  case h1x10 =>
    go_wp2_with fail
    exact hK
  case h1x11 =>
    go_wp2_with fail
    exact hK
  simp only [List.set_cons_zero, List.set_cons_succ]
  try simp only [World.size_alloc, World.size_drew, World.size_setCell] at l1g1
  try simp only [World.size_alloc, World.size_drew, World.size_setCell] at l1g2
  refine wpG_store (i := 12) (c' := ?c1x12) 1 rfl (Ne1.cons (by first | omega | (simp; omega)) (Ne1.cons (by first | omega | (simp; omega)) (Ne1.cons (by first | omega | (simp; omega)) (Ne1.cons (by first | omega | (simp; omega)) Ne1.nil)))) (by first | omega | (simp; omega)) (fun p hp => List.mem_cons_of_mem _ (List.mem_cons_of_mem _ (hp))) rfl rfl (by rfl) (fun w hB hF hG K hK => ?h1x12) ?_
  case h1x12 =>
    have cx := hF.cell
    have fx := hF.free
    go_wp2_with fail
    refine hK _ (Same.set (Same.set (Same.set (Same.set (Same.refl _ _) _ _) _ _) _ _) _ _) ?_
    exact (Blk.set (Blk.set (Blk.set (Blk.set hF _ _) _ _) _ _) _ _)
  simp only [List.set_cons_zero, List.set_cons_succ, List.setIfInBounds_toArray]
  refine wpG_store (i := 13) (c' := ?c1x13) 0 rfl (Ne1.cons (by first | omega | (simp; omega)) (Ne1.cons (by first | omega | (simp; omega)) (Ne1.cons (by first | omega | (simp; omega)) (Ne1.cons (by first | omega | (simp; omega)) Ne1.nil)))) (by first | omega | (simp; omega)) (fun p hp => List.mem_cons_of_mem _ (List.mem_cons_of_mem _ (hp))) rfl rfl (by rfl) (fun w hB hF hG K hK => ?h1x13) ?_
  case h1x13 =>
    have cx := hF.cell
    have fx := hF.free
    go_wp2_with fail
    refine hK _ (Same.set (Same.set (Same.set (Same.set (Same.refl _ _) _ _) _ _) _ _) _ _) ?_
    exact (Blk.set (Blk.set (Blk.set (Blk.set hF _ _) _ _) _ _) _ _)
  simp only [List.set_cons_zero, List.set_cons_succ, List.setIfInBounds_toArray]
  refine wpG_nil (fun w1 hb1 hG1 => ?_)
  simp only [List.append_eq, List.cons_append, List.nil_append, List.drop_succ_cons, List.drop_zero, List.drop_nil]
  have u1g1 := Own.lt hG1 1 rfl
  have u1g2 := Own.lt hG1 0 rfl
  have O1 := Own.of hG1
  try simp only [List.setIfInBounds_toArray, List.set_cons_zero, List.set_cons_succ] at O1
  have bw1 : Below w.heap.size w w1 := Below.trans (by go_grown) (Below.mono hb1 (by first | omega | (simp; done) | (simp; omega)))
  have zw1 := Below.size hb1
  try simp only [World.size_alloc, World.size_drew, World.size_setCell] at zw1
  have c1x0 := Own.cell O1 0 rfl
  have f1x0 := Own.free O1 0 rfl
  have l1x0 := Own.lt O1 0 rfl
  have l1x0d0 := le_up 0 l1x0
  have l1x0d1 := le_up 1 l1x0
  simp only [upN] at l1x0d0 l1x0d1
  have c1x1 := Own.cell O1 1 rfl
  have f1x1 := Own.free O1 1 rfl
  have l1x1 := Own.lt O1 1 rfl
  have l1x1d0 := le_up 0 l1x1
  have l1x1d1 := le_up 1 l1x1
  simp only [upN] at l1x1d0 l1x1d1
  have c1x2 := Own.cell O1 2 rfl
  have f1x2 := Own.free O1 2 rfl
  have l1x2 := Own.lt O1 2 rfl
  have l1x2d0 := le_up 0 l1x2
  have l1x2d1 := le_up 1 l1x2
  simp only [upN] at l1x2d0 l1x2d1
  have c1x3 := Own.cell O1 3 rfl
  have f1x3 := Own.free O1 3 rfl
  have l1x3 := Own.lt O1 3 rfl
  have l1x3d0 := le_up 0 l1x3
  have l1x3d1 := le_up 1 l1x3
  simp only [upN] at l1x3d0 l1x3d1
  have c1x4 := Own.cell O1 4 rfl
  have f1x4 := Own.free O1 4 rfl
  have l1x4 := Own.lt O1 4 rfl
  have l1x4d0 := le_up 0 l1x4
  have l1x4d1 := le_up 1 l1x4
  simp only [upN] at l1x4d0 l1x4d1
  have HO1 := Lib.hid O1
  clear O1 hb1
  go_wp2_with fail
  refine bodyPost_ret (v := W r0) (by simp [results, Try.results30, go_sem, *]) rfl ?_
  exact ⟨rfl, by go_grown⟩
set_option maxRecDepth 20000 in
set_option maxHeartbeats 2000000 in
theorem addmod_any (a b m : BitVec 256) (w : World)  : Calls Try.prog 8 #[W a, W b, W m] w fun e w' => e = .returned (W (addMW a b m)) ∧ Below w.heap.size w w' := by
  have HL := Lib.hid (fun V => left_sum a b m V)
  go_enter Try.func8, Try.ntmps8
  go_wp2_with fail
  refine (HL.out _).mono ?_
  rintro e w1 ⟨rfl, hb1⟩
  have O1 := Own.grow' hb1 (Own.new (Own.new (Own.new (Own.new (Own.nil w) (w.heap.size) (by first | rfl | simp)) (w.heap.size + 1) (by simp)) (w.heap.size + 1 + 1) (by simp)) (w.heap.size + 1 + 1 + 1) (by simp))
  try simp only [List.setIfInBounds_toArray, List.set_cons_zero, List.set_cons_succ] at O1
  have bw1 : Below w.heap.size w w1 := Below.trans (by go_grown) (Below.mono hb1 (by first | omega | (simp; done) | (simp; omega)))
  have zw1 := Below.size hb1
  try simp only [World.size_alloc, World.size_drew, World.size_setCell] at zw1
  have c1x0 := Own.cell O1 0 rfl
  have f1x0 := Own.free O1 0 rfl
  have l1x0 := Own.lt O1 0 rfl
  have l1x0d0 := le_up 0 l1x0
  have l1x0d1 := le_up 1 l1x0
  simp only [upN] at l1x0d0 l1x0d1
  have c1x1 := Own.cell O1 1 rfl
  have f1x1 := Own.free O1 1 rfl
  have l1x1 := Own.lt O1 1 rfl
  have l1x1d0 := le_up 0 l1x1
  have l1x1d1 := le_up 1 l1x1
  simp only [upN] at l1x1d0 l1x1d1
  have c1x2 := Own.cell O1 2 rfl
  have f1x2 := Own.free O1 2 rfl
  have l1x2 := Own.lt O1 2 rfl
  have l1x2d0 := le_up 0 l1x2
  have l1x2d1 := le_up 1 l1x2
  simp only [upN] at l1x2d0 l1x2d1
  have c1x3 := Own.cell O1 3 rfl
  have f1x3 := Own.free O1 3 rfl
  have l1x3 := Own.lt O1 3 rfl
  have l1x3d0 := le_up 0 l1x3
  have l1x3d1 := le_up 1 l1x3
  simp only [upN] at l1x3d0 l1x3d1
  have HO1 := Lib.hid O1
  clear O1 hb1
  go_wp2_with fail
  refine bodyPost_ret (v := W (addMW a b m)) (by simp [results, Try.results8, go_sem, *]) rfl ?_
  exact ⟨rfl, by go_grown⟩
set_option maxRecDepth 20000 in
set_option maxHeartbeats 2000000 in
theorem left_prod (x y m : BitVec 256) (w : World)  : Calls Try.prog 30 #[.agg #[.int .u64 (L x 0), .int .u64 (L x 1), .int .u64 (L x 2), .int .u64 (L x 3), .int .u64 (L y 0), .int .u64 (L y 1), .int .u64 (L y 2), .int .u64 (L y 3)], .func (.func 33) #[] #[], W m] w fun e w' => e = .returned (W (mulMW x y m)) ∧ Below w.heap.size w w' := by
  have hs := fun V => prodP_any x y V
  have hr := fun V => restM m (x.toNat * y.toNat) (bd_prod x y) V
  rw [show W (mulMW x y m) = W (if m = 0#256 then 0#256 else BitVec.ofNat 256 ((x.toNat * y.toNat) % m.toNat)) from rfl]
  generalize (if m = 0#256 then 0#256 else BitVec.ofNat 256 ((x.toNat * y.toNat) % m.toNat)) = r0 at *
  generalize (if m = 0#256 then 0#256 else quoN (x.toNat * y.toNat) m 0) = q0 at *
  generalize wd8 (x.toNat * y.toNat) = w8 at *
  have HS := Lib.hid hs
  have HR := Lib.hid hr
  clear hs hr
  go_enter Try.func30, Try.ntmps30
  go_wp2_with fail
  refine wp_region_grow w.heap.size 14 12288 3072 [(0, 0, 1024, 32), (1, 1, 2048, 1024), (2, 2, 4096, 2048), (3, 0, 8192, 2), (4, 0, 16384, 8), (5, 24, 32768, 24576), (6, 36, 65536, 36864), (7, 64, 512, 65536), (8, 128, 131072, 512), (9, 128, 262144, 512), (10, 0, 128, 0), (11, 0, 256, 0), (12, 3583, 0, 131200), (13, 8191, 0, 262400)] [(.p 0, 1), (.p 1, 3), (.p 2, 7), (.p 3, 15), (.p 4, 31), (.p 5, 63), (.p 6, 127), (.p 7, 255), (.p 8, 511), (.p 9, 1023), (.gg 10 11, 4095), (.c 12, 8191), (.c 13, 16383)] [] _ (fun p hp => hp) (by first | omega | (simp; done) | (simp; omega)) (by kernel_rfl) (by kernel_rfl) (Own.new (Own.new (Own.new (Own.nil w) (w.heap.size) (by first | rfl | simp)) (w.heap.size + 1) (by simp)) (w.heap.size + 1 + 1) (by simp)) ?_
  refine wpG_pure (i := 0) (v := ?v1x0) rfl rfl (by rfl) (fun w hB hG K hK => ?h1x0) ?_
  case h1x0 =>
    have cx := Own.cell hG 1 rfl
    go_wp2_with fail
    exact hK _ (Below.refl _ _)
  simp only [List.set_cons_zero, List.set_cons_succ]
  refine wpG_pure (i := 1) (v := ?v1x1) rfl rfl (by rfl) (fun w hB hG K hK => ?h1x1) ?_
  case h1x1 =>
    go_wp2_with fail
    exact hK _ (Below.refl _ _)
  simp only [List.set_cons_zero, List.set_cons_succ]
  refine wpG_pure (i := 2) (v := ?v1x2) rfl rfl (by rfl) (fun w hB hG K hK => ?h1x2) ?_
  case h1x2 =>
    go_wp2_with fail
    exact hK _ (Below.refl _ _)
  simp only [List.set_cons_zero, List.set_cons_succ]
  refine wpG_move (i := 3) rfl rfl rfl (by rfl) rfl ?_
  simp only [List.set_cons_zero, List.set_cons_succ]
  refine wpG_pure (i := 4) (v := ?v1x4) rfl rfl (by rfl) (fun w hB hG K hK => ?h1x4) ?_
  case h1x4 =>
    have cx := Own.cell hG 2 rfl
    go_wp2_with fail
    exact hK _ (Below.refl _ _)
  simp only [List.set_cons_zero, List.set_cons_succ]
  refine wpG_pure (i := 5) (v := ?v1x5) rfl rfl (by rfl) (fun w hB hG K hK => ?h1x5) ?_
  case h1x5 =>
    go_wp2_with fail
    refine (HS.out _).mono ?_
    rintro e wx ⟨rfl, hbx⟩
    exact hK _ hbx
  simp only [List.set_cons_zero, List.set_cons_succ]
  refine wpG_pure (i := 6) (v := ?v1x6) rfl rfl (by rfl) (fun w hB hG K hK => ?h1x6) ?_
  case h1x6 =>
    go_wp2_with fail
    refine (HR.out _).mono ?_
    rintro e wx ⟨rfl, hbx⟩
    exact hK _ hbx
  simp only [List.set_cons_zero, List.set_cons_succ]
  refine wpG_move (i := 7) rfl rfl rfl (by rfl) rfl ?_
  simp only [List.set_cons_zero, List.set_cons_succ]
  refine wpG_pure (i := 8) (v := ?v1x8) rfl rfl (by rfl) (fun w hB hG K hK => ?h1x8) ?_
  case h1x8 =>
    go_wp2_with fail
    exact hK _ (Below.refl _ _)
  simp only [List.set_cons_zero, List.set_cons_succ]
  refine wpG_pure (i := 9) (v := ?v1x9) rfl rfl (by rfl) (fun w hB hG K hK => ?h1x9) ?_
  case h1x9 =>
    go_wp2_with fail
    exact hK _ (Below.refl _ _)
  simp only [List.set_cons_zero, List.set_cons_succ]
  refine wpG_pair (i := 10) (j := 11) (c := ?c1x10) (t := ?t1x10) (c2 := ?c1x11) (t2 := ?t1x11) (fun b => .pointer (some ⟨b, 0, none⟩)) (fun b => .pointer (some ⟨b, 0, none⟩)) rfl rfl rfl rfl (by rfl) (by rfl) (fun w hB hG K hK => ?h1x10) (fun w hB hG K hK => ?h1x11) (fun v1g1 v1g2 l1g1 l1g2 n1g1 _ _ => ?_)
  case h1x10 =>
    go_wp2_with fail
    exact hK
  case h1x11 =>
    go_wp2_with fail
    exact hK
  simp only [List.set_cons_zero, List.set_cons_succ]
  try simp only [World.size_alloc, World.size_drew, World.size_setCell] at l1g1
  try simp only [World.size_alloc, World.size_drew, World.size_setCell] at l1g2
  refine wpG_store (i := 12) (c' := ?c1x12) 1 rfl (Ne1.cons (by first | omega | (simp; omega)) (Ne1.cons (by first | omega | (simp; omega)) (Ne1.cons (by first | omega | (simp; omega)) (Ne1.cons (by first | omega | (simp; omega)) Ne1.nil)))) (by first | omega | (simp; omega)) (fun p hp => List.mem_cons_of_mem _ (List.mem_cons_of_mem _ (hp))) rfl rfl (by rfl) (fun w hB hF hG K hK => ?h1x12) ?_
  case h1x12 =>
    have cx := hF.cell
    have fx := hF.free
    go_wp2_with fail
    refine hK _ (Same.set (Same.set (Same.set (Same.set (Same.refl _ _) _ _) _ _) _ _) _ _) ?_
    exact (Blk.set (Blk.set (Blk.set (Blk.set hF _ _) _ _) _ _) _ _)
  simp only [List.set_cons_zero, List.set_cons_succ, List.setIfInBounds_toArray]
  refine wpG_store (i := 13) (c' := ?c1x13) 0 rfl (Ne1.cons (by first | omega | (simp; omega)) (Ne1.cons (by first | omega | (simp; omega)) (Ne1.cons (by first | omega | (simp; omega)) (Ne1.cons (by first | omega | (simp; omega)) Ne1.nil)))) (by first | omega | (simp; omega)) (fun p hp => List.mem_cons_of_mem _ (List.mem_cons_of_mem _ (hp))) rfl rfl (by rfl) (fun w hB hF hG K hK => ?h1x13) ?_
  case h1x13 =>
    have cx := hF.cell
    have fx := hF.free
    go_wp2_with fail
    refine hK _ (Same.set (Same.set (Same.set (Same.set (Same.refl _ _) _ _) _ _) _ _) _ _) ?_
    exact (Blk.set (Blk.set (Blk.set (Blk.set hF _ _) _ _) _ _) _ _)
  simp only [List.set_cons_zero, List.set_cons_succ, List.setIfInBounds_toArray]
  refine wpG_nil (fun w1 hb1 hG1 => ?_)
  simp only [List.append_eq, List.cons_append, List.nil_append, List.drop_succ_cons, List.drop_zero, List.drop_nil]
  have u1g1 := Own.lt hG1 1 rfl
  have u1g2 := Own.lt hG1 0 rfl
  have O1 := Own.of hG1
  try simp only [List.setIfInBounds_toArray, List.set_cons_zero, List.set_cons_succ] at O1
  have bw1 : Below w.heap.size w w1 := Below.trans (by go_grown) (Below.mono hb1 (by first | omega | (simp; done) | (simp; omega)))
  have zw1 := Below.size hb1
  try simp only [World.size_alloc, World.size_drew, World.size_setCell] at zw1
  have c1x0 := Own.cell O1 0 rfl
  have f1x0 := Own.free O1 0 rfl
  have l1x0 := Own.lt O1 0 rfl
  have l1x0d0 := le_up 0 l1x0
  have l1x0d1 := le_up 1 l1x0
  simp only [upN] at l1x0d0 l1x0d1
  have c1x1 := Own.cell O1 1 rfl
  have f1x1 := Own.free O1 1 rfl
  have l1x1 := Own.lt O1 1 rfl
  have l1x1d0 := le_up 0 l1x1
  have l1x1d1 := le_up 1 l1x1
  simp only [upN] at l1x1d0 l1x1d1
  have c1x2 := Own.cell O1 2 rfl
  have f1x2 := Own.free O1 2 rfl
  have l1x2 := Own.lt O1 2 rfl
  have l1x2d0 := le_up 0 l1x2
  have l1x2d1 := le_up 1 l1x2
  simp only [upN] at l1x2d0 l1x2d1
  have c1x3 := Own.cell O1 3 rfl
  have f1x3 := Own.free O1 3 rfl
  have l1x3 := Own.lt O1 3 rfl
  have l1x3d0 := le_up 0 l1x3
  have l1x3d1 := le_up 1 l1x3
  simp only [upN] at l1x3d0 l1x3d1
  have c1x4 := Own.cell O1 4 rfl
  have f1x4 := Own.free O1 4 rfl
  have l1x4 := Own.lt O1 4 rfl
  have l1x4d0 := le_up 0 l1x4
  have l1x4d1 := le_up 1 l1x4
  simp only [upN] at l1x4d0 l1x4d1
  have HO1 := Lib.hid O1
  clear O1 hb1
  go_wp2_with fail
  refine bodyPost_ret (v := W r0) (by simp [results, Try.results30, go_sem, *]) rfl ?_
  exact ⟨rfl, by go_grown⟩
set_option maxRecDepth 20000 in
set_option maxHeartbeats 2000000 in
theorem mulmod_any (a b m : BitVec 256) (w : World)  : Calls Try.prog 10 #[W a, W b, W m] w fun e w' => e = .returned (W (mulMW a b m)) ∧ Below w.heap.size w w' := by
  have HL := Lib.hid (fun V => left_prod a b m V)
  go_enter Try.func10, Try.ntmps10
  go_wp2_with fail
  refine (HL.out _).mono ?_
  rintro e w1 ⟨rfl, hb1⟩
  have O1 := Own.grow' hb1 (Own.new (Own.new (Own.new (Own.new (Own.nil w) (w.heap.size) (by first | rfl | simp)) (w.heap.size + 1) (by simp)) (w.heap.size + 1 + 1) (by simp)) (w.heap.size + 1 + 1 + 1) (by simp))
  try simp only [List.setIfInBounds_toArray, List.set_cons_zero, List.set_cons_succ] at O1
  have bw1 : Below w.heap.size w w1 := Below.trans (by go_grown) (Below.mono hb1 (by first | omega | (simp; done) | (simp; omega)))
  have zw1 := Below.size hb1
  try simp only [World.size_alloc, World.size_drew, World.size_setCell] at zw1
  have c1x0 := Own.cell O1 0 rfl
  have f1x0 := Own.free O1 0 rfl
  have l1x0 := Own.lt O1 0 rfl
  have l1x0d0 := le_up 0 l1x0
  have l1x0d1 := le_up 1 l1x0
  simp only [upN] at l1x0d0 l1x0d1
  have c1x1 := Own.cell O1 1 rfl
  have f1x1 := Own.free O1 1 rfl
  have l1x1 := Own.lt O1 1 rfl
  have l1x1d0 := le_up 0 l1x1
  have l1x1d1 := le_up 1 l1x1
  simp only [upN] at l1x1d0 l1x1d1
  have c1x2 := Own.cell O1 2 rfl
  have f1x2 := Own.free O1 2 rfl
  have l1x2 := Own.lt O1 2 rfl
  have l1x2d0 := le_up 0 l1x2
  have l1x2d1 := le_up 1 l1x2
  simp only [upN] at l1x2d0 l1x2d1
  have c1x3 := Own.cell O1 3 rfl
  have f1x3 := Own.free O1 3 rfl
  have l1x3 := Own.lt O1 3 rfl
  have l1x3d0 := le_up 0 l1x3
  have l1x3d1 := le_up 1 l1x3
  simp only [upN] at l1x3d0 l1x3d1
  have HO1 := Lib.hid O1
  clear O1 hb1
  go_wp2_with fail
  refine bodyPost_ret (v := W (mulMW a b m)) (by simp [results, Try.results10, go_sem, *]) rfl ?_
  exact ⟨rfl, by go_grown⟩
end Go.Proofs.Ytjmaigienigpnaa
