/- Walks: the law PriceHolds. -/
import Derived.Test.YtclgoamhbakdlaaPriceW
set_option linter.unusedVariables false
set_option linter.unusedSimpArgs false
namespace Go.Proofs.Ytclgoamhbakdlaa
open Go.RowKit

theorem okI_iff {n : Int} : okI n = true ↔ 0 ≤ n ∧ n ≤ 16777216 := by simp [okI]
/-- How many words there are behind a reach that may be. -/
def farN (x y : BitVec 256) (n : Int) : Int := if y = 0 then n else max n (wordsI (L (x + y) 0))
theorem reach_fine {n : Int} {x y : BitVec 256} (h : reachE n x y = 0) : okI n = true ∧ reachN n x y = farN x y n ∧ reachC n x y = costI (farN x y n) - costI n ∧ n ≤ farN x y n ∧ farN x y n ≤ 16777216 ∧ (y = 0 ∨ endOk x y = true) := by
  unfold reachE at h
  rcases ho : okI n with _ | _
  · rw [ho] at h; simp at h
  · have hn := okI_iff.1 ho
    rw [ho] at h
    unfold reachN reachC farN
    rw [ho]
    by_cases hy : y = 0
    · simp only [if_true, if_pos hy]
      exact ⟨by first | rfl | trivial, by first | rfl | trivial, by omega, Int.le_refl _, hn.2, .inl hy⟩
    · simp only [if_true, if_neg hy] at h ⊢
      rcases he : endOk x y with _ | _
      · rw [he] at h; simp at h
      · have h3 : L (x + y) 0 ≤ 16777216 := by
          unfold endOk at he
          simp only [Bool.and_eq_true, decide_eq_true_eq] at he
          exact he.2.2.1
        have := wordsI_le h3
        exact ⟨by first | rfl | trivial, by first | rfl | trivial, by first | rfl | trivial, by omega, by omega, .inr (by first | rfl | trivial)⟩
theorem reach_when {n : Int} {x y : BitVec 256} (hn : okI n = true) (h : y = 0 ∨ endOk x y = true) : reachE n x y = 0 := by
  unfold reachE
  rw [hn]
  rcases h with h | h
  · simp [h]
  · rw [h]; simp
theorem farN_comm (x y u v : BitVec 256) (n : Int) : farN x y (farN u v n) = farN u v (farN x y n) := by
  unfold farN; split <;> split <;> omega
theorem farN_again (x y : BitVec 256) (n : Int) : farN x y (farN x y n) = farN x y n := by
  unfold farN; split <;> omega
theorem costI_lt {a b : Int} (h0 : 0 ≤ a) (h : a < b) : costI a < costI b := by
  have := Int.mul_le_mul (Int.le_of_lt h) (Int.le_of_lt h) h0 (by omega)
  unfold costI; omega
theorem cost_beq {a b : Int} (h0 : 0 ≤ a) (h : a ≤ b) : decide (a = b) = decide (costI a = costI b) := by
  by_cases e : a = b
  · simp [e]
  · have := costI_lt h0 (by omega : a < b)
    rw [decide_eq_false e, decide_eq_false (by omega)]
theorem reachE_bd (n : Int) (x y : BitVec 256) : 0 ≤ reachE n x y ∧ reachE n x y ≤ 4 := by
  unfold reachE; split <;> (try split) <;> (try split) <;> omega

set_option maxHeartbeats 4000000 in
set_option maxRecDepth 100000 in
theorem pholds_e (n a0 a1 b0 b1 : Int) (w : World) (ha0 : 0 ≤ a0 ∧ a0 ≤ 4294967295) (ha1 : 0 ≤ a1 ∧ a1 ≤ 4294967295) (hb0 : 0 ≤ b0 ∧ b0 ≤ 4294967295) (hb1 : 0 ≤ b1 ∧ b1 ≤ 4294967295) (hne : ¬ (reachE n (BitVec.ofNat 256 a0.toNat) (BitVec.ofNat 256 a1.toNat) = 0 ∧ reachE (reachN n (BitVec.ofNat 256 a0.toNat) (BitVec.ofNat 256 a1.toNat)) (BitVec.ofNat 256 b0.toNat) (BitVec.ofNat 256 b1.toNat) = 0)) :
    Calls Try.prog 5 #[.int .i64 n, .agg #[.int .u32 a0, .int .u32 a1], .agg #[.int .u32 b0, .int .u32 b1]] w fun e w' => e = .returned (.bool true) ∧ Below w.heap.size w w' := by
  have wa0 : IntKind.u64.wrap a0 = a0 := IntWalk.u64_in _ (by omega)
  have wa1 : IntKind.u64.wrap a1 = a1 := IntWalk.u64_in _ (by omega)
  have wb0 : IntKind.u64.wrap b0 = b0 := IntWalk.u64_in _ (by omega)
  have wb1 : IntKind.u64.wrap b1 = b1 := IntWalk.u64_in _ (by omega)
  have oa0 := fun V : World => wOf_any a0 V ha0.1 (by omega)
  have oa1 := fun V : World => wOf_any a1 V ha1.1 (by omega)
  have ob0 := fun V : World => wOf_any b0 V hb0.1 (by omega)
  have ob1 := fun V : World => wOf_any b1 V hb1.1 (by omega)
  have r1 := fun V : World => reach_any n (BitVec.ofNat 256 a0.toNat) (BitVec.ofNat 256 a1.toNat) V
  have r2 := fun V : World => reach_any (reachN n (BitVec.ofNat 256 a0.toNat) (BitVec.ofNat 256 a1.toNat)) (BitVec.ofNat 256 b0.toNat) (BitVec.ofNat 256 b1.toNat) V
  have e1 := reachE_bd n (BitVec.ofNat 256 a0.toNat) (BitVec.ofNat 256 a1.toNat)
  have e2 := reachE_bd (reachN n (BitVec.ofNat 256 a0.toNat) (BitVec.ofNat 256 a1.toNat)) (BitVec.ofNat 256 b0.toNat) (BitVec.ofNat 256 b1.toNat)
  generalize (BitVec.ofNat 256 a0.toNat) = Xa0 at *
  generalize (BitVec.ofNat 256 a1.toNat) = Xa1 at *
  generalize (BitVec.ofNat 256 b0.toNat) = Xb0 at *
  generalize (BitVec.ofNat 256 b1.toNat) = Xb1 at *
  generalize reachE n Xa0 Xa1 = E1 at *
  generalize reachE (reachN n Xa0 Xa1) Xb0 Xb1 = E2 at *
  generalize reachN (reachN n Xa0 Xa1) Xb0 Xb1 = N2 at *
  generalize reachC (reachN n Xa0 Xa1) Xb0 Xb1 = C2 at *
  generalize reachN n Xa0 Xa1 = N1 at *
  generalize reachC n Xa0 Xa1 = C1 at *
  have hw : IntKind.i64.wrap (E1 + E2) = E1 + E2 := by rw [IntKind.wrap_i64]; omega
  have hq : ¬ (E1 + E2 = 0) := by omega
  clear hne
  go_enter Try.func5, Try.ntmps5
  go_wp2_with fail
  refine wp_region_grow w.heap.size 10 0 768 [(0, 0, 1073741824, 16), (1, 1, 2147483648, 1073741824), (2, 2, 4294967296, 2147483648), (3, 4, 8589934592, 4294967296), (4, 0, 17179869184, 16), (5, 16, 34359738368, 17179869184), (6, 32, 68719476736, 34359738368), (7, 72, 137438953472, 68719476736), (8, 0, 128, 0), (9, 0, 256, 0), (10, 911, 0, 8589934720), (11, 2047, 0, 137438953728)] [(.p 0, 1), (.p 1, 3), (.p 2, 7), (.p 3, 15), (.p 4, 31), (.p 5, 63), (.p 6, 127), (.p 7, 255), (.gg 8 9, 1023)] [(10, 2047), (11, 4095)] _ (fun p hp => hp) (by first | omega | (simp; done) | (simp; omega)) (by kernel_rfl) (by kernel_rfl) (Own.new (Own.new (Own.nil w) (w.heap.size) rfl) (w.heap.size + 1) (by simp)) ?_
  refine wpG_pure (i := 0) (v := ?v1x0) rfl rfl (by rfl) (fun w hB hG K hK => ?h1x0) ?_
  case h1x0 =>
    go_wp2_with fail
    exact hK _ (Below.refl _ _)
  simp only [List.set_cons_zero, List.set_cons_succ]
  refine wpG_pure (i := 1) (v := ?v1x1) rfl rfl (by rfl) (fun w hB hG K hK => ?h1x1) ?_
  case h1x1 =>
    have cx := Own.cell hG 1 rfl
    go_wp2_with fail
    exact hK _ (Below.refl _ _)
  simp only [List.set_cons_zero, List.set_cons_succ]
  refine wpG_pure (i := 2) (v := ?v1x2) rfl rfl (by rfl) (fun w hB hG K hK => ?h1x2) ?_
  case h1x2 =>
    go_wp2_with fail
    exact hK _ (Below.refl _ _)
  simp only [List.set_cons_zero, List.set_cons_succ]
  refine wpG_pure (i := 3) (v := ?v1x3) rfl rfl (by rfl) (fun w hB hG K hK => ?h1x3) ?_
  case h1x3 =>
    go_wp2_with fail
    refine (oa0 _).mono ?_
    rintro e wx ⟨rfl, hbx⟩
    exact hK _ hbx
  simp only [List.set_cons_zero, List.set_cons_succ]
  refine wpG_pure (i := 4) (v := ?v1x4) rfl rfl (by rfl) (fun w hB hG K hK => ?h1x4) ?_
  case h1x4 =>
    go_wp2_with fail
    exact hK _ (Below.refl _ _)
  simp only [List.set_cons_zero, List.set_cons_succ]
  refine wpG_pure (i := 5) (v := ?v1x5) rfl rfl (by rfl) (fun w hB hG K hK => ?h1x5) ?_
  case h1x5 =>
    have cx := Own.cell hG 1 rfl
    go_wp2_with fail
    exact hK _ (Below.refl _ _)
  simp only [List.set_cons_zero, List.set_cons_succ]
  refine wpG_pure (i := 6) (v := ?v1x6) rfl rfl (by rfl) (fun w hB hG K hK => ?h1x6) ?_
  case h1x6 =>
    go_wp2_with fail
    exact hK _ (Below.refl _ _)
  simp only [List.set_cons_zero, List.set_cons_succ]
  refine wpG_pure (i := 7) (v := ?v1x7) rfl rfl (by rfl) (fun w hB hG K hK => ?h1x7) ?_
  case h1x7 =>
    go_wp2_with fail
    refine (oa1 _).mono ?_
    rintro e wx ⟨rfl, hbx⟩
    exact hK _ hbx
  simp only [List.set_cons_zero, List.set_cons_succ]
  refine wpG_pair (i := 8) (j := 9) (c := ?c1x8) (t := ?t1x8) (c2 := ?c1x9) (t2 := ?t1x9) (fun b => .pointer (some ⟨b, 0, none⟩)) (fun b => .pointer (some ⟨b, 0, none⟩)) rfl rfl rfl rfl (by rfl) (by rfl) (fun w hB hG K hK => ?h1x8) (fun w hB hG K hK => ?h1x9) (fun v1g1 v1g2 l1g1 l1g2 n1g1 _ _ => ?_)
  case h1x8 =>
    go_wp2_with fail
    exact hK
  case h1x9 =>
    go_wp2_with fail
    exact hK
  simp only [List.set_cons_zero, List.set_cons_succ]
  try simp only [World.size_alloc, World.size_drew, World.size_setCell] at l1g1
  try simp only [World.size_alloc, World.size_drew, World.size_setCell] at l1g2
  refine wpG_nil (fun w1 hb1 hG1 => ?_)
  simp only [List.append_eq, List.cons_append, List.nil_append, List.drop_succ_cons, List.drop_zero, List.drop_nil]
  have u1g1 := Own.lt hG1 1 rfl
  have u1g2 := Own.lt hG1 0 rfl
  have O1 := Own.of hG1
  try simp only [List.setIfInBounds_toArray, List.set_cons_zero, List.set_cons_succ] at O1
  have bw1 : Below w.heap.size w w1 := Below.trans (by go_grown) (Below.mono hb1 (by first | omega | (simp; done) | (simp; omega)))
  have zw1 := Below.size hb1
  try simp only [World.size_alloc, World.size_drew, World.size_setCell] at zw1
  have c1x0 := Own.cell O1 0 rfl
  have f1x0 := Own.free O1 0 rfl
  have l1x0 := Own.lt O1 0 rfl
  have l1x0d0 := le_up 0 l1x0
  have l1x0d1 := le_up 1 l1x0
  simp only [upN] at l1x0d0 l1x0d1
  have c1x1 := Own.cell O1 1 rfl
  have f1x1 := Own.free O1 1 rfl
  have l1x1 := Own.lt O1 1 rfl
  have l1x1d0 := le_up 0 l1x1
  have l1x1d1 := le_up 1 l1x1
  simp only [upN] at l1x1d0 l1x1d1
  have c1x2 := Own.cell O1 2 rfl
  have f1x2 := Own.free O1 2 rfl
  have l1x2 := Own.lt O1 2 rfl
  have l1x2d0 := le_up 0 l1x2
  have l1x2d1 := le_up 1 l1x2
  simp only [upN] at l1x2d0 l1x2d1
  have c1x3 := Own.cell O1 3 rfl
  have f1x3 := Own.free O1 3 rfl
  have l1x3 := Own.lt O1 3 rfl
  have l1x3d0 := le_up 0 l1x3
  have l1x3d1 := le_up 1 l1x3
  simp only [upN] at l1x3d0 l1x3d1
  have HO1 := Lib.hid O1
  clear O1 hb1
  go_wp2_with fail
  refine wp_region_grow w.heap.size 10 0 768 [(0, 0, 274877906944, 32), (1, 1, 549755813888, 274877906944), (2, 2, 1099511627776, 549755813888), (3, 4, 2199023255552, 1099511627776), (4, 0, 4398046511104, 32), (5, 16, 8796093022208, 4398046511104), (6, 32, 17592186044416, 8796093022208), (7, 72, 35184372088832, 17592186044416), (8, 0, 512, 0), (9, 0, 1024, 0), (10, 911, 0, 2199023256064), (11, 2047, 0, 35184372089856)] [(.p 0, 1), (.p 1, 3), (.p 2, 7), (.p 3, 15), (.p 4, 31), (.p 5, 63), (.p 6, 127), (.p 7, 255), (.gg 8 9, 1023)] [(10, 2047), (11, 4095)] _ (fun p hp => hp) (by first | omega | (simp; done) | (simp; omega)) (by kernel_rfl) (by kernel_rfl) (Own.set (Own.set (Own.set (Own.set (Own.set (Own.set (Own.set (Own.set HO1.out 1 rfl (Ne1.cons (by first | omega | (simp; omega)) (Ne1.cons (by first | omega | (simp; omega)) (Ne1.cons (by first | omega | (simp; omega)) Ne1.nil)))) 1 rfl (Ne1.cons (by first | omega | (simp; omega)) (Ne1.cons (by first | omega | (simp; omega)) (Ne1.cons (by first | omega | (simp; omega)) Ne1.nil)))) 1 rfl (Ne1.cons (by first | omega | (simp; omega)) (Ne1.cons (by first | omega | (simp; omega)) (Ne1.cons (by first | omega | (simp; omega)) Ne1.nil)))) 1 rfl (Ne1.cons (by first | omega | (simp; omega)) (Ne1.cons (by first | omega | (simp; omega)) (Ne1.cons (by first | omega | (simp; omega)) Ne1.nil)))) 0 rfl (Ne1.cons (by first | omega | (simp; omega)) (Ne1.cons (by first | omega | (simp; omega)) (Ne1.cons (by first | omega | (simp; omega)) Ne1.nil)))) 0 rfl (Ne1.cons (by first | omega | (simp; omega)) (Ne1.cons (by first | omega | (simp; omega)) (Ne1.cons (by first | omega | (simp; omega)) Ne1.nil)))) 0 rfl (Ne1.cons (by first | omega | (simp; omega)) (Ne1.cons (by first | omega | (simp; omega)) (Ne1.cons (by first | omega | (simp; omega)) Ne1.nil)))) 0 rfl (Ne1.cons (by first | omega | (simp; omega)) (Ne1.cons (by first | omega | (simp; omega)) (Ne1.cons (by first | omega | (simp; omega)) Ne1.nil)))) ?_
  refine wpG_pure (i := 0) (v := ?v2x0) rfl rfl (by rfl) (fun w hB hG K hK => ?h2x0) ?_
  case h2x0 =>
    go_wp2_with fail
    exact hK _ (Below.refl _ _)
  simp only [List.set_cons_zero, List.set_cons_succ]
  refine wpG_pure (i := 1) (v := ?v2x1) rfl rfl (by rfl) (fun w hB hG K hK => ?h2x1) ?_
  case h2x1 =>
    have cx := Own.cell hG 2 rfl
    go_wp2_with fail
    exact hK _ (Below.refl _ _)
  simp only [List.set_cons_zero, List.set_cons_succ]
  refine wpG_pure (i := 2) (v := ?v2x2) rfl rfl (by rfl) (fun w hB hG K hK => ?h2x2) ?_
  case h2x2 =>
    go_wp2_with fail
    exact hK _ (Below.refl _ _)
  simp only [List.set_cons_zero, List.set_cons_succ]
  refine wpG_pure (i := 3) (v := ?v2x3) rfl rfl (by rfl) (fun w hB hG K hK => ?h2x3) ?_
  case h2x3 =>
    go_wp2_with fail
    refine (ob0 _).mono ?_
    rintro e wx ⟨rfl, hbx⟩
    exact hK _ hbx
  simp only [List.set_cons_zero, List.set_cons_succ]
  refine wpG_pure (i := 4) (v := ?v2x4) rfl rfl (by rfl) (fun w hB hG K hK => ?h2x4) ?_
  case h2x4 =>
    go_wp2_with fail
    exact hK _ (Below.refl _ _)
  simp only [List.set_cons_zero, List.set_cons_succ]
  refine wpG_pure (i := 5) (v := ?v2x5) rfl rfl (by rfl) (fun w hB hG K hK => ?h2x5) ?_
  case h2x5 =>
    have cx := Own.cell hG 2 rfl
    go_wp2_with fail
    exact hK _ (Below.refl _ _)
  simp only [List.set_cons_zero, List.set_cons_succ]
  refine wpG_pure (i := 6) (v := ?v2x6) rfl rfl (by rfl) (fun w hB hG K hK => ?h2x6) ?_
  case h2x6 =>
    go_wp2_with fail
    exact hK _ (Below.refl _ _)
  simp only [List.set_cons_zero, List.set_cons_succ]
  refine wpG_pure (i := 7) (v := ?v2x7) rfl rfl (by rfl) (fun w hB hG K hK => ?h2x7) ?_
  case h2x7 =>
    go_wp2_with fail
    refine (ob1 _).mono ?_
    rintro e wx ⟨rfl, hbx⟩
    exact hK _ hbx
  simp only [List.set_cons_zero, List.set_cons_succ]
  refine wpG_pair (i := 8) (j := 9) (c := ?c2x8) (t := ?t2x8) (c2 := ?c2x9) (t2 := ?t2x9) (fun b => .pointer (some ⟨b, 0, none⟩)) (fun b => .pointer (some ⟨b, 0, none⟩)) rfl rfl rfl rfl (by rfl) (by rfl) (fun w hB hG K hK => ?h2x8) (fun w hB hG K hK => ?h2x9) (fun v2g1 v2g2 l2g1 l2g2 n2g1 _ _ => ?_)
  case h2x8 =>
    go_wp2_with fail
    exact hK
  case h2x9 =>
    go_wp2_with fail
    exact hK
  simp only [List.set_cons_zero, List.set_cons_succ]
  try simp only [World.size_alloc, World.size_drew, World.size_setCell] at l2g1
  try simp only [World.size_alloc, World.size_drew, World.size_setCell] at l2g2
  refine wpG_nil (fun w2 hb2 hG2 => ?_)
  simp only [List.append_eq, List.cons_append, List.nil_append, List.drop_succ_cons, List.drop_zero, List.drop_nil]
  have u2g1 := Own.lt hG2 1 rfl
  have u2g2 := Own.lt hG2 0 rfl
  have O2 := Own.of hG2
  try simp only [List.setIfInBounds_toArray, List.set_cons_zero, List.set_cons_succ] at O2
  have bw2 : Below w.heap.size w w2 := Below.trans (by go_grown) (Below.mono hb2 (by first | omega | (simp; done) | (simp; omega)))
  have zw2 := Below.size hb2
  try simp only [World.size_alloc, World.size_drew, World.size_setCell] at zw2
  clear c1x0 f1x0 l1x0 l1x0d0 l1x0d1 c1x1 f1x1 l1x1 l1x1d0 l1x1d1 c1x2 f1x2 l1x2 l1x2d0 l1x2d1 c1x3 f1x3 l1x3 l1x3d0 l1x3d1
  have c2x0 := Own.cell O2 0 rfl
  have f2x0 := Own.free O2 0 rfl
  have l2x0 := Own.lt O2 0 rfl
  have l2x0d0 := le_up 0 l2x0
  have l2x0d1 := le_up 1 l2x0
  simp only [upN] at l2x0d0 l2x0d1
  have c2x1 := Own.cell O2 1 rfl
  have f2x1 := Own.free O2 1 rfl
  have l2x1 := Own.lt O2 1 rfl
  have l2x1d0 := le_up 0 l2x1
  have l2x1d1 := le_up 1 l2x1
  simp only [upN] at l2x1d0 l2x1d1
  have c2x2 := Own.cell O2 2 rfl
  have f2x2 := Own.free O2 2 rfl
  have l2x2 := Own.lt O2 2 rfl
  have l2x2d0 := le_up 0 l2x2
  have l2x2d1 := le_up 1 l2x2
  simp only [upN] at l2x2d0 l2x2d1
  have c2x3 := Own.cell O2 3 rfl
  have f2x3 := Own.free O2 3 rfl
  have l2x3 := Own.lt O2 3 rfl
  have l2x3d0 := le_up 0 l2x3
  have l2x3d1 := le_up 1 l2x3
  simp only [upN] at l2x3d0 l2x3d1
  have c2x4 := Own.cell O2 4 rfl
  have f2x4 := Own.free O2 4 rfl
  have l2x4 := Own.lt O2 4 rfl
  have l2x4d0 := le_up 0 l2x4
  have l2x4d1 := le_up 1 l2x4
  simp only [upN] at l2x4d0 l2x4d1
  have c2x5 := Own.cell O2 5 rfl
  have f2x5 := Own.free O2 5 rfl
  have l2x5 := Own.lt O2 5 rfl
  have l2x5d0 := le_up 0 l2x5
  have l2x5d1 := le_up 1 l2x5
  simp only [upN] at l2x5d0 l2x5d1
  have HO2 := Lib.hid O2
  clear O2 hb2
  go_wp2_with fail
  refine (r1 _).mono ?_
  rintro e w3 ⟨rfl, hb3⟩
  have O3 := Own.grow' hb3 (Own.set (Own.set (Own.set (Own.set (Own.set (Own.set (Own.set (Own.set HO2.out 1 rfl (Ne1.cons (by first | omega | (simp; omega)) (Ne1.cons (by first | omega | (simp; omega)) (Ne1.cons (by first | omega | (simp; omega)) (Ne1.cons (by first | omega | (simp; omega)) (Ne1.cons (by first | omega | (simp; omega)) Ne1.nil)))))) 1 rfl (Ne1.cons (by first | omega | (simp; omega)) (Ne1.cons (by first | omega | (simp; omega)) (Ne1.cons (by first | omega | (simp; omega)) (Ne1.cons (by first | omega | (simp; omega)) (Ne1.cons (by first | omega | (simp; omega)) Ne1.nil)))))) 1 rfl (Ne1.cons (by first | omega | (simp; omega)) (Ne1.cons (by first | omega | (simp; omega)) (Ne1.cons (by first | omega | (simp; omega)) (Ne1.cons (by first | omega | (simp; omega)) (Ne1.cons (by first | omega | (simp; omega)) Ne1.nil)))))) 1 rfl (Ne1.cons (by first | omega | (simp; omega)) (Ne1.cons (by first | omega | (simp; omega)) (Ne1.cons (by first | omega | (simp; omega)) (Ne1.cons (by first | omega | (simp; omega)) (Ne1.cons (by first | omega | (simp; omega)) Ne1.nil)))))) 0 rfl (Ne1.cons (by first | omega | (simp; omega)) (Ne1.cons (by first | omega | (simp; omega)) (Ne1.cons (by first | omega | (simp; omega)) (Ne1.cons (by first | omega | (simp; omega)) (Ne1.cons (by first | omega | (simp; omega)) Ne1.nil)))))) 0 rfl (Ne1.cons (by first | omega | (simp; omega)) (Ne1.cons (by first | omega | (simp; omega)) (Ne1.cons (by first | omega | (simp; omega)) (Ne1.cons (by first | omega | (simp; omega)) (Ne1.cons (by first | omega | (simp; omega)) Ne1.nil)))))) 0 rfl (Ne1.cons (by first | omega | (simp; omega)) (Ne1.cons (by first | omega | (simp; omega)) (Ne1.cons (by first | omega | (simp; omega)) (Ne1.cons (by first | omega | (simp; omega)) (Ne1.cons (by first | omega | (simp; omega)) Ne1.nil)))))) 0 rfl (Ne1.cons (by first | omega | (simp; omega)) (Ne1.cons (by first | omega | (simp; omega)) (Ne1.cons (by first | omega | (simp; omega)) (Ne1.cons (by first | omega | (simp; omega)) (Ne1.cons (by first | omega | (simp; omega)) Ne1.nil))))))
  try simp only [List.setIfInBounds_toArray, List.set_cons_zero, List.set_cons_succ] at O3
  have bw3 : Below w.heap.size w w3 := Below.trans (by go_grown) (Below.mono hb3 (by first | omega | (simp; done) | (simp; omega)))
  have zw3 := Below.size hb3
  try simp only [World.size_alloc, World.size_drew, World.size_setCell] at zw3
  clear c2x0 f2x0 l2x0 l2x0d0 l2x0d1 c2x1 f2x1 l2x1 l2x1d0 l2x1d1 c2x2 f2x2 l2x2 l2x2d0 l2x2d1 c2x3 f2x3 l2x3 l2x3d0 l2x3d1 c2x4 f2x4 l2x4 l2x4d0 l2x4d1 c2x5 f2x5 l2x5 l2x5d0 l2x5d1
  have c3x0 := Own.cell O3 0 rfl
  have f3x0 := Own.free O3 0 rfl
  have l3x0 := Own.lt O3 0 rfl
  have l3x0d0 := le_up 0 l3x0
  have l3x0d1 := le_up 1 l3x0
  simp only [upN] at l3x0d0 l3x0d1
  have c3x1 := Own.cell O3 1 rfl
  have f3x1 := Own.free O3 1 rfl
  have l3x1 := Own.lt O3 1 rfl
  have l3x1d0 := le_up 0 l3x1
  have l3x1d1 := le_up 1 l3x1
  simp only [upN] at l3x1d0 l3x1d1
  have c3x2 := Own.cell O3 2 rfl
  have f3x2 := Own.free O3 2 rfl
  have l3x2 := Own.lt O3 2 rfl
  have l3x2d0 := le_up 0 l3x2
  have l3x2d1 := le_up 1 l3x2
  simp only [upN] at l3x2d0 l3x2d1
  have c3x3 := Own.cell O3 3 rfl
  have f3x3 := Own.free O3 3 rfl
  have l3x3 := Own.lt O3 3 rfl
  have l3x3d0 := le_up 0 l3x3
  have l3x3d1 := le_up 1 l3x3
  simp only [upN] at l3x3d0 l3x3d1
  have c3x4 := Own.cell O3 4 rfl
  have f3x4 := Own.free O3 4 rfl
  have l3x4 := Own.lt O3 4 rfl
  have l3x4d0 := le_up 0 l3x4
  have l3x4d1 := le_up 1 l3x4
  simp only [upN] at l3x4d0 l3x4d1
  have c3x5 := Own.cell O3 5 rfl
  have f3x5 := Own.free O3 5 rfl
  have l3x5 := Own.lt O3 5 rfl
  have l3x5d0 := le_up 0 l3x5
  have l3x5d1 := le_up 1 l3x5
  simp only [upN] at l3x5d0 l3x5d1
  have HO3 := Lib.hid O3
  clear O3 hb3
  go_wp2_with fail
  refine (r2 _).mono ?_
  rintro e w4 ⟨rfl, hb4⟩
  have O4 := Own.grow' hb4 HO3.out
  try simp only [List.setIfInBounds_toArray, List.set_cons_zero, List.set_cons_succ] at O4
  have bw4 : Below w.heap.size w w4 := Below.trans (by go_grown) (Below.mono hb4 (by first | omega | (simp; done) | (simp; omega)))
  have zw4 := Below.size hb4
  try simp only [World.size_alloc, World.size_drew, World.size_setCell] at zw4
  clear c3x0 f3x0 l3x0 l3x0d0 l3x0d1 c3x1 f3x1 l3x1 l3x1d0 l3x1d1 c3x2 f3x2 l3x2 l3x2d0 l3x2d1 c3x3 f3x3 l3x3 l3x3d0 l3x3d1 c3x4 f3x4 l3x4 l3x4d0 l3x4d1 c3x5 f3x5 l3x5 l3x5d0 l3x5d1
  have c4x0 := Own.cell O4 0 rfl
  have f4x0 := Own.free O4 0 rfl
  have l4x0 := Own.lt O4 0 rfl
  have l4x0d0 := le_up 0 l4x0
  have l4x0d1 := le_up 1 l4x0
  simp only [upN] at l4x0d0 l4x0d1
  have c4x1 := Own.cell O4 1 rfl
  have f4x1 := Own.free O4 1 rfl
  have l4x1 := Own.lt O4 1 rfl
  have l4x1d0 := le_up 0 l4x1
  have l4x1d1 := le_up 1 l4x1
  simp only [upN] at l4x1d0 l4x1d1
  have c4x2 := Own.cell O4 2 rfl
  have f4x2 := Own.free O4 2 rfl
  have l4x2 := Own.lt O4 2 rfl
  have l4x2d0 := le_up 0 l4x2
  have l4x2d1 := le_up 1 l4x2
  simp only [upN] at l4x2d0 l4x2d1
  have c4x3 := Own.cell O4 3 rfl
  have f4x3 := Own.free O4 3 rfl
  have l4x3 := Own.lt O4 3 rfl
  have l4x3d0 := le_up 0 l4x3
  have l4x3d1 := le_up 1 l4x3
  simp only [upN] at l4x3d0 l4x3d1
  have c4x4 := Own.cell O4 4 rfl
  have f4x4 := Own.free O4 4 rfl
  have l4x4 := Own.lt O4 4 rfl
  have l4x4d0 := le_up 0 l4x4
  have l4x4d1 := le_up 1 l4x4
  simp only [upN] at l4x4d0 l4x4d1
  have c4x5 := Own.cell O4 5 rfl
  have f4x5 := Own.free O4 5 rfl
  have l4x5 := Own.lt O4 5 rfl
  have l4x5d0 := le_up 0 l4x5
  have l4x5d1 := le_up 1 l4x5
  simp only [upN] at l4x5d0 l4x5d1
  have HO4 := Lib.hid O4
  clear O4 hb4
  go_wp2_with fail
  refine (num_any _ _).mono ?_
  rintro e w' ⟨rfl, rfl⟩
  go_wp2_with fail
  refine (num_any _ _).mono ?_
  rintro e w' ⟨rfl, rfl⟩
  go_wp2_with fail
  refine (works_any _).mono ?_
  rintro e w5 ⟨rfl, hb5⟩
  have O5 := Own.grow' hb5 HO4.out
  try simp only [List.setIfInBounds_toArray, List.set_cons_zero, List.set_cons_succ] at O5
  have bw5 : Below w.heap.size w w5 := Below.trans (by go_grown) (Below.mono hb5 (by first | omega | (simp; done) | (simp; omega)))
  have zw5 := Below.size hb5
  try simp only [World.size_alloc, World.size_drew, World.size_setCell] at zw5
  clear c4x0 f4x0 l4x0 l4x0d0 l4x0d1 c4x1 f4x1 l4x1 l4x1d0 l4x1d1 c4x2 f4x2 l4x2 l4x2d0 l4x2d1 c4x3 f4x3 l4x3 l4x3d0 l4x3d1 c4x4 f4x4 l4x4 l4x4d0 l4x4d1 c4x5 f4x5 l4x5 l4x5d0 l4x5d1
  have c5x0 := Own.cell O5 0 rfl
  have f5x0 := Own.free O5 0 rfl
  have l5x0 := Own.lt O5 0 rfl
  have l5x0d0 := le_up 0 l5x0
  have l5x0d1 := le_up 1 l5x0
  simp only [upN] at l5x0d0 l5x0d1
  have c5x1 := Own.cell O5 1 rfl
  have f5x1 := Own.free O5 1 rfl
  have l5x1 := Own.lt O5 1 rfl
  have l5x1d0 := le_up 0 l5x1
  have l5x1d1 := le_up 1 l5x1
  simp only [upN] at l5x1d0 l5x1d1
  have c5x2 := Own.cell O5 2 rfl
  have f5x2 := Own.free O5 2 rfl
  have l5x2 := Own.lt O5 2 rfl
  have l5x2d0 := le_up 0 l5x2
  have l5x2d1 := le_up 1 l5x2
  simp only [upN] at l5x2d0 l5x2d1
  have c5x3 := Own.cell O5 3 rfl
  have f5x3 := Own.free O5 3 rfl
  have l5x3 := Own.lt O5 3 rfl
  have l5x3d0 := le_up 0 l5x3
  have l5x3d1 := le_up 1 l5x3
  simp only [upN] at l5x3d0 l5x3d1
  have c5x4 := Own.cell O5 4 rfl
  have f5x4 := Own.free O5 4 rfl
  have l5x4 := Own.lt O5 4 rfl
  have l5x4d0 := le_up 0 l5x4
  have l5x4d1 := le_up 1 l5x4
  simp only [upN] at l5x4d0 l5x4d1
  have c5x5 := Own.cell O5 5 rfl
  have f5x5 := Own.free O5 5 rfl
  have l5x5 := Own.lt O5 5 rfl
  have l5x5d0 := le_up 0 l5x5
  have l5x5d1 := le_up 1 l5x5
  simp only [upN] at l5x5d0 l5x5d1
  have HO5 := Lib.hid O5
  clear O5 hb5
  go_wp2_with fail
  go_ret
  exact ⟨rfl, by go_grown⟩

set_option maxHeartbeats 4000000 in
set_option maxRecDepth 100000 in
theorem pholds_g (n a0 a1 b0 b1 : Int) (w : World) (ha0 : 0 ≤ a0 ∧ a0 ≤ 4294967295) (ha1 : 0 ≤ a1 ∧ a1 ≤ 4294967295) (hb0 : 0 ≤ b0 ∧ b0 ≤ 4294967295) (hb1 : 0 ≤ b1 ∧ b1 ≤ 4294967295) (he1 : reachE n (BitVec.ofNat 256 a0.toNat) (BitVec.ofNat 256 a1.toNat) = 0) (he2 : reachE (reachN n (BitVec.ofNat 256 a0.toNat) (BitVec.ofNat 256 a1.toNat)) (BitVec.ofNat 256 b0.toNat) (BitVec.ofNat 256 b1.toNat) = 0) :
    Calls Try.prog 5 #[.int .i64 n, .agg #[.int .u32 a0, .int .u32 a1], .agg #[.int .u32 b0, .int .u32 b1]] w fun e w' => e = .returned (.bool true) ∧ Below w.heap.size w w' := by
  have wa0 : IntKind.u64.wrap a0 = a0 := IntWalk.u64_in _ (by omega)
  have wa1 : IntKind.u64.wrap a1 = a1 := IntWalk.u64_in _ (by omega)
  have wb0 : IntKind.u64.wrap b0 = b0 := IntWalk.u64_in _ (by omega)
  have wb1 : IntKind.u64.wrap b1 = b1 := IntWalk.u64_in _ (by omega)
  have oa0 := fun V : World => wOf_any a0 V ha0.1 (by omega)
  have oa1 := fun V : World => wOf_any a1 V ha1.1 (by omega)
  have ob0 := fun V : World => wOf_any b0 V hb0.1 (by omega)
  have ob1 := fun V : World => wOf_any b1 V hb1.1 (by omega)
  have r1 := fun V : World => reach_any n (BitVec.ofNat 256 a0.toNat) (BitVec.ofNat 256 a1.toNat) V
  have r2 := fun V : World => reach_any (reachN n (BitVec.ofNat 256 a0.toNat) (BitVec.ofNat 256 a1.toNat)) (BitVec.ofNat 256 b0.toNat) (BitVec.ofNat 256 b1.toNat) V
  generalize (BitVec.ofNat 256 a0.toNat) = Xa0 at *
  generalize (BitVec.ofNat 256 a1.toNat) = Xa1 at *
  generalize (BitVec.ofNat 256 b0.toNat) = Xb0 at *
  generalize (BitVec.ofNat 256 b1.toNat) = Xb1 at *
  obtain ⟨ok1, n1, c1, l1, u1, q1⟩ := reach_fine he1
  rw [n1] at he2 r2 r1
  obtain ⟨ok2, n2, c2, l2, u2, q2⟩ := reach_fine he2
  have hn := okI_iff.1 ok1
  have r3 := fun V : World => reach_any (farN Xa0 Xa1 n) Xa0 Xa1 V
  have r4 := fun V : World => reach_any n Xb0 Xb1 V
  have he3 := reach_when (x := Xa0) (y := Xa1) ok2 q1
  have he4 := reach_when (x := Xb0) (y := Xb1) ok1 q2
  obtain ⟨_, n3, c3, _, _, _⟩ := reach_fine he3
  obtain ⟨_, n4, c4, l4, u4, _⟩ := reach_fine he4
  have ok4 : okI (farN Xb0 Xb1 n) = true := okI_iff.2 ⟨by omega, u4⟩
  have he5 := reach_when (x := Xa0) (y := Xa1) ok4 q1
  obtain ⟨_, n5, c5, _, _, _⟩ := reach_fine he5
  have r5 := fun V : World => reach_any (farN Xb0 Xb1 n) Xa0 Xa1 V
  have m1 := fun V : World => memory_any (farN Xa0 Xa1 n) V
  have m2 := fun V : World => memory_any (farN Xb0 Xb1 (farN Xa0 Xa1 n)) V
  have ok6 : okI (farN Xb0 Xb1 (farN Xa0 Xa1 n)) = true := okI_iff.2 ⟨by omega, u2⟩
  rw [he1, c1] at r1
  rw [he2, n2, c2] at r2
  rw [he3, n3, c3, farN_again, Int.sub_self] at r3
  rw [he4, n4, c4] at r4
  rw [he5, n5, c5, farN_comm] at r5
  rw [ok2] at m1
  rw [ok6] at m2
  simp only [if_true] at m1 m2
  have x0 : 0 ≤ farN Xa0 Xa1 n := by omega
  have k1 := costI_bd hn.1 hn.2
  have k2 := costI_bd x0 u1
  have k3 := costI_bd (n := farN Xb0 Xb1 (farN Xa0 Xa1 n)) (by omega) u2
  have k4 := costI_bd (n := farN Xb0 Xb1 n) (by omega) u4
  have s0 := costI_mono hn.1 l1
  have s1 := costI_mono x0 l2
  have hbq := cost_beq x0 l2
  clear he1 he2 he3 he4 he5 n1 n2 n3 n4 n5 c1 c2 c3 c4 c5 q1 q2 ok1 ok2 ok4 ok6
  generalize farN Xb0 Xb1 (farN Xa0 Xa1 n) = Y at *
  generalize farN Xa0 Xa1 n = X at *
  generalize farN Xb0 Xb1 n = Z at *
  generalize costI Y = CY at *
  generalize costI X = CX at *
  generalize costI Z = CZ at *
  generalize costI n = CN at *
  have g1 : IntKind.u64.wrap (CX - CN + (CY - CX)) = CY - CN := by rw [IntWalk.u64_in _ (by omega)]; omega
  have g2 : IntKind.u64.wrap (CZ - CN + (CY - CZ)) = CY - CN := by rw [IntWalk.u64_in _ (by omega)]; omega
  go_enter Try.func5, Try.ntmps5
  go_wp2_with fail
  refine wp_region_grow w.heap.size 10 0 768 [(0, 0, 1073741824, 16), (1, 1, 2147483648, 1073741824), (2, 2, 4294967296, 2147483648), (3, 4, 8589934592, 4294967296), (4, 0, 17179869184, 16), (5, 16, 34359738368, 17179869184), (6, 32, 68719476736, 34359738368), (7, 72, 137438953472, 68719476736), (8, 0, 128, 0), (9, 0, 256, 0), (10, 911, 0, 8589934720), (11, 2047, 0, 137438953728)] [(.p 0, 1), (.p 1, 3), (.p 2, 7), (.p 3, 15), (.p 4, 31), (.p 5, 63), (.p 6, 127), (.p 7, 255), (.gg 8 9, 1023)] [(10, 2047), (11, 4095)] _ (fun p hp => hp) (by first | omega | (simp; done) | (simp; omega)) (by kernel_rfl) (by kernel_rfl) (Own.new (Own.new (Own.nil w) (w.heap.size) rfl) (w.heap.size + 1) (by simp)) ?_
  refine wpG_pure (i := 0) (v := ?v1x0) rfl rfl (by rfl) (fun w hB hG K hK => ?h1x0) ?_
  case h1x0 =>
    go_wp2_with fail
    exact hK _ (Below.refl _ _)
  simp only [List.set_cons_zero, List.set_cons_succ]
  refine wpG_pure (i := 1) (v := ?v1x1) rfl rfl (by rfl) (fun w hB hG K hK => ?h1x1) ?_
  case h1x1 =>
    have cx := Own.cell hG 1 rfl
    go_wp2_with fail
    exact hK _ (Below.refl _ _)
  simp only [List.set_cons_zero, List.set_cons_succ]
  refine wpG_pure (i := 2) (v := ?v1x2) rfl rfl (by rfl) (fun w hB hG K hK => ?h1x2) ?_
  case h1x2 =>
    go_wp2_with fail
    exact hK _ (Below.refl _ _)
  simp only [List.set_cons_zero, List.set_cons_succ]
  refine wpG_pure (i := 3) (v := ?v1x3) rfl rfl (by rfl) (fun w hB hG K hK => ?h1x3) ?_
  case h1x3 =>
    go_wp2_with fail
    refine (oa0 _).mono ?_
    rintro e wx ⟨rfl, hbx⟩
    exact hK _ hbx
  simp only [List.set_cons_zero, List.set_cons_succ]
  refine wpG_pure (i := 4) (v := ?v1x4) rfl rfl (by rfl) (fun w hB hG K hK => ?h1x4) ?_
  case h1x4 =>
    go_wp2_with fail
    exact hK _ (Below.refl _ _)
  simp only [List.set_cons_zero, List.set_cons_succ]
  refine wpG_pure (i := 5) (v := ?v1x5) rfl rfl (by rfl) (fun w hB hG K hK => ?h1x5) ?_
  case h1x5 =>
    have cx := Own.cell hG 1 rfl
    go_wp2_with fail
    exact hK _ (Below.refl _ _)
  simp only [List.set_cons_zero, List.set_cons_succ]
  refine wpG_pure (i := 6) (v := ?v1x6) rfl rfl (by rfl) (fun w hB hG K hK => ?h1x6) ?_
  case h1x6 =>
    go_wp2_with fail
    exact hK _ (Below.refl _ _)
  simp only [List.set_cons_zero, List.set_cons_succ]
  refine wpG_pure (i := 7) (v := ?v1x7) rfl rfl (by rfl) (fun w hB hG K hK => ?h1x7) ?_
  case h1x7 =>
    go_wp2_with fail
    refine (oa1 _).mono ?_
    rintro e wx ⟨rfl, hbx⟩
    exact hK _ hbx
  simp only [List.set_cons_zero, List.set_cons_succ]
  refine wpG_pair (i := 8) (j := 9) (c := ?c1x8) (t := ?t1x8) (c2 := ?c1x9) (t2 := ?t1x9) (fun b => .pointer (some ⟨b, 0, none⟩)) (fun b => .pointer (some ⟨b, 0, none⟩)) rfl rfl rfl rfl (by rfl) (by rfl) (fun w hB hG K hK => ?h1x8) (fun w hB hG K hK => ?h1x9) (fun v1g1 v1g2 l1g1 l1g2 n1g1 _ _ => ?_)
  case h1x8 =>
    go_wp2_with fail
    exact hK
  case h1x9 =>
    go_wp2_with fail
    exact hK
  simp only [List.set_cons_zero, List.set_cons_succ]
  try simp only [World.size_alloc, World.size_drew, World.size_setCell] at l1g1
  try simp only [World.size_alloc, World.size_drew, World.size_setCell] at l1g2
  refine wpG_nil (fun w1 hb1 hG1 => ?_)
  simp only [List.append_eq, List.cons_append, List.nil_append, List.drop_succ_cons, List.drop_zero, List.drop_nil]
  have u1g1 := Own.lt hG1 1 rfl
  have u1g2 := Own.lt hG1 0 rfl
  have O1 := Own.of hG1
  try simp only [List.setIfInBounds_toArray, List.set_cons_zero, List.set_cons_succ] at O1
  have bw1 : Below w.heap.size w w1 := Below.trans (by go_grown) (Below.mono hb1 (by first | omega | (simp; done) | (simp; omega)))
  have zw1 := Below.size hb1
  try simp only [World.size_alloc, World.size_drew, World.size_setCell] at zw1
  have c1x0 := Own.cell O1 0 rfl
  have f1x0 := Own.free O1 0 rfl
  have l1x0 := Own.lt O1 0 rfl
  have l1x0d0 := le_up 0 l1x0
  have l1x0d1 := le_up 1 l1x0
  simp only [upN] at l1x0d0 l1x0d1
  have c1x1 := Own.cell O1 1 rfl
  have f1x1 := Own.free O1 1 rfl
  have l1x1 := Own.lt O1 1 rfl
  have l1x1d0 := le_up 0 l1x1
  have l1x1d1 := le_up 1 l1x1
  simp only [upN] at l1x1d0 l1x1d1
  have c1x2 := Own.cell O1 2 rfl
  have f1x2 := Own.free O1 2 rfl
  have l1x2 := Own.lt O1 2 rfl
  have l1x2d0 := le_up 0 l1x2
  have l1x2d1 := le_up 1 l1x2
  simp only [upN] at l1x2d0 l1x2d1
  have c1x3 := Own.cell O1 3 rfl
  have f1x3 := Own.free O1 3 rfl
  have l1x3 := Own.lt O1 3 rfl
  have l1x3d0 := le_up 0 l1x3
  have l1x3d1 := le_up 1 l1x3
  simp only [upN] at l1x3d0 l1x3d1
  have HO1 := Lib.hid O1
  clear O1 hb1
  go_wp2_with fail
  refine wp_region_grow w.heap.size 10 0 768 [(0, 0, 274877906944, 32), (1, 1, 549755813888, 274877906944), (2, 2, 1099511627776, 549755813888), (3, 4, 2199023255552, 1099511627776), (4, 0, 4398046511104, 32), (5, 16, 8796093022208, 4398046511104), (6, 32, 17592186044416, 8796093022208), (7, 72, 35184372088832, 17592186044416), (8, 0, 512, 0), (9, 0, 1024, 0), (10, 911, 0, 2199023256064), (11, 2047, 0, 35184372089856)] [(.p 0, 1), (.p 1, 3), (.p 2, 7), (.p 3, 15), (.p 4, 31), (.p 5, 63), (.p 6, 127), (.p 7, 255), (.gg 8 9, 1023)] [(10, 2047), (11, 4095)] _ (fun p hp => hp) (by first | omega | (simp; done) | (simp; omega)) (by kernel_rfl) (by kernel_rfl) (Own.set (Own.set (Own.set (Own.set (Own.set (Own.set (Own.set (Own.set HO1.out 1 rfl (Ne1.cons (by first | omega | (simp; omega)) (Ne1.cons (by first | omega | (simp; omega)) (Ne1.cons (by first | omega | (simp; omega)) Ne1.nil)))) 1 rfl (Ne1.cons (by first | omega | (simp; omega)) (Ne1.cons (by first | omega | (simp; omega)) (Ne1.cons (by first | omega | (simp; omega)) Ne1.nil)))) 1 rfl (Ne1.cons (by first | omega | (simp; omega)) (Ne1.cons (by first | omega | (simp; omega)) (Ne1.cons (by first | omega | (simp; omega)) Ne1.nil)))) 1 rfl (Ne1.cons (by first | omega | (simp; omega)) (Ne1.cons (by first | omega | (simp; omega)) (Ne1.cons (by first | omega | (simp; omega)) Ne1.nil)))) 0 rfl (Ne1.cons (by first | omega | (simp; omega)) (Ne1.cons (by first | omega | (simp; omega)) (Ne1.cons (by first | omega | (simp; omega)) Ne1.nil)))) 0 rfl (Ne1.cons (by first | omega | (simp; omega)) (Ne1.cons (by first | omega | (simp; omega)) (Ne1.cons (by first | omega | (simp; omega)) Ne1.nil)))) 0 rfl (Ne1.cons (by first | omega | (simp; omega)) (Ne1.cons (by first | omega | (simp; omega)) (Ne1.cons (by first | omega | (simp; omega)) Ne1.nil)))) 0 rfl (Ne1.cons (by first | omega | (simp; omega)) (Ne1.cons (by first | omega | (simp; omega)) (Ne1.cons (by first | omega | (simp; omega)) Ne1.nil)))) ?_
  refine wpG_pure (i := 0) (v := ?v2x0) rfl rfl (by rfl) (fun w hB hG K hK => ?h2x0) ?_
  case h2x0 =>
    go_wp2_with fail
    exact hK _ (Below.refl _ _)
  simp only [List.set_cons_zero, List.set_cons_succ]
  refine wpG_pure (i := 1) (v := ?v2x1) rfl rfl (by rfl) (fun w hB hG K hK => ?h2x1) ?_
  case h2x1 =>
    have cx := Own.cell hG 2 rfl
    go_wp2_with fail
    exact hK _ (Below.refl _ _)
  simp only [List.set_cons_zero, List.set_cons_succ]
  refine wpG_pure (i := 2) (v := ?v2x2) rfl rfl (by rfl) (fun w hB hG K hK => ?h2x2) ?_
  case h2x2 =>
    go_wp2_with fail
    exact hK _ (Below.refl _ _)
  simp only [List.set_cons_zero, List.set_cons_succ]
  refine wpG_pure (i := 3) (v := ?v2x3) rfl rfl (by rfl) (fun w hB hG K hK => ?h2x3) ?_
  case h2x3 =>
    go_wp2_with fail
    refine (ob0 _).mono ?_
    rintro e wx ⟨rfl, hbx⟩
    exact hK _ hbx
  simp only [List.set_cons_zero, List.set_cons_succ]
  refine wpG_pure (i := 4) (v := ?v2x4) rfl rfl (by rfl) (fun w hB hG K hK => ?h2x4) ?_
  case h2x4 =>
    go_wp2_with fail
    exact hK _ (Below.refl _ _)
  simp only [List.set_cons_zero, List.set_cons_succ]
  refine wpG_pure (i := 5) (v := ?v2x5) rfl rfl (by rfl) (fun w hB hG K hK => ?h2x5) ?_
  case h2x5 =>
    have cx := Own.cell hG 2 rfl
    go_wp2_with fail
    exact hK _ (Below.refl _ _)
  simp only [List.set_cons_zero, List.set_cons_succ]
  refine wpG_pure (i := 6) (v := ?v2x6) rfl rfl (by rfl) (fun w hB hG K hK => ?h2x6) ?_
  case h2x6 =>
    go_wp2_with fail
    exact hK _ (Below.refl _ _)
  simp only [List.set_cons_zero, List.set_cons_succ]
  refine wpG_pure (i := 7) (v := ?v2x7) rfl rfl (by rfl) (fun w hB hG K hK => ?h2x7) ?_
  case h2x7 =>
    go_wp2_with fail
    refine (ob1 _).mono ?_
    rintro e wx ⟨rfl, hbx⟩
    exact hK _ hbx
  simp only [List.set_cons_zero, List.set_cons_succ]
  refine wpG_pair (i := 8) (j := 9) (c := ?c2x8) (t := ?t2x8) (c2 := ?c2x9) (t2 := ?t2x9) (fun b => .pointer (some ⟨b, 0, none⟩)) (fun b => .pointer (some ⟨b, 0, none⟩)) rfl rfl rfl rfl (by rfl) (by rfl) (fun w hB hG K hK => ?h2x8) (fun w hB hG K hK => ?h2x9) (fun v2g1 v2g2 l2g1 l2g2 n2g1 _ _ => ?_)
  case h2x8 =>
    go_wp2_with fail
    exact hK
  case h2x9 =>
    go_wp2_with fail
    exact hK
  simp only [List.set_cons_zero, List.set_cons_succ]
  try simp only [World.size_alloc, World.size_drew, World.size_setCell] at l2g1
  try simp only [World.size_alloc, World.size_drew, World.size_setCell] at l2g2
  refine wpG_nil (fun w2 hb2 hG2 => ?_)
  simp only [List.append_eq, List.cons_append, List.nil_append, List.drop_succ_cons, List.drop_zero, List.drop_nil]
  have u2g1 := Own.lt hG2 1 rfl
  have u2g2 := Own.lt hG2 0 rfl
  have O2 := Own.of hG2
  try simp only [List.setIfInBounds_toArray, List.set_cons_zero, List.set_cons_succ] at O2
  have bw2 : Below w.heap.size w w2 := Below.trans (by go_grown) (Below.mono hb2 (by first | omega | (simp; done) | (simp; omega)))
  have zw2 := Below.size hb2
  try simp only [World.size_alloc, World.size_drew, World.size_setCell] at zw2
  clear c1x0 f1x0 l1x0 l1x0d0 l1x0d1 c1x1 f1x1 l1x1 l1x1d0 l1x1d1 c1x2 f1x2 l1x2 l1x2d0 l1x2d1 c1x3 f1x3 l1x3 l1x3d0 l1x3d1
  have c2x0 := Own.cell O2 0 rfl
  have f2x0 := Own.free O2 0 rfl
  have l2x0 := Own.lt O2 0 rfl
  have l2x0d0 := le_up 0 l2x0
  have l2x0d1 := le_up 1 l2x0
  simp only [upN] at l2x0d0 l2x0d1
  have c2x1 := Own.cell O2 1 rfl
  have f2x1 := Own.free O2 1 rfl
  have l2x1 := Own.lt O2 1 rfl
  have l2x1d0 := le_up 0 l2x1
  have l2x1d1 := le_up 1 l2x1
  simp only [upN] at l2x1d0 l2x1d1
  have c2x2 := Own.cell O2 2 rfl
  have f2x2 := Own.free O2 2 rfl
  have l2x2 := Own.lt O2 2 rfl
  have l2x2d0 := le_up 0 l2x2
  have l2x2d1 := le_up 1 l2x2
  simp only [upN] at l2x2d0 l2x2d1
  have c2x3 := Own.cell O2 3 rfl
  have f2x3 := Own.free O2 3 rfl
  have l2x3 := Own.lt O2 3 rfl
  have l2x3d0 := le_up 0 l2x3
  have l2x3d1 := le_up 1 l2x3
  simp only [upN] at l2x3d0 l2x3d1
  have c2x4 := Own.cell O2 4 rfl
  have f2x4 := Own.free O2 4 rfl
  have l2x4 := Own.lt O2 4 rfl
  have l2x4d0 := le_up 0 l2x4
  have l2x4d1 := le_up 1 l2x4
  simp only [upN] at l2x4d0 l2x4d1
  have c2x5 := Own.cell O2 5 rfl
  have f2x5 := Own.free O2 5 rfl
  have l2x5 := Own.lt O2 5 rfl
  have l2x5d0 := le_up 0 l2x5
  have l2x5d1 := le_up 1 l2x5
  simp only [upN] at l2x5d0 l2x5d1
  have HO2 := Lib.hid O2
  clear O2 hb2
  go_wp2_with fail
  refine (r1 _).mono ?_
  rintro e w3 ⟨rfl, hb3⟩
  have O3 := Own.grow' hb3 (Own.set (Own.set (Own.set (Own.set (Own.set (Own.set (Own.set (Own.set HO2.out 1 rfl (Ne1.cons (by first | omega | (simp; omega)) (Ne1.cons (by first | omega | (simp; omega)) (Ne1.cons (by first | omega | (simp; omega)) (Ne1.cons (by first | omega | (simp; omega)) (Ne1.cons (by first | omega | (simp; omega)) Ne1.nil)))))) 1 rfl (Ne1.cons (by first | omega | (simp; omega)) (Ne1.cons (by first | omega | (simp; omega)) (Ne1.cons (by first | omega | (simp; omega)) (Ne1.cons (by first | omega | (simp; omega)) (Ne1.cons (by first | omega | (simp; omega)) Ne1.nil)))))) 1 rfl (Ne1.cons (by first | omega | (simp; omega)) (Ne1.cons (by first | omega | (simp; omega)) (Ne1.cons (by first | omega | (simp; omega)) (Ne1.cons (by first | omega | (simp; omega)) (Ne1.cons (by first | omega | (simp; omega)) Ne1.nil)))))) 1 rfl (Ne1.cons (by first | omega | (simp; omega)) (Ne1.cons (by first | omega | (simp; omega)) (Ne1.cons (by first | omega | (simp; omega)) (Ne1.cons (by first | omega | (simp; omega)) (Ne1.cons (by first | omega | (simp; omega)) Ne1.nil)))))) 0 rfl (Ne1.cons (by first | omega | (simp; omega)) (Ne1.cons (by first | omega | (simp; omega)) (Ne1.cons (by first | omega | (simp; omega)) (Ne1.cons (by first | omega | (simp; omega)) (Ne1.cons (by first | omega | (simp; omega)) Ne1.nil)))))) 0 rfl (Ne1.cons (by first | omega | (simp; omega)) (Ne1.cons (by first | omega | (simp; omega)) (Ne1.cons (by first | omega | (simp; omega)) (Ne1.cons (by first | omega | (simp; omega)) (Ne1.cons (by first | omega | (simp; omega)) Ne1.nil)))))) 0 rfl (Ne1.cons (by first | omega | (simp; omega)) (Ne1.cons (by first | omega | (simp; omega)) (Ne1.cons (by first | omega | (simp; omega)) (Ne1.cons (by first | omega | (simp; omega)) (Ne1.cons (by first | omega | (simp; omega)) Ne1.nil)))))) 0 rfl (Ne1.cons (by first | omega | (simp; omega)) (Ne1.cons (by first | omega | (simp; omega)) (Ne1.cons (by first | omega | (simp; omega)) (Ne1.cons (by first | omega | (simp; omega)) (Ne1.cons (by first | omega | (simp; omega)) Ne1.nil))))))
  try simp only [List.setIfInBounds_toArray, List.set_cons_zero, List.set_cons_succ] at O3
  have bw3 : Below w.heap.size w w3 := Below.trans (by go_grown) (Below.mono hb3 (by first | omega | (simp; done) | (simp; omega)))
  have zw3 := Below.size hb3
  try simp only [World.size_alloc, World.size_drew, World.size_setCell] at zw3
  clear c2x0 f2x0 l2x0 l2x0d0 l2x0d1 c2x1 f2x1 l2x1 l2x1d0 l2x1d1 c2x2 f2x2 l2x2 l2x2d0 l2x2d1 c2x3 f2x3 l2x3 l2x3d0 l2x3d1 c2x4 f2x4 l2x4 l2x4d0 l2x4d1 c2x5 f2x5 l2x5 l2x5d0 l2x5d1
  have c3x0 := Own.cell O3 0 rfl
  have f3x0 := Own.free O3 0 rfl
  have l3x0 := Own.lt O3 0 rfl
  have l3x0d0 := le_up 0 l3x0
  have l3x0d1 := le_up 1 l3x0
  simp only [upN] at l3x0d0 l3x0d1
  have c3x1 := Own.cell O3 1 rfl
  have f3x1 := Own.free O3 1 rfl
  have l3x1 := Own.lt O3 1 rfl
  have l3x1d0 := le_up 0 l3x1
  have l3x1d1 := le_up 1 l3x1
  simp only [upN] at l3x1d0 l3x1d1
  have c3x2 := Own.cell O3 2 rfl
  have f3x2 := Own.free O3 2 rfl
  have l3x2 := Own.lt O3 2 rfl
  have l3x2d0 := le_up 0 l3x2
  have l3x2d1 := le_up 1 l3x2
  simp only [upN] at l3x2d0 l3x2d1
  have c3x3 := Own.cell O3 3 rfl
  have f3x3 := Own.free O3 3 rfl
  have l3x3 := Own.lt O3 3 rfl
  have l3x3d0 := le_up 0 l3x3
  have l3x3d1 := le_up 1 l3x3
  simp only [upN] at l3x3d0 l3x3d1
  have c3x4 := Own.cell O3 4 rfl
  have f3x4 := Own.free O3 4 rfl
  have l3x4 := Own.lt O3 4 rfl
  have l3x4d0 := le_up 0 l3x4
  have l3x4d1 := le_up 1 l3x4
  simp only [upN] at l3x4d0 l3x4d1
  have c3x5 := Own.cell O3 5 rfl
  have f3x5 := Own.free O3 5 rfl
  have l3x5 := Own.lt O3 5 rfl
  have l3x5d0 := le_up 0 l3x5
  have l3x5d1 := le_up 1 l3x5
  simp only [upN] at l3x5d0 l3x5d1
  have HO3 := Lib.hid O3
  clear O3 hb3
  go_wp2_with fail
  refine (r2 _).mono ?_
  rintro e w4 ⟨rfl, hb4⟩
  have O4 := Own.grow' hb4 HO3.out
  try simp only [List.setIfInBounds_toArray, List.set_cons_zero, List.set_cons_succ] at O4
  have bw4 : Below w.heap.size w w4 := Below.trans (by go_grown) (Below.mono hb4 (by first | omega | (simp; done) | (simp; omega)))
  have zw4 := Below.size hb4
  try simp only [World.size_alloc, World.size_drew, World.size_setCell] at zw4
  clear c3x0 f3x0 l3x0 l3x0d0 l3x0d1 c3x1 f3x1 l3x1 l3x1d0 l3x1d1 c3x2 f3x2 l3x2 l3x2d0 l3x2d1 c3x3 f3x3 l3x3 l3x3d0 l3x3d1 c3x4 f3x4 l3x4 l3x4d0 l3x4d1 c3x5 f3x5 l3x5 l3x5d0 l3x5d1
  have c4x0 := Own.cell O4 0 rfl
  have f4x0 := Own.free O4 0 rfl
  have l4x0 := Own.lt O4 0 rfl
  have l4x0d0 := le_up 0 l4x0
  have l4x0d1 := le_up 1 l4x0
  simp only [upN] at l4x0d0 l4x0d1
  have c4x1 := Own.cell O4 1 rfl
  have f4x1 := Own.free O4 1 rfl
  have l4x1 := Own.lt O4 1 rfl
  have l4x1d0 := le_up 0 l4x1
  have l4x1d1 := le_up 1 l4x1
  simp only [upN] at l4x1d0 l4x1d1
  have c4x2 := Own.cell O4 2 rfl
  have f4x2 := Own.free O4 2 rfl
  have l4x2 := Own.lt O4 2 rfl
  have l4x2d0 := le_up 0 l4x2
  have l4x2d1 := le_up 1 l4x2
  simp only [upN] at l4x2d0 l4x2d1
  have c4x3 := Own.cell O4 3 rfl
  have f4x3 := Own.free O4 3 rfl
  have l4x3 := Own.lt O4 3 rfl
  have l4x3d0 := le_up 0 l4x3
  have l4x3d1 := le_up 1 l4x3
  simp only [upN] at l4x3d0 l4x3d1
  have c4x4 := Own.cell O4 4 rfl
  have f4x4 := Own.free O4 4 rfl
  have l4x4 := Own.lt O4 4 rfl
  have l4x4d0 := le_up 0 l4x4
  have l4x4d1 := le_up 1 l4x4
  simp only [upN] at l4x4d0 l4x4d1
  have c4x5 := Own.cell O4 5 rfl
  have f4x5 := Own.free O4 5 rfl
  have l4x5 := Own.lt O4 5 rfl
  have l4x5d0 := le_up 0 l4x5
  have l4x5d1 := le_up 1 l4x5
  simp only [upN] at l4x5d0 l4x5d1
  have HO4 := Lib.hid O4
  clear O4 hb4
  go_wp2_with fail
  refine (num_any _ _).mono ?_
  rintro e w' ⟨rfl, rfl⟩
  go_wp2_with fail
  refine (num_any _ _).mono ?_
  rintro e w' ⟨rfl, rfl⟩
  go_wp2_with fail
  refine (r3 _).mono ?_
  rintro e w5 ⟨rfl, hb5⟩
  have O5 := Own.grow' hb5 HO4.out
  try simp only [List.setIfInBounds_toArray, List.set_cons_zero, List.set_cons_succ] at O5
  have bw5 : Below w.heap.size w w5 := Below.trans (by go_grown) (Below.mono hb5 (by first | omega | (simp; done) | (simp; omega)))
  have zw5 := Below.size hb5
  try simp only [World.size_alloc, World.size_drew, World.size_setCell] at zw5
  clear c4x0 f4x0 l4x0 l4x0d0 l4x0d1 c4x1 f4x1 l4x1 l4x1d0 l4x1d1 c4x2 f4x2 l4x2 l4x2d0 l4x2d1 c4x3 f4x3 l4x3 l4x3d0 l4x3d1 c4x4 f4x4 l4x4 l4x4d0 l4x4d1 c4x5 f4x5 l4x5 l4x5d0 l4x5d1
  have c5x0 := Own.cell O5 0 rfl
  have f5x0 := Own.free O5 0 rfl
  have l5x0 := Own.lt O5 0 rfl
  have l5x0d0 := le_up 0 l5x0
  have l5x0d1 := le_up 1 l5x0
  simp only [upN] at l5x0d0 l5x0d1
  have c5x1 := Own.cell O5 1 rfl
  have f5x1 := Own.free O5 1 rfl
  have l5x1 := Own.lt O5 1 rfl
  have l5x1d0 := le_up 0 l5x1
  have l5x1d1 := le_up 1 l5x1
  simp only [upN] at l5x1d0 l5x1d1
  have c5x2 := Own.cell O5 2 rfl
  have f5x2 := Own.free O5 2 rfl
  have l5x2 := Own.lt O5 2 rfl
  have l5x2d0 := le_up 0 l5x2
  have l5x2d1 := le_up 1 l5x2
  simp only [upN] at l5x2d0 l5x2d1
  have c5x3 := Own.cell O5 3 rfl
  have f5x3 := Own.free O5 3 rfl
  have l5x3 := Own.lt O5 3 rfl
  have l5x3d0 := le_up 0 l5x3
  have l5x3d1 := le_up 1 l5x3
  simp only [upN] at l5x3d0 l5x3d1
  have c5x4 := Own.cell O5 4 rfl
  have f5x4 := Own.free O5 4 rfl
  have l5x4 := Own.lt O5 4 rfl
  have l5x4d0 := le_up 0 l5x4
  have l5x4d1 := le_up 1 l5x4
  simp only [upN] at l5x4d0 l5x4d1
  have c5x5 := Own.cell O5 5 rfl
  have f5x5 := Own.free O5 5 rfl
  have l5x5 := Own.lt O5 5 rfl
  have l5x5d0 := le_up 0 l5x5
  have l5x5d1 := le_up 1 l5x5
  simp only [upN] at l5x5d0 l5x5d1
  have HO5 := Lib.hid O5
  clear O5 hb5
  go_wp2_with fail
  refine (r4 _).mono ?_
  rintro e w6 ⟨rfl, hb6⟩
  have O6 := Own.grow' hb6 HO5.out
  try simp only [List.setIfInBounds_toArray, List.set_cons_zero, List.set_cons_succ] at O6
  have bw6 : Below w.heap.size w w6 := Below.trans (by go_grown) (Below.mono hb6 (by first | omega | (simp; done) | (simp; omega)))
  have zw6 := Below.size hb6
  try simp only [World.size_alloc, World.size_drew, World.size_setCell] at zw6
  clear c5x0 f5x0 l5x0 l5x0d0 l5x0d1 c5x1 f5x1 l5x1 l5x1d0 l5x1d1 c5x2 f5x2 l5x2 l5x2d0 l5x2d1 c5x3 f5x3 l5x3 l5x3d0 l5x3d1 c5x4 f5x4 l5x4 l5x4d0 l5x4d1 c5x5 f5x5 l5x5 l5x5d0 l5x5d1
  have c6x0 := Own.cell O6 0 rfl
  have f6x0 := Own.free O6 0 rfl
  have l6x0 := Own.lt O6 0 rfl
  have l6x0d0 := le_up 0 l6x0
  have l6x0d1 := le_up 1 l6x0
  simp only [upN] at l6x0d0 l6x0d1
  have c6x1 := Own.cell O6 1 rfl
  have f6x1 := Own.free O6 1 rfl
  have l6x1 := Own.lt O6 1 rfl
  have l6x1d0 := le_up 0 l6x1
  have l6x1d1 := le_up 1 l6x1
  simp only [upN] at l6x1d0 l6x1d1
  have c6x2 := Own.cell O6 2 rfl
  have f6x2 := Own.free O6 2 rfl
  have l6x2 := Own.lt O6 2 rfl
  have l6x2d0 := le_up 0 l6x2
  have l6x2d1 := le_up 1 l6x2
  simp only [upN] at l6x2d0 l6x2d1
  have c6x3 := Own.cell O6 3 rfl
  have f6x3 := Own.free O6 3 rfl
  have l6x3 := Own.lt O6 3 rfl
  have l6x3d0 := le_up 0 l6x3
  have l6x3d1 := le_up 1 l6x3
  simp only [upN] at l6x3d0 l6x3d1
  have c6x4 := Own.cell O6 4 rfl
  have f6x4 := Own.free O6 4 rfl
  have l6x4 := Own.lt O6 4 rfl
  have l6x4d0 := le_up 0 l6x4
  have l6x4d1 := le_up 1 l6x4
  simp only [upN] at l6x4d0 l6x4d1
  have c6x5 := Own.cell O6 5 rfl
  have f6x5 := Own.free O6 5 rfl
  have l6x5 := Own.lt O6 5 rfl
  have l6x5d0 := le_up 0 l6x5
  have l6x5d1 := le_up 1 l6x5
  simp only [upN] at l6x5d0 l6x5d1
  have HO6 := Lib.hid O6
  clear O6 hb6
  go_wp2_with fail
  refine (r5 _).mono ?_
  rintro e w7 ⟨rfl, hb7⟩
  have O7 := Own.grow' hb7 HO6.out
  try simp only [List.setIfInBounds_toArray, List.set_cons_zero, List.set_cons_succ] at O7
  have bw7 : Below w.heap.size w w7 := Below.trans (by go_grown) (Below.mono hb7 (by first | omega | (simp; done) | (simp; omega)))
  have zw7 := Below.size hb7
  try simp only [World.size_alloc, World.size_drew, World.size_setCell] at zw7
  clear c6x0 f6x0 l6x0 l6x0d0 l6x0d1 c6x1 f6x1 l6x1 l6x1d0 l6x1d1 c6x2 f6x2 l6x2 l6x2d0 l6x2d1 c6x3 f6x3 l6x3 l6x3d0 l6x3d1 c6x4 f6x4 l6x4 l6x4d0 l6x4d1 c6x5 f6x5 l6x5 l6x5d0 l6x5d1
  have c7x0 := Own.cell O7 0 rfl
  have f7x0 := Own.free O7 0 rfl
  have l7x0 := Own.lt O7 0 rfl
  have l7x0d0 := le_up 0 l7x0
  have l7x0d1 := le_up 1 l7x0
  simp only [upN] at l7x0d0 l7x0d1
  have c7x1 := Own.cell O7 1 rfl
  have f7x1 := Own.free O7 1 rfl
  have l7x1 := Own.lt O7 1 rfl
  have l7x1d0 := le_up 0 l7x1
  have l7x1d1 := le_up 1 l7x1
  simp only [upN] at l7x1d0 l7x1d1
  have c7x2 := Own.cell O7 2 rfl
  have f7x2 := Own.free O7 2 rfl
  have l7x2 := Own.lt O7 2 rfl
  have l7x2d0 := le_up 0 l7x2
  have l7x2d1 := le_up 1 l7x2
  simp only [upN] at l7x2d0 l7x2d1
  have c7x3 := Own.cell O7 3 rfl
  have f7x3 := Own.free O7 3 rfl
  have l7x3 := Own.lt O7 3 rfl
  have l7x3d0 := le_up 0 l7x3
  have l7x3d1 := le_up 1 l7x3
  simp only [upN] at l7x3d0 l7x3d1
  have c7x4 := Own.cell O7 4 rfl
  have f7x4 := Own.free O7 4 rfl
  have l7x4 := Own.lt O7 4 rfl
  have l7x4d0 := le_up 0 l7x4
  have l7x4d1 := le_up 1 l7x4
  simp only [upN] at l7x4d0 l7x4d1
  have c7x5 := Own.cell O7 5 rfl
  have f7x5 := Own.free O7 5 rfl
  have l7x5 := Own.lt O7 5 rfl
  have l7x5d0 := le_up 0 l7x5
  have l7x5d1 := le_up 1 l7x5
  simp only [upN] at l7x5d0 l7x5d1
  have HO7 := Lib.hid O7
  clear O7 hb7
  go_wp2_with fail
  refine (num_any _ _).mono ?_
  rintro e w' ⟨rfl, rfl⟩
  go_wp2_with fail
  refine (num_any _ _).mono ?_
  rintro e w' ⟨rfl, rfl⟩
  go_wp2_with fail
  refine (num_any _ _).mono ?_
  rintro e w' ⟨rfl, rfl⟩
  go_wp2_with fail
  refine (m1 _).mono ?_
  rintro e w8 ⟨rfl, hb8⟩
  have O8 := Own.grow' hb8 HO7.out
  try simp only [List.setIfInBounds_toArray, List.set_cons_zero, List.set_cons_succ] at O8
  have bw8 : Below w.heap.size w w8 := Below.trans (by go_grown) (Below.mono hb8 (by first | omega | (simp; done) | (simp; omega)))
  have zw8 := Below.size hb8
  try simp only [World.size_alloc, World.size_drew, World.size_setCell] at zw8
  clear c7x0 f7x0 l7x0 l7x0d0 l7x0d1 c7x1 f7x1 l7x1 l7x1d0 l7x1d1 c7x2 f7x2 l7x2 l7x2d0 l7x2d1 c7x3 f7x3 l7x3 l7x3d0 l7x3d1 c7x4 f7x4 l7x4 l7x4d0 l7x4d1 c7x5 f7x5 l7x5 l7x5d0 l7x5d1
  have c8x0 := Own.cell O8 0 rfl
  have f8x0 := Own.free O8 0 rfl
  have l8x0 := Own.lt O8 0 rfl
  have l8x0d0 := le_up 0 l8x0
  have l8x0d1 := le_up 1 l8x0
  simp only [upN] at l8x0d0 l8x0d1
  have c8x1 := Own.cell O8 1 rfl
  have f8x1 := Own.free O8 1 rfl
  have l8x1 := Own.lt O8 1 rfl
  have l8x1d0 := le_up 0 l8x1
  have l8x1d1 := le_up 1 l8x1
  simp only [upN] at l8x1d0 l8x1d1
  have c8x2 := Own.cell O8 2 rfl
  have f8x2 := Own.free O8 2 rfl
  have l8x2 := Own.lt O8 2 rfl
  have l8x2d0 := le_up 0 l8x2
  have l8x2d1 := le_up 1 l8x2
  simp only [upN] at l8x2d0 l8x2d1
  have c8x3 := Own.cell O8 3 rfl
  have f8x3 := Own.free O8 3 rfl
  have l8x3 := Own.lt O8 3 rfl
  have l8x3d0 := le_up 0 l8x3
  have l8x3d1 := le_up 1 l8x3
  simp only [upN] at l8x3d0 l8x3d1
  have c8x4 := Own.cell O8 4 rfl
  have f8x4 := Own.free O8 4 rfl
  have l8x4 := Own.lt O8 4 rfl
  have l8x4d0 := le_up 0 l8x4
  have l8x4d1 := le_up 1 l8x4
  simp only [upN] at l8x4d0 l8x4d1
  have c8x5 := Own.cell O8 5 rfl
  have f8x5 := Own.free O8 5 rfl
  have l8x5 := Own.lt O8 5 rfl
  have l8x5d0 := le_up 0 l8x5
  have l8x5d1 := le_up 1 l8x5
  simp only [upN] at l8x5d0 l8x5d1
  have HO8 := Lib.hid O8
  clear O8 hb8
  go_wp2_with fail
  refine (m2 _).mono ?_
  rintro e w9 ⟨rfl, hb9⟩
  have O9 := Own.grow' hb9 HO8.out
  try simp only [List.setIfInBounds_toArray, List.set_cons_zero, List.set_cons_succ] at O9
  have bw9 : Below w.heap.size w w9 := Below.trans (by go_grown) (Below.mono hb9 (by first | omega | (simp; done) | (simp; omega)))
  have zw9 := Below.size hb9
  try simp only [World.size_alloc, World.size_drew, World.size_setCell] at zw9
  clear c8x0 f8x0 l8x0 l8x0d0 l8x0d1 c8x1 f8x1 l8x1 l8x1d0 l8x1d1 c8x2 f8x2 l8x2 l8x2d0 l8x2d1 c8x3 f8x3 l8x3 l8x3d0 l8x3d1 c8x4 f8x4 l8x4 l8x4d0 l8x4d1 c8x5 f8x5 l8x5 l8x5d0 l8x5d1
  have c9x0 := Own.cell O9 0 rfl
  have f9x0 := Own.free O9 0 rfl
  have l9x0 := Own.lt O9 0 rfl
  have l9x0d0 := le_up 0 l9x0
  have l9x0d1 := le_up 1 l9x0
  simp only [upN] at l9x0d0 l9x0d1
  have c9x1 := Own.cell O9 1 rfl
  have f9x1 := Own.free O9 1 rfl
  have l9x1 := Own.lt O9 1 rfl
  have l9x1d0 := le_up 0 l9x1
  have l9x1d1 := le_up 1 l9x1
  simp only [upN] at l9x1d0 l9x1d1
  have c9x2 := Own.cell O9 2 rfl
  have f9x2 := Own.free O9 2 rfl
  have l9x2 := Own.lt O9 2 rfl
  have l9x2d0 := le_up 0 l9x2
  have l9x2d1 := le_up 1 l9x2
  simp only [upN] at l9x2d0 l9x2d1
  have c9x3 := Own.cell O9 3 rfl
  have f9x3 := Own.free O9 3 rfl
  have l9x3 := Own.lt O9 3 rfl
  have l9x3d0 := le_up 0 l9x3
  have l9x3d1 := le_up 1 l9x3
  simp only [upN] at l9x3d0 l9x3d1
  have c9x4 := Own.cell O9 4 rfl
  have f9x4 := Own.free O9 4 rfl
  have l9x4 := Own.lt O9 4 rfl
  have l9x4d0 := le_up 0 l9x4
  have l9x4d1 := le_up 1 l9x4
  simp only [upN] at l9x4d0 l9x4d1
  have c9x5 := Own.cell O9 5 rfl
  have f9x5 := Own.free O9 5 rfl
  have l9x5 := Own.lt O9 5 rfl
  have l9x5d0 := le_up 0 l9x5
  have l9x5d1 := le_up 1 l9x5
  simp only [upN] at l9x5d0 l9x5d1
  have HO9 := Lib.hid O9
  clear O9 hb9
  go_wp2_with fail
  refine (num_any _ _).mono ?_
  rintro e w' ⟨rfl, rfl⟩
  go_wp2_with fail
  refine (num_any _ _).mono ?_
  rintro e w' ⟨rfl, rfl⟩
  go_wp2_with fail
  refine (works_any _).mono ?_
  rintro e w10 ⟨rfl, hb10⟩
  have O10 := Own.grow' hb10 HO9.out
  try simp only [List.setIfInBounds_toArray, List.set_cons_zero, List.set_cons_succ] at O10
  have bw10 : Below w.heap.size w w10 := Below.trans (by go_grown) (Below.mono hb10 (by first | omega | (simp; done) | (simp; omega)))
  have zw10 := Below.size hb10
  try simp only [World.size_alloc, World.size_drew, World.size_setCell] at zw10
  clear c9x0 f9x0 l9x0 l9x0d0 l9x0d1 c9x1 f9x1 l9x1 l9x1d0 l9x1d1 c9x2 f9x2 l9x2 l9x2d0 l9x2d1 c9x3 f9x3 l9x3 l9x3d0 l9x3d1 c9x4 f9x4 l9x4 l9x4d0 l9x4d1 c9x5 f9x5 l9x5 l9x5d0 l9x5d1
  have c10x0 := Own.cell O10 0 rfl
  have f10x0 := Own.free O10 0 rfl
  have l10x0 := Own.lt O10 0 rfl
  have l10x0d0 := le_up 0 l10x0
  have l10x0d1 := le_up 1 l10x0
  simp only [upN] at l10x0d0 l10x0d1
  have c10x1 := Own.cell O10 1 rfl
  have f10x1 := Own.free O10 1 rfl
  have l10x1 := Own.lt O10 1 rfl
  have l10x1d0 := le_up 0 l10x1
  have l10x1d1 := le_up 1 l10x1
  simp only [upN] at l10x1d0 l10x1d1
  have c10x2 := Own.cell O10 2 rfl
  have f10x2 := Own.free O10 2 rfl
  have l10x2 := Own.lt O10 2 rfl
  have l10x2d0 := le_up 0 l10x2
  have l10x2d1 := le_up 1 l10x2
  simp only [upN] at l10x2d0 l10x2d1
  have c10x3 := Own.cell O10 3 rfl
  have f10x3 := Own.free O10 3 rfl
  have l10x3 := Own.lt O10 3 rfl
  have l10x3d0 := le_up 0 l10x3
  have l10x3d1 := le_up 1 l10x3
  simp only [upN] at l10x3d0 l10x3d1
  have c10x4 := Own.cell O10 4 rfl
  have f10x4 := Own.free O10 4 rfl
  have l10x4 := Own.lt O10 4 rfl
  have l10x4d0 := le_up 0 l10x4
  have l10x4d1 := le_up 1 l10x4
  simp only [upN] at l10x4d0 l10x4d1
  have c10x5 := Own.cell O10 5 rfl
  have f10x5 := Own.free O10 5 rfl
  have l10x5 := Own.lt O10 5 rfl
  have l10x5d0 := le_up 0 l10x5
  have l10x5d1 := le_up 1 l10x5
  simp only [upN] at l10x5d0 l10x5d1
  have HO10 := Lib.hid O10
  clear O10 hb10
  go_wp2_with fail
  go_ret
  exact ⟨rfl, by go_grown⟩

theorem pholds_any (n a0 a1 b0 b1 : Int) (w : World) (ha0 : 0 ≤ a0 ∧ a0 ≤ 4294967295) (ha1 : 0 ≤ a1 ∧ a1 ≤ 4294967295) (hb0 : 0 ≤ b0 ∧ b0 ≤ 4294967295) (hb1 : 0 ≤ b1 ∧ b1 ≤ 4294967295) : Calls Try.prog 5 #[.int .i64 n, .agg #[.int .u32 a0, .int .u32 a1], .agg #[.int .u32 b0, .int .u32 b1]] w fun e w' => e = .returned (.bool true) ∧ Below w.heap.size w w' := by
  by_cases h : reachE n (BitVec.ofNat 256 a0.toNat) (BitVec.ofNat 256 a1.toNat) = 0 ∧ reachE (reachN n (BitVec.ofNat 256 a0.toNat) (BitVec.ofNat 256 a1.toNat)) (BitVec.ofNat 256 b0.toNat) (BitVec.ofNat 256 b1.toNat) = 0
  · exact pholds_g n a0 a1 b0 b1 w ha0 ha1 hb0 hb1 h.1 h.2
  · exact pholds_e n a0 a1 b0 b1 w ha0 ha1 hb0 hb1 h
end Go.Proofs.Ytclgoamhbakdlaa
