/- Which of two words is less. No condition. -/
import Derived.Test.YtjlijocnmicdpaaOrd
import Derived.Test.YtjlijocnmicdpaaLast
set_option linter.unusedVariables false
set_option linter.unusedSimpArgs false
namespace Go.Proofs.Ytjlijocnmicdpaa
open Go.RowKit

def lastW (x y : BitVec 256) : Int := if L x 3 ≠ L y 3 then 3 else if L x 2 ≠ L y 2 then 2 else if L x 1 ≠ L y 1 then 1 else if L x 0 ≠ L y 0 then 0 else -1
abbrev wi (x : BitVec 256) : List Int := [L x 0, L x 1, L x 2, L x 3]
theorem lastW_of {x y : BitVec 256} {r : Int} (h : LastP (wi x) (wi y) r) : r = lastW x y := by
  unfold lastW
  rcases h with ⟨rfl, h⟩ | ⟨i, rfl, hi, h1, h2⟩
  · simp only [List.cons.injEq, and_true] at h
    obtain ⟨h0, h1, h2, h3⟩ := h
    rw [if_neg (by simp [h3]), if_neg (by simp [h2]), if_neg (by simp [h1]), if_neg (by simp [h0])]
  · simp only [List.length_cons, List.length_nil] at hi
    rcases (by omega : i = 0 ∨ i = 1 ∨ i = 2 ∨ i = 3) with rfl | rfl | rfl | rfl
    · have e1 := h2 1 (by omega); have e2 := h2 2 (by omega); have e3 := h2 3 (by omega)
      simp at e1 e2 e3 h1
      simp [e1, e2, e3, h1]
    · have e2 := h2 2 (by omega); have e3 := h2 3 (by omega)
      simp at e2 e3 h1
      simp [e2, e3, h1]
    · have e3 := h2 3 (by omega)
      simp at e3 h1
      simp [e3, h1]
    · simp at h1
      simp [h1]
theorem lastW_cases (x y : BitVec 256) : (lastW x y = -1 ∧ ordW x y = 0) ∨ ∃ q : Nat, q < 4 ∧ lastW x y = q ∧ (L x q < L y q ∧ ordW x y = -1 ∨ L y q < L x q ∧ ordW x y = 1) := by
  unfold lastW
  by_cases h3 : L x 3 = L y 3
  · by_cases h2 : L x 2 = L y 2
    · by_cases h1 : L x 1 = L y 1
      · by_cases h0 : L x 0 = L y 0
        · refine .inl ⟨by simp [h0, h1, h2, h3], ordW_eq fun j hj => ?_⟩
          rcases (by omega : j = 0 ∨ j = 1 ∨ j = 2 ∨ j = 3) with rfl | rfl | rfl | rfl <;> assumption
        · have hs : ∀ j, 0 < j → j < 4 → L x j = L y j := fun j hj hj4 => by rcases (by omega : j = 1 ∨ j = 2 ∨ j = 3) with rfl | rfl | rfl <;> assumption
          refine .inr ⟨0, by omega, by simp [h0, h1, h2, h3], ?_⟩
          rcases Int.lt_or_gt_of_ne h0 with h | h
          · exact .inl ⟨h, ordW_lt (by omega) hs h⟩
          · exact .inr ⟨h, ordW_gt (by omega) hs h⟩
      · have hs : ∀ j, 1 < j → j < 4 → L x j = L y j := fun j hj hj4 => by rcases (by omega : j = 2 ∨ j = 3) with rfl | rfl <;> assumption
        refine .inr ⟨1, by omega, by simp [h1, h2, h3], ?_⟩
        rcases Int.lt_or_gt_of_ne h1 with h | h
        · exact .inl ⟨h, ordW_lt (by omega) hs h⟩
        · exact .inr ⟨h, ordW_gt (by omega) hs h⟩
    · have hs : ∀ j, 2 < j → j < 4 → L x j = L y j := fun j hj hj4 => by rcases (by omega : j = 3) with rfl; assumption
      refine .inr ⟨2, by omega, by simp [h2, h3], ?_⟩
      rcases Int.lt_or_gt_of_ne h2 with h | h
      · exact .inl ⟨h, ordW_lt (by omega) hs h⟩
      · exact .inr ⟨h, ordW_gt (by omega) hs h⟩
  · have hs : ∀ j, 3 < j → j < 4 → L x j = L y j := fun j hj hj4 => by omega
    refine .inr ⟨3, by omega, by simp [h3], ?_⟩
    rcases Int.lt_or_gt_of_ne h3 with h | h
    · exact .inl ⟨h, ordW_lt (by omega) hs h⟩
    · exact .inr ⟨h, ordW_gt (by omega) hs h⟩
theorem lastW_any (x y : BitVec 256) (bx by_ : Nat) (t t' : TypeId) (V : World) (hx : Blk V bx (wc x) t) (hy : Blk V by_ (wc y) t') :
    Calls Try.prog 55 #[.slice (some ⟨bx, 0, none⟩) 4 4, .slice (some ⟨by_, 0, none⟩) 4 4] V fun e w' => e = .returned (.int .i64 (lastW x y)) ∧ Below V.heap.size V w' :=
  (last_any (some ⟨bx, 0, none⟩) (some ⟨by_, 0, none⟩) (wi x) (wi y) 4 4 V (SlAt.of_blk hx) (SlAt.of_blk hy) rfl (by simp) (by simp) (by simp)).mono fun e w' ⟨⟨r, he, hr⟩, hb⟩ => ⟨by rw [he, lastW_of hr], hb⟩
set_option maxHeartbeats 4000000 in
set_option maxRecDepth 20000 in
theorem orderW (x y : BitVec 256) (w : World) : Calls Try.prog 41 #[W x, W y] w fun e w' => e = .returned (.int .i64 (ordW x y)) ∧ Below w.heap.size w w' := by
  have HLA := Lib.hid (fun bx by_ V hx hy => lastW_any x y bx by_ 80 80 V hx hy)
  have hwx : ∀ q, q < 4 → (wc x)[q]? = some (.int .u64 (L x q)) := fun q h => wc_at x h
  have hwy : ∀ q, q < 4 → (wc y)[q]? = some (.int .u64 (L y q)) := fun q h => wc_at y h
  rcases lastW_cases x y with ⟨hl, ho⟩ | ⟨q, hq, hl, ⟨hc, ho⟩ | ⟨hc, ho⟩⟩
  · rw [hl] at HLA
    rw [ho]
    go_enter Try.func41, Try.ntmps41
    go_wp2_with fail
    refine wp_region_grow w.heap.size 3 0 0 [(0, 0, 64, 4), (1, 0, 128, 8), (2, 3, 256, 192), (3, 7, 32, 256)] [(.p 0, 1), (.p 1, 3), (.q 2, 7)] [(3, 15)] _ (fun p hp => hp) (by first | omega | (simp; done) | (simp; omega)) (by kernel_rfl) (by kernel_rfl) (Own.new (Own.new (Own.nil w) (w.heap.size) (by first | rfl | simp)) (w.heap.size + 1) (by simp)) ?_
    refine wpG_pure (i := 0) (v := ?v1x0) rfl rfl (by rfl) (fun w hB hG K hK => ?h1x0) ?_
    case h1x0 =>
      go_wp2_with fail
      exact hK _ (Below.refl _ _)
    simp only [List.set_cons_zero, List.set_cons_succ]
    refine wpG_pure (i := 1) (v := ?v1x1) rfl rfl (by rfl) (fun w hB hG K hK => ?h1x1) ?_
    case h1x1 =>
      go_wp2_with fail
      exact hK _ (Below.refl _ _)
    simp only [List.set_cons_zero, List.set_cons_succ]
    refine wpG_op (i := 2) (v := ?v1x2) rfl rfl (by rfl) (fun w hB hG K hK => ?h1x2) ?_
    case h1x2 =>
      go_wp2_with fail
      refine (HLA.out _ _ _ (hG.get 1 rfl) (hG.get 0 rfl)).mono ?_
      rintro e wx ⟨rfl, hbx⟩
      exact hK _ hbx
    simp only [List.set_cons_zero, List.set_cons_succ]
    refine wpG_nil (fun w1 hb1 hG1 => ?_)
    simp only [List.append_eq, List.cons_append, List.nil_append, List.drop_succ_cons, List.drop_zero, List.drop_nil]
    have O1 := Own.of hG1
    try simp only [List.setIfInBounds_toArray, List.set_cons_zero, List.set_cons_succ] at O1
    have bw1 : Below w.heap.size w w1 := Below.trans (by go_grown) (Below.mono hb1 (by first | omega | (simp; done) | (simp; omega)))
    have zw1 := Below.size hb1
    try simp only [World.size_alloc, World.size_drew, World.size_setCell] at zw1
    have c1x0 := Own.cell O1 0 rfl
    have f1x0 := Own.free O1 0 rfl
    have l1x0 := Own.lt O1 0 rfl
    have l1x0d0 := le_up 0 l1x0
    have l1x0d1 := le_up 1 l1x0
    simp only [upN] at l1x0d0 l1x0d1
    have c1x1 := Own.cell O1 1 rfl
    have f1x1 := Own.free O1 1 rfl
    have l1x1 := Own.lt O1 1 rfl
    have l1x1d0 := le_up 0 l1x1
    have l1x1d1 := le_up 1 l1x1
    simp only [upN] at l1x1d0 l1x1d1
    have HO1 := Lib.hid O1
    clear O1 hb1
    go_wp2_with fail
    go_ret
    exact ⟨rfl, by go_grown⟩
  · rw [hl] at HLA
    rw [ho]
    replace hwx := hwx q hq
    replace hwy := hwy q hq
    have d1 : decide (L x q < L y q) = true := by simpa using hc
    go_enter Try.func41, Try.ntmps41
    go_wp2_with fail
    refine wp_region_grow w.heap.size 3 0 0 [(0, 0, 64, 4), (1, 0, 128, 8), (2, 3, 256, 192), (3, 7, 32, 256)] [(.p 0, 1), (.p 1, 3), (.q 2, 7)] [(3, 15)] _ (fun p hp => hp) (by first | omega | (simp; done) | (simp; omega)) (by kernel_rfl) (by kernel_rfl) (Own.new (Own.new (Own.nil w) (w.heap.size) (by first | rfl | simp)) (w.heap.size + 1) (by simp)) ?_
    refine wpG_pure (i := 0) (v := ?v11x0) rfl rfl (by rfl) (fun w hB hG K hK => ?h11x0) ?_
    case h11x0 =>
      go_wp2_with fail
      exact hK _ (Below.refl _ _)
    simp only [List.set_cons_zero, List.set_cons_succ]
    refine wpG_pure (i := 1) (v := ?v11x1) rfl rfl (by rfl) (fun w hB hG K hK => ?h11x1) ?_
    case h11x1 =>
      go_wp2_with fail
      exact hK _ (Below.refl _ _)
    simp only [List.set_cons_zero, List.set_cons_succ]
    refine wpG_op (i := 2) (v := ?v11x2) rfl rfl (by rfl) (fun w hB hG K hK => ?h11x2) ?_
    case h11x2 =>
      go_wp2_with fail
      refine (HLA.out _ _ _ (hG.get 1 rfl) (hG.get 0 rfl)).mono ?_
      rintro e wx ⟨rfl, hbx⟩
      exact hK _ hbx
    simp only [List.set_cons_zero, List.set_cons_succ]
    refine wpG_nil (fun w11 hb11 hG11 => ?_)
    simp only [List.append_eq, List.cons_append, List.nil_append, List.drop_succ_cons, List.drop_zero, List.drop_nil]
    have O11 := Own.of hG11
    try simp only [List.setIfInBounds_toArray, List.set_cons_zero, List.set_cons_succ] at O11
    have bw11 : Below w.heap.size w w11 := Below.trans (by go_grown) (Below.mono hb11 (by first | omega | (simp; done) | (simp; omega)))
    have zw11 := Below.size hb11
    try simp only [World.size_alloc, World.size_drew, World.size_setCell] at zw11
    have c11x0 := Own.cell O11 0 rfl
    have f11x0 := Own.free O11 0 rfl
    have l11x0 := Own.lt O11 0 rfl
    have l11x0d0 := le_up 0 l11x0
    have l11x0d1 := le_up 1 l11x0
    simp only [upN] at l11x0d0 l11x0d1
    have c11x1 := Own.cell O11 1 rfl
    have f11x1 := Own.free O11 1 rfl
    have l11x1 := Own.lt O11 1 rfl
    have l11x1d0 := le_up 0 l11x1
    have l11x1d1 := le_up 1 l11x1
    simp only [upN] at l11x1d0 l11x1d1
    have HO11 := Lib.hid O11
    clear O11 hb11
    go_wp2_with fail
    refine wp_region_grow w.heap.size 8 0 0 [(0, 0, 8192, 32), (1, 1, 16384, 8196), (2, 2, 32768, 16384), (3, 0, 65536, 32), (4, 8, 131072, 65544), (5, 16, 262144, 131072), (6, 36, 524288, 294912), (7, 64, 4096, 524288)] [(.p 0, 1), (.p 1, 3), (.p 2, 7), (.p 3, 15), (.p 4, 31), (.p 5, 63), (.p 6, 127), (.p 7, 255)] [] _ (fun p hp => hp) (by first | omega | (simp; done) | (simp; omega)) (by kernel_rfl) (by kernel_rfl) HO11.out ?_
    refine wpG_move (i := 0) rfl rfl rfl (by rfl) rfl ?_
    simp only [List.set_cons_zero, List.set_cons_succ]
    refine wpG_pure (i := 1) (v := ?v12x1) rfl rfl (by rfl) (fun w hB hG K hK => ?h12x1) ?_
    case h12x1 =>
      go_wp2_with fail
      exact hK _ (Below.refl _ _)
    simp only [List.set_cons_zero, List.set_cons_succ]
    refine wpG_pure (i := 2) (v := ?v12x2) rfl rfl (by rfl) (fun w hB hG K hK => ?h12x2) ?_
    case h12x2 =>
      have hcx := (hG.cell 1 rfl q).trans hwx
      have cx := Own.cell hG 1 rfl
      go_wp2_with fail
      exact hK _ (Below.refl _ _)
    simp only [List.set_cons_zero, List.set_cons_succ]
    refine wpG_move (i := 3) rfl rfl rfl (by rfl) rfl ?_
    simp only [List.set_cons_zero, List.set_cons_succ]
    refine wpG_pure (i := 4) (v := ?v12x4) rfl rfl (by rfl) (fun w hB hG K hK => ?h12x4) ?_
    case h12x4 =>
      go_wp2_with fail
      exact hK _ (Below.refl _ _)
    simp only [List.set_cons_zero, List.set_cons_succ]
    refine wpG_pure (i := 5) (v := ?v12x5) rfl rfl (by rfl) (fun w hB hG K hK => ?h12x5) ?_
    case h12x5 =>
      have hcy := (hG.cell 0 rfl q).trans hwy
      have cx := Own.cell hG 0 rfl
      go_wp2_with fail
      exact hK _ (Below.refl _ _)
    simp only [List.set_cons_zero, List.set_cons_succ]
    refine wpG_pure (i := 6) (v := ?v12x6) rfl rfl (by rfl) (fun w hB hG K hK => ?h12x6) ?_
    case h12x6 =>
      go_wp2_with fail
      exact hK _ (Below.refl _ _)
    simp only [List.set_cons_zero, List.set_cons_succ]
    refine wpG_assign (i := 7) rfl rfl rfl (by rfl) rfl ?_
    simp only [List.set_cons_zero, List.set_cons_succ]
    refine wpG_nil (fun w12 hb12 hG12 => ?_)
    simp only [List.append_eq, List.cons_append, List.nil_append, List.drop_succ_cons, List.drop_zero, List.drop_nil]
    have O12 := Own.of hG12
    try simp only [List.setIfInBounds_toArray, List.set_cons_zero, List.set_cons_succ] at O12
    have bw12 : Below w.heap.size w w12 := Below.trans (by go_grown) (Below.mono hb12 (by first | omega | (simp; done) | (simp; omega)))
    have zw12 := Below.size hb12
    try simp only [World.size_alloc, World.size_drew, World.size_setCell] at zw12
    clear c11x0 f11x0 l11x0 l11x0d0 l11x0d1 c11x1 f11x1 l11x1 l11x1d0 l11x1d1
    have c12x0 := Own.cell O12 0 rfl
    have f12x0 := Own.free O12 0 rfl
    have l12x0 := Own.lt O12 0 rfl
    have l12x0d0 := le_up 0 l12x0
    have l12x0d1 := le_up 1 l12x0
    simp only [upN] at l12x0d0 l12x0d1
    have c12x1 := Own.cell O12 1 rfl
    have f12x1 := Own.free O12 1 rfl
    have l12x1 := Own.lt O12 1 rfl
    have l12x1d0 := le_up 0 l12x1
    have l12x1d1 := le_up 1 l12x1
    simp only [upN] at l12x1d0 l12x1d1
    have HO12 := Lib.hid O12
    clear O12 hb12
    go_wp2_with fail
    go_ret
    exact ⟨rfl, by go_grown⟩
  · rw [hl] at HLA
    rw [ho]
    replace hwx := hwx q hq
    replace hwy := hwy q hq
    have d1 : decide (L x q < L y q) = false := by simp; omega
    go_enter Try.func41, Try.ntmps41
    go_wp2_with fail
    refine wp_region_grow w.heap.size 3 0 0 [(0, 0, 64, 4), (1, 0, 128, 8), (2, 3, 256, 192), (3, 7, 32, 256)] [(.p 0, 1), (.p 1, 3), (.q 2, 7)] [(3, 15)] _ (fun p hp => hp) (by first | omega | (simp; done) | (simp; omega)) (by kernel_rfl) (by kernel_rfl) (Own.new (Own.new (Own.nil w) (w.heap.size) (by first | rfl | simp)) (w.heap.size + 1) (by simp)) ?_
    refine wpG_pure (i := 0) (v := ?v21x0) rfl rfl (by rfl) (fun w hB hG K hK => ?h21x0) ?_
    case h21x0 =>
      go_wp2_with fail
      exact hK _ (Below.refl _ _)
    simp only [List.set_cons_zero, List.set_cons_succ]
    refine wpG_pure (i := 1) (v := ?v21x1) rfl rfl (by rfl) (fun w hB hG K hK => ?h21x1) ?_
    case h21x1 =>
      go_wp2_with fail
      exact hK _ (Below.refl _ _)
    simp only [List.set_cons_zero, List.set_cons_succ]
    refine wpG_op (i := 2) (v := ?v21x2) rfl rfl (by rfl) (fun w hB hG K hK => ?h21x2) ?_
    case h21x2 =>
      go_wp2_with fail
      refine (HLA.out _ _ _ (hG.get 1 rfl) (hG.get 0 rfl)).mono ?_
      rintro e wx ⟨rfl, hbx⟩
      exact hK _ hbx
    simp only [List.set_cons_zero, List.set_cons_succ]
    refine wpG_nil (fun w21 hb21 hG21 => ?_)
    simp only [List.append_eq, List.cons_append, List.nil_append, List.drop_succ_cons, List.drop_zero, List.drop_nil]
    have O21 := Own.of hG21
    try simp only [List.setIfInBounds_toArray, List.set_cons_zero, List.set_cons_succ] at O21
    have bw21 : Below w.heap.size w w21 := Below.trans (by go_grown) (Below.mono hb21 (by first | omega | (simp; done) | (simp; omega)))
    have zw21 := Below.size hb21
    try simp only [World.size_alloc, World.size_drew, World.size_setCell] at zw21
    have c21x0 := Own.cell O21 0 rfl
    have f21x0 := Own.free O21 0 rfl
    have l21x0 := Own.lt O21 0 rfl
    have l21x0d0 := le_up 0 l21x0
    have l21x0d1 := le_up 1 l21x0
    simp only [upN] at l21x0d0 l21x0d1
    have c21x1 := Own.cell O21 1 rfl
    have f21x1 := Own.free O21 1 rfl
    have l21x1 := Own.lt O21 1 rfl
    have l21x1d0 := le_up 0 l21x1
    have l21x1d1 := le_up 1 l21x1
    simp only [upN] at l21x1d0 l21x1d1
    have HO21 := Lib.hid O21
    clear O21 hb21
    go_wp2_with fail
    refine wp_region_grow w.heap.size 8 0 0 [(0, 0, 8192, 32), (1, 1, 16384, 8196), (2, 2, 32768, 16384), (3, 0, 65536, 32), (4, 8, 131072, 65544), (5, 16, 262144, 131072), (6, 36, 524288, 294912), (7, 64, 4096, 524288)] [(.p 0, 1), (.p 1, 3), (.p 2, 7), (.p 3, 15), (.p 4, 31), (.p 5, 63), (.p 6, 127), (.p 7, 255)] [] _ (fun p hp => hp) (by first | omega | (simp; done) | (simp; omega)) (by kernel_rfl) (by kernel_rfl) HO21.out ?_
    refine wpG_move (i := 0) rfl rfl rfl (by rfl) rfl ?_
    simp only [List.set_cons_zero, List.set_cons_succ]
    refine wpG_pure (i := 1) (v := ?v22x1) rfl rfl (by rfl) (fun w hB hG K hK => ?h22x1) ?_
    case h22x1 =>
      go_wp2_with fail
      exact hK _ (Below.refl _ _)
    simp only [List.set_cons_zero, List.set_cons_succ]
    refine wpG_pure (i := 2) (v := ?v22x2) rfl rfl (by rfl) (fun w hB hG K hK => ?h22x2) ?_
    case h22x2 =>
      have hcx := (hG.cell 1 rfl q).trans hwx
      have cx := Own.cell hG 1 rfl
      go_wp2_with fail
      exact hK _ (Below.refl _ _)
    simp only [List.set_cons_zero, List.set_cons_succ]
    refine wpG_move (i := 3) rfl rfl rfl (by rfl) rfl ?_
    simp only [List.set_cons_zero, List.set_cons_succ]
    refine wpG_pure (i := 4) (v := ?v22x4) rfl rfl (by rfl) (fun w hB hG K hK => ?h22x4) ?_
    case h22x4 =>
      go_wp2_with fail
      exact hK _ (Below.refl _ _)
    simp only [List.set_cons_zero, List.set_cons_succ]
    refine wpG_pure (i := 5) (v := ?v22x5) rfl rfl (by rfl) (fun w hB hG K hK => ?h22x5) ?_
    case h22x5 =>
      have hcy := (hG.cell 0 rfl q).trans hwy
      have cx := Own.cell hG 0 rfl
      go_wp2_with fail
      exact hK _ (Below.refl _ _)
    simp only [List.set_cons_zero, List.set_cons_succ]
    refine wpG_pure (i := 6) (v := ?v22x6) rfl rfl (by rfl) (fun w hB hG K hK => ?h22x6) ?_
    case h22x6 =>
      go_wp2_with fail
      exact hK _ (Below.refl _ _)
    simp only [List.set_cons_zero, List.set_cons_succ]
    refine wpG_assign (i := 7) rfl rfl rfl (by rfl) rfl ?_
    simp only [List.set_cons_zero, List.set_cons_succ]
    refine wpG_nil (fun w22 hb22 hG22 => ?_)
    simp only [List.append_eq, List.cons_append, List.nil_append, List.drop_succ_cons, List.drop_zero, List.drop_nil]
    have O22 := Own.of hG22
    try simp only [List.setIfInBounds_toArray, List.set_cons_zero, List.set_cons_succ] at O22
    have bw22 : Below w.heap.size w w22 := Below.trans (by go_grown) (Below.mono hb22 (by first | omega | (simp; done) | (simp; omega)))
    have zw22 := Below.size hb22
    try simp only [World.size_alloc, World.size_drew, World.size_setCell] at zw22
    clear c21x0 f21x0 l21x0 l21x0d0 l21x0d1 c21x1 f21x1 l21x1 l21x1d0 l21x1d1
    have c22x0 := Own.cell O22 0 rfl
    have f22x0 := Own.free O22 0 rfl
    have l22x0 := Own.lt O22 0 rfl
    have l22x0d0 := le_up 0 l22x0
    have l22x0d1 := le_up 1 l22x0
    simp only [upN] at l22x0d0 l22x0d1
    have c22x1 := Own.cell O22 1 rfl
    have f22x1 := Own.free O22 1 rfl
    have l22x1 := Own.lt O22 1 rfl
    have l22x1d0 := le_up 0 l22x1
    have l22x1d1 := le_up 1 l22x1
    simp only [upN] at l22x1d0 l22x1d1
    have HO22 := Lib.hid O22
    clear O22 hb22
    go_wp2_with fail
    go_ret
    exact ⟨rfl, by go_grown⟩
end Go.Proofs.Ytjlijocnmicdpaa
