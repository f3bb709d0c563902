/- The law GaugeHolds: walks. -/
import Derived.Test.YtjmplababaejaaaGaugeW
import Derived.Test.YtjmplababaejaaaGaugeO
import Derived.Test.YtjmplababaejaaaGaugeN
import Derived.Test.YtjmplababaejaaaGaugeH
import Derived.Test.YtjmplababaejaaaGaugeHu
set_option linter.unusedVariables false
set_option linter.unusedSimpArgs false
namespace Go.Proofs.Ytjmplababaejaaa
open Go.RowKit

set_option maxHeartbeats 8000000 in
set_option maxRecDepth 20000 in
theorem gholds_1 (g h c d : Kn) (m U hl dl : Int) (w : World) (hU : bits .and .u64 g.a 5 = U) (hl1 : bits .andNot .u64 g.a U = 0 → hl = g.l) (hl0 : ¬ bits .andNot .u64 g.a U = 0 → hl = h.l) (dl1 : bits .andNot .u64 c.a U = 0 → dl = c.l) (dl0 : ¬ bits .andNot .u64 c.a U = 0 → dl = d.l)
    (hk1 : ∀ (V : World) (b : Nat), Blk V b #[.int .u64 c.l, .int .u64 c.lo, .int .u64 c.hi, .int .u64 c.a, .int .u64 c.l, .int .u64 c.lo, .int .u64 c.hi, .int .u64 c.a] 40 → Calls Try.prog 16 #[.agg #[.int .u64 g.l, .int .u64 g.lo, .int .u64 g.hi, .int .u64 g.a], .slice (some ⟨b, 0, none⟩) 2 2] V fun e w' => e = .returned (.int .i64 2) ∧ Below V.heap.size V w') :
    Calls Try.prog 4 #[.agg #[.int .u64 g.l, .int .u64 g.lo, .int .u64 g.hi, .int .u64 g.a, .int .u64 h.l, .int .u64 h.lo, .int .u64 h.hi, .int .u64 h.a], .agg #[.int .u64 c.l, .int .u64 c.lo, .int .u64 c.hi, .int .u64 c.a, .int .u64 d.l, .int .u64 d.lo, .int .u64 d.hi, .int .u64 d.a], .int .u64 m] w fun e w' => e = .returned (.bool true) ∧ Below w.heap.size w w' := by
  have HK1 := Lib.hid hk1
  clear hk1
  have hUU : bits .and .u64 g.a 5 = U := hU
  go_enter Try.func4, Try.ntmps4
  go_wp2_with fail
  refine wp_region_grow w.heap.size 8 192 48 [(0, 0, 8388608, 8), (1, 1, 16777216, 8388608), (2, 0, 33554432, 8), (3, 4, 67108864, 33554432), (4, 0, 128, 0), (5, 0, 256, 0), (6, 51, 0, 16777344), (7, 127, 0, 67109120)] [(.p 0, 1), (.p 1, 3), (.p 2, 7), (.p 3, 15), (.gg 4 5, 63), (.c 6, 127), (.c 7, 255)] [] _ (fun p hp => hp) (by first | omega | (simp; done) | (simp; omega)) (by kernel_rfl) (by kernel_rfl) (Own.new (Own.new (Own.nil w) (w.heap.size) (by first | rfl | simp)) (w.heap.size + 1) (by simp)) ?_
  refine wpG_pure (i := 0) (v := ?v1x0) rfl rfl (by rfl) (fun w hB hG K hK => ?h1x0) ?_
  case h1x0 =>
    go_wp2_with fail
    exact hK _ (Below.refl _ _)
  simp only [List.set_cons_zero, List.set_cons_succ]
  refine wpG_pure (i := 1) (v := ?v1x1) rfl rfl (by rfl) (fun w hB hG K hK => ?h1x1) ?_
  case h1x1 =>
    have cx := Own.cell hG 1 rfl
    go_wp2_with fail
    exact hK _ (Below.refl _ _)
  simp only [List.set_cons_zero, List.set_cons_succ]
  refine wpG_pure (i := 2) (v := ?v1x2) rfl rfl (by rfl) (fun w hB hG K hK => ?h1x2) ?_
  case h1x2 =>
    go_wp2_with fail
    exact hK _ (Below.refl _ _)
  simp only [List.set_cons_zero, List.set_cons_succ]
  refine wpG_pure (i := 3) (v := ?v1x3) rfl rfl (by rfl) (fun w hB hG K hK => ?h1x3) ?_
  case h1x3 =>
    have cx := Own.cell hG 1 rfl
    go_wp2_with fail
    exact hK _ (Below.refl _ _)
  simp only [List.set_cons_zero, List.set_cons_succ]
  refine wpG_pair (i := 4) (j := 5) (c := ?c1x4) (t := ?t1x4) (c2 := ?c1x5) (t2 := ?t1x5) (fun b => .pointer (some ⟨b, 0, none⟩)) (fun b => .pointer (some ⟨b, 0, none⟩)) rfl rfl rfl rfl (by rfl) (by rfl) (fun w hB hG K hK => ?h1x4) (fun w hB hG K hK => ?h1x5) (fun v1g1 v1g2 l1g1 l1g2 n1g1 _ _ => ?_)
  case h1x4 =>
    go_wp2_with fail
    exact hK
  case h1x5 =>
    go_wp2_with fail
    exact hK
  simp only [List.set_cons_zero, List.set_cons_succ]
  try simp only [World.size_alloc, World.size_drew, World.size_setCell] at l1g1
  try simp only [World.size_alloc, World.size_drew, World.size_setCell] at l1g2
  refine wpG_store (i := 6) (c' := ?c1x6) 1 rfl (Ne1.cons (by first | omega | (simp; omega)) (Ne1.cons (by first | omega | (simp; omega)) (Ne1.cons (by first | omega | (simp; omega)) Ne1.nil))) (by first | omega | (simp; omega)) (fun p hp => List.mem_cons_of_mem _ (List.mem_cons_of_mem _ (hp))) rfl rfl (by rfl) (fun w hB hF hG K hK => ?h1x6) ?_
  case h1x6 =>
    have cx := hF.cell
    have fx := hF.free
    go_wp2_with fail
    refine hK _ (Same.set (Same.set (Same.set (Same.set (Same.refl _ _) _ _) _ _) _ _) _ _) ?_
    exact (Blk.set (Blk.set (Blk.set (Blk.set hF _ _) _ _) _ _) _ _)
  simp only [List.set_cons_zero, List.set_cons_succ, List.setIfInBounds_toArray]
  refine wpG_store (i := 7) (c' := ?c1x7) 0 rfl (Ne1.cons (by first | omega | (simp; omega)) (Ne1.cons (by first | omega | (simp; omega)) (Ne1.cons (by first | omega | (simp; omega)) Ne1.nil))) (by first | omega | (simp; omega)) (fun p hp => List.mem_cons_of_mem _ (List.mem_cons_of_mem _ (hp))) rfl rfl (by rfl) (fun w hB hF hG K hK => ?h1x7) ?_
  case h1x7 =>
    have cx := hF.cell
    have fx := hF.free
    go_wp2_with fail
    refine hK _ (Same.set (Same.set (Same.set (Same.set (Same.refl _ _) _ _) _ _) _ _) _ _) ?_
    exact (Blk.set (Blk.set (Blk.set (Blk.set hF _ _) _ _) _ _) _ _)
  simp only [List.set_cons_zero, List.set_cons_succ, List.setIfInBounds_toArray]
  refine wpG_nil (fun w1 hb1 hG1 => ?_)
  simp only [List.append_eq, List.cons_append, List.nil_append, List.drop_succ_cons, List.drop_zero, List.drop_nil]
  have u1g1 := Own.lt hG1 1 rfl
  have u1g2 := Own.lt hG1 0 rfl
  have O1 := Own.of hG1
  try simp only [List.setIfInBounds_toArray, List.set_cons_zero, List.set_cons_succ] at O1
  have bw1 : Below w.heap.size w w1 := Below.trans (by go_grown) (Below.mono hb1 (by first | omega | (simp; done) | (simp; omega)))
  have zw1 := Below.size hb1
  try simp only [World.size_alloc, World.size_drew, World.size_setCell] at zw1
  have c1x0 := Own.cell O1 0 rfl
  have f1x0 := Own.free O1 0 rfl
  have l1x0 := Own.lt O1 0 rfl
  have l1x0d0 := le_up 0 l1x0
  have l1x0d1 := le_up 1 l1x0
  simp only [upN] at l1x0d0 l1x0d1
  have a1x0 := fun o1 o2 o3 i => cell_al3 l1x0 o1 o2 o3 i
  have c1x1 := Own.cell O1 1 rfl
  have f1x1 := Own.free O1 1 rfl
  have l1x1 := Own.lt O1 1 rfl
  have l1x1d0 := le_up 0 l1x1
  have l1x1d1 := le_up 1 l1x1
  simp only [upN] at l1x1d0 l1x1d1
  have a1x1 := fun o1 o2 o3 i => cell_al3 l1x1 o1 o2 o3 i
  have c1x2 := Own.cell O1 2 rfl
  have f1x2 := Own.free O1 2 rfl
  have l1x2 := Own.lt O1 2 rfl
  have l1x2d0 := le_up 0 l1x2
  have l1x2d1 := le_up 1 l1x2
  simp only [upN] at l1x2d0 l1x2d1
  have a1x2 := fun o1 o2 o3 i => cell_al3 l1x2 o1 o2 o3 i
  have c1x3 := Own.cell O1 3 rfl
  have f1x3 := Own.free O1 3 rfl
  have l1x3 := Own.lt O1 3 rfl
  have l1x3d0 := le_up 0 l1x3
  have l1x3d1 := le_up 1 l1x3
  simp only [upN] at l1x3d0 l1x3d1
  have a1x3 := fun o1 o2 o3 i => cell_al3 l1x3 o1 o2 o3 i
  have HO1 := Lib.hid O1
  clear O1 hb1
  go_wp2_with fail
  refine wp_region_grow w.heap.size 11 640 0 [(0, 0, 1073741824, 128), (1, 1, 2147483648, 1073741824), (2, 0, 4294967296, 128), (3, 4, 8589934592, 4294967296), (4, 0, 17179869184, 128), (5, 16, 34359738368, 17179869184), (6, 3, 68719476736, 256), (7, 67, 0, 70866960384), (8, 207, 137438953472, 256), (9, 463, 0, 146028888064), (10, 1023, 274877906944, 256), (11, 2047, 0, 309237645312)] [(.p 0, 1), (.p 1, 3), (.p 2, 7), (.p 3, 15), (.p 4, 31), (.p 5, 63), (.p 6, 127), (.c 7, 255), (.p 8, 511), (.c 9, 1023), (.p 10, 2047)] [(11, 4095)] (List.eraseIdx _ 0) (fun p hp => List.mem_of_mem_eraseIdx hp) (by first | omega | (simp; done) | (simp; omega)) (by kernel_rfl) (by kernel_rfl) HO1.out ?_
  refine wpG_pure (i := 0) (v := ?v2x0) rfl rfl (by rfl) (fun w hB hG K hK => ?h2x0) ?_
  case h2x0 =>
    go_wp2_with fail
    exact hK _ (Below.refl _ _)
  simp only [List.set_cons_zero, List.set_cons_succ]
  refine wpG_pure (i := 1) (v := ?v2x1) rfl rfl (by rfl) (fun w hB hG K hK => ?h2x1) ?_
  case h2x1 =>
    have cx := Own.cell hG 0 rfl
    go_wp2_with fail
    exact hK _ (Below.refl _ _)
  simp only [List.set_cons_zero, List.set_cons_succ]
  refine wpG_pure (i := 2) (v := ?v2x2) rfl rfl (by rfl) (fun w hB hG K hK => ?h2x2) ?_
  case h2x2 =>
    go_wp2_with fail
    exact hK _ (Below.refl _ _)
  simp only [List.set_cons_zero, List.set_cons_succ]
  refine wpG_pure (i := 3) (v := ?v2x3) rfl rfl (by rfl) (fun w hB hG K hK => ?h2x3) ?_
  case h2x3 =>
    have cx := Own.cell hG 0 rfl
    go_wp2_with fail
    exact hK _ (Below.refl _ _)
  simp only [List.set_cons_zero, List.set_cons_succ]
  refine wpG_pure (i := 4) (v := ?v2x4) rfl rfl (by rfl) (fun w hB hG K hK => ?h2x4) ?_
  case h2x4 =>
    go_wp2_with fail
    exact hK _ (Below.refl _ _)
  simp only [List.set_cons_zero, List.set_cons_succ]
  refine wpG_pure (i := 5) (v := ?v2x5) rfl rfl (by rfl) (fun w hB hG K hK => ?h2x5) ?_
  case h2x5 =>
    have cx := Own.cell hG 0 rfl
    go_wp2_with fail
    exact hK _ (Below.refl _ _)
  simp only [List.set_cons_zero, List.set_cons_succ]
  refine wpG_pure (i := 6) (v := ?v2x6) rfl rfl (by rfl) (fun w hB hG K hK => ?h2x6) ?_
  case h2x6 =>
    go_wp2_with fail
    exact hK _ (Below.refl _ _)
  simp only [List.set_cons_zero, List.set_cons_succ]
  refine wpG_store (i := 7) (c' := ?c2x7) 0 rfl (Ne1.cons (by first | omega | (simp; omega)) (Ne1.cons (by first | omega | (simp; omega)) (Ne1.cons (by first | omega | (simp; omega)) Ne1.nil))) (by first | omega | (simp; omega)) (fun p hp => mem_set_erase hp) rfl rfl (by rfl) (fun w hB hF hG K hK => ?h2x7) ?_
  case h2x7 =>
    have cx := hF.cell
    have fx := hF.free
    go_wp2_with fail
    refine hK _ (Same.set (Same.refl _ _) _ _) ?_
    exact (Blk.set hF _ _)
  simp only [List.set_cons_zero, List.set_cons_succ, List.setIfInBounds_toArray]
  refine wpG_pure (i := 8) (v := ?v2x8) rfl rfl (by rfl) (fun w hB hG K hK => ?h2x8) ?_
  case h2x8 =>
    go_wp2_with fail
    exact hK _ (Below.refl _ _)
  simp only [List.set_cons_zero, List.set_cons_succ]
  refine wpG_store (i := 9) (c' := ?c2x9) 0 rfl (Ne1.cons (by first | omega | (simp; omega)) (Ne1.cons (by first | omega | (simp; omega)) (Ne1.cons (by first | omega | (simp; omega)) Ne1.nil))) (by first | omega | (simp; omega)) (fun p hp => mem_set_erase hp) rfl rfl (by rfl) (fun w hB hF hG K hK => ?h2x9) ?_
  case h2x9 =>
    have cx := hF.cell
    have fx := hF.free
    go_wp2_with fail
    refine hK _ (Same.set (Same.refl _ _) _ _) ?_
    exact (Blk.set hF _ _)
  simp only [List.set_cons_zero, List.set_cons_succ, List.setIfInBounds_toArray]
  refine wpG_pure (i := 10) (v := ?v2x10) rfl rfl (by rfl) (fun w hB hG K hK => ?h2x10) ?_
  case h2x10 =>
    go_wp2_with fail
    exact hK _ (Below.refl _ _)
  simp only [List.set_cons_zero, List.set_cons_succ]
  refine wpG_nil (fun w2 hb2 hG2 => ?_)
  simp only [List.append_eq, List.cons_append, List.nil_append, List.drop_succ_cons, List.drop_zero, List.drop_nil]
  have O2 := Own.of hG2
  try simp only [List.setIfInBounds_toArray, List.set_cons_zero, List.set_cons_succ] at O2
  have bw2 : Below w.heap.size w w2 := Below.trans (by go_grown) (Below.mono hb2 (by first | omega | (simp; done) | (simp; omega)))
  have zw2 := Below.size hb2
  try simp only [World.size_alloc, World.size_drew, World.size_setCell] at zw2
  clear c1x0 f1x0 l1x0 l1x0d0 l1x0d1 a1x0 c1x1 f1x1 l1x1 l1x1d0 l1x1d1 a1x1 c1x2 f1x2 l1x2 l1x2d0 l1x2d1 a1x2 c1x3 f1x3 l1x3 l1x3d0 l1x3d1 a1x3
  have c2x0 := Own.cell O2 0 rfl
  have f2x0 := Own.free O2 0 rfl
  have l2x0 := Own.lt O2 0 rfl
  have l2x0d0 := le_up 0 l2x0
  have l2x0d1 := le_up 1 l2x0
  simp only [upN] at l2x0d0 l2x0d1
  have a2x0 := fun o1 o2 o3 i => cell_al3 l2x0 o1 o2 o3 i
  have c2x1 := Own.cell O2 1 rfl
  have f2x1 := Own.free O2 1 rfl
  have l2x1 := Own.lt O2 1 rfl
  have l2x1d0 := le_up 0 l2x1
  have l2x1d1 := le_up 1 l2x1
  simp only [upN] at l2x1d0 l2x1d1
  have a2x1 := fun o1 o2 o3 i => cell_al3 l2x1 o1 o2 o3 i
  have c2x2 := Own.cell O2 2 rfl
  have f2x2 := Own.free O2 2 rfl
  have l2x2 := Own.lt O2 2 rfl
  have l2x2d0 := le_up 0 l2x2
  have l2x2d1 := le_up 1 l2x2
  simp only [upN] at l2x2d0 l2x2d1
  have a2x2 := fun o1 o2 o3 i => cell_al3 l2x2 o1 o2 o3 i
  have c2x3 := Own.cell O2 3 rfl
  have f2x3 := Own.free O2 3 rfl
  have l2x3 := Own.lt O2 3 rfl
  have l2x3d0 := le_up 0 l2x3
  have l2x3d1 := le_up 1 l2x3
  simp only [upN] at l2x3d0 l2x3d1
  have a2x3 := fun o1 o2 o3 i => cell_al3 l2x3 o1 o2 o3 i
  have HO2 := Lib.hid O2
  clear O2 hb2
  go_upto_if 49 with (fail)
  go_cut [] (fun wx => Own [(w2.heap.size, #[.int .u64 d.l, .int .u64 c.lo, .int .u64 c.hi, .int .u64 c.a], 40), (v1g2, #[.int .u64 hl, .int .u64 g.lo, .int .u64 g.hi, .int .u64 g.a], 25), (v1g1, #[.int .u64 g.l, .int .u64 g.lo, .int .u64 g.hi, .int .u64 g.a], 25), (w.heap.size + 1, #[.int .u64 c.l, .int .u64 c.lo, .int .u64 c.hi, .int .u64 c.a, .int .u64 d.l, .int .u64 d.lo, .int .u64 d.hi, .int .u64 d.a], 41), (w.heap.size, #[.int .u64 g.l, .int .u64 g.lo, .int .u64 g.hi, .int .u64 g.a, .int .u64 h.l, .int .u64 h.lo, .int .u64 h.hi, .int .u64 h.a], 26)] wx ∧ Below w.heap.size w wx)
  case first =>
    by_cases he : bits .andNot .u64 g.a U = 0
    · have hq := hl1 he
      go_wp2_with fail
      go_meet
      refine ⟨Own.eqv (Own.new (Own.set (Own.set HO2.out 0 rfl (Ne1.cons (by first | omega | (simp; omega)) (Ne1.cons (by first | omega | (simp; omega)) (Ne1.cons (by first | omega | (simp; omega)) Ne1.nil)))) 0 rfl (Ne1.cons (by first | omega | (simp; omega)) (Ne1.cons (by first | omega | (simp; omega)) (Ne1.cons (by first | omega | (simp; omega)) Ne1.nil)))) (w2.heap.size) (by first | rfl | simp)) ?_, by go_grown⟩
      simp only [List.setIfInBounds_toArray, List.set_cons_zero, List.set_cons_succ, hq]
    · have hq := hl0 he
      go_wp2_with fail
      go_meet
      refine ⟨Own.eqv (Own.new (Own.set HO2.out 0 rfl (Ne1.cons (by first | omega | (simp; omega)) (Ne1.cons (by first | omega | (simp; omega)) (Ne1.cons (by first | omega | (simp; omega)) Ne1.nil)))) (w2.heap.size) (by first | rfl | simp)) ?_, by go_grown⟩
      simp only [List.setIfInBounds_toArray, List.set_cons_zero, List.set_cons_succ, hq]
  case rest =>
    obtain ⟨hO, hb⟩ := hcut
    obtain ⟨wc49, rfl⟩ : ∃ x : World, x = wc := ⟨_, rfl⟩
    have bw3 := hb
    clear c2x0 f2x0 l2x0 l2x0d0 l2x0d1 a2x0 c2x1 f2x1 l2x1 l2x1d0 l2x1d1 a2x1 c2x2 f2x2 l2x2 l2x2d0 l2x2d1 a2x2 c2x3 f2x3 l2x3 l2x3d0 l2x3d1 a2x3
    have O3 := hO
    have c3x0 := Own.cell O3 0 rfl
    have f3x0 := Own.free O3 0 rfl
    have l3x0 := Own.lt O3 0 rfl
    have l3x0d0 := le_up 0 l3x0
    have l3x0d1 := le_up 1 l3x0
    simp only [upN] at l3x0d0 l3x0d1
    have c3x1 := Own.cell O3 1 rfl
    have f3x1 := Own.free O3 1 rfl
    have l3x1 := Own.lt O3 1 rfl
    have l3x1d0 := le_up 0 l3x1
    have l3x1d1 := le_up 1 l3x1
    simp only [upN] at l3x1d0 l3x1d1
    have c3x2 := Own.cell O3 2 rfl
    have f3x2 := Own.free O3 2 rfl
    have l3x2 := Own.lt O3 2 rfl
    have l3x2d0 := le_up 0 l3x2
    have l3x2d1 := le_up 1 l3x2
    simp only [upN] at l3x2d0 l3x2d1
    have c3x3 := Own.cell O3 3 rfl
    have f3x3 := Own.free O3 3 rfl
    have l3x3 := Own.lt O3 3 rfl
    have l3x3d0 := le_up 0 l3x3
    have l3x3d1 := le_up 1 l3x3
    simp only [upN] at l3x3d0 l3x3d1
    have c3x4 := Own.cell O3 4 rfl
    have f3x4 := Own.free O3 4 rfl
    have l3x4 := Own.lt O3 4 rfl
    have l3x4d0 := le_up 0 l3x4
    have l3x4d1 := le_up 1 l3x4
    simp only [upN] at l3x4d0 l3x4d1
    have HO3 := Lib.hid O3
    clear O3
    go_upto_if 57 with (fail)
    go_cut [] (fun wx => Own [(w2.heap.size, #[.int .u64 dl, .int .u64 c.lo, .int .u64 c.hi, .int .u64 c.a], 40), (v1g2, #[.int .u64 hl, .int .u64 g.lo, .int .u64 g.hi, .int .u64 g.a], 25), (v1g1, #[.int .u64 g.l, .int .u64 g.lo, .int .u64 g.hi, .int .u64 g.a], 25), (w.heap.size + 1, #[.int .u64 c.l, .int .u64 c.lo, .int .u64 c.hi, .int .u64 c.a, .int .u64 d.l, .int .u64 d.lo, .int .u64 d.hi, .int .u64 d.a], 41), (w.heap.size, #[.int .u64 g.l, .int .u64 g.lo, .int .u64 g.hi, .int .u64 g.a, .int .u64 h.l, .int .u64 h.lo, .int .u64 h.hi, .int .u64 h.a], 26)] wx ∧ Below w.heap.size w wx)
    case first =>
      by_cases he : bits .andNot .u64 c.a U = 0
      · have hq := dl1 he
        go_wp2_with fail
        go_meet
        refine ⟨Own.eqv (Own.set HO3.out 0 rfl (Ne1.cons (by first | omega | (simp; omega)) (Ne1.cons (by first | omega | (simp; omega)) (Ne1.cons (by first | omega | (simp; omega)) (Ne1.cons (by first | omega | (simp; omega)) Ne1.nil))))) ?_, by go_grown⟩
        simp only [List.setIfInBounds_toArray, List.set_cons_zero, List.set_cons_succ, hq]
      · have hq := dl0 he
        go_wp2_with fail
        go_meet
        refine ⟨Own.eqv HO3.out ?_, by go_grown⟩
        simp only [List.setIfInBounds_toArray, List.set_cons_zero, List.set_cons_succ, hq]
    case rest =>
      obtain ⟨hO, hb⟩ := hcut
      obtain ⟨wc57, rfl⟩ : ∃ x : World, x = wc := ⟨_, rfl⟩
      have bw4 := hb
      clear c3x0 f3x0 l3x0 l3x0d0 l3x0d1 c3x1 f3x1 l3x1 l3x1d0 l3x1d1 c3x2 f3x2 l3x2 l3x2d0 l3x2d1 c3x3 f3x3 l3x3 l3x3d0 l3x3d1 c3x4 f3x4 l3x4 l3x4d0 l3x4d1
      have O4 := hO
      have c4x0 := Own.cell O4 0 rfl
      have f4x0 := Own.free O4 0 rfl
      have l4x0 := Own.lt O4 0 rfl
      have l4x0d0 := le_up 0 l4x0
      have l4x0d1 := le_up 1 l4x0
      simp only [upN] at l4x0d0 l4x0d1
      have c4x1 := Own.cell O4 1 rfl
      have f4x1 := Own.free O4 1 rfl
      have l4x1 := Own.lt O4 1 rfl
      have l4x1d0 := le_up 0 l4x1
      have l4x1d1 := le_up 1 l4x1
      simp only [upN] at l4x1d0 l4x1d1
      have c4x2 := Own.cell O4 2 rfl
      have f4x2 := Own.free O4 2 rfl
      have l4x2 := Own.lt O4 2 rfl
      have l4x2d0 := le_up 0 l4x2
      have l4x2d1 := le_up 1 l4x2
      simp only [upN] at l4x2d0 l4x2d1
      have c4x3 := Own.cell O4 3 rfl
      have f4x3 := Own.free O4 3 rfl
      have l4x3 := Own.lt O4 3 rfl
      have l4x3d0 := le_up 0 l4x3
      have l4x3d1 := le_up 1 l4x3
      simp only [upN] at l4x3d0 l4x3d1
      have c4x4 := Own.cell O4 4 rfl
      have f4x4 := Own.free O4 4 rfl
      have l4x4 := Own.lt O4 4 rfl
      have l4x4d0 := le_up 0 l4x4
      have l4x4d1 := le_up 1 l4x4
      simp only [upN] at l4x4d0 l4x4d1
      have HO4 := Lib.hid O4
      clear O4
      go_wp2_with fail
      refine (HK1.out _ _ ((Own.get (Own.new HO4.out (wc57.heap.size) (by first | rfl | simp)) 0 rfl))).mono ?_
      rintro e w5 ⟨rfl, hb5⟩
      have O5 := Own.grow' hb5 (Own.new HO4.out (wc57.heap.size) (by first | rfl | simp))
      try simp only [List.setIfInBounds_toArray, List.set_cons_zero, List.set_cons_succ] at O5
      have bw5 : Below w.heap.size w w5 := Below.trans (by go_grown) (Below.mono hb5 (by first | omega | (simp; done) | (simp; omega)))
      have zw5 := Below.size hb5
      try simp only [World.size_alloc, World.size_drew, World.size_setCell] at zw5
      clear c4x0 f4x0 l4x0 l4x0d0 l4x0d1 c4x1 f4x1 l4x1 l4x1d0 l4x1d1 c4x2 f4x2 l4x2 l4x2d0 l4x2d1 c4x3 f4x3 l4x3 l4x3d0 l4x3d1 c4x4 f4x4 l4x4 l4x4d0 l4x4d1
      have c5x0 := Own.cell O5 0 rfl
      have f5x0 := Own.free O5 0 rfl
      have l5x0 := Own.lt O5 0 rfl
      have l5x0d0 := le_up 0 l5x0
      have l5x0d1 := le_up 1 l5x0
      simp only [upN] at l5x0d0 l5x0d1
      have a5x0 := fun o1 o2 o3 i => cell_al3 l5x0 o1 o2 o3 i
      have c5x1 := Own.cell O5 1 rfl
      have f5x1 := Own.free O5 1 rfl
      have l5x1 := Own.lt O5 1 rfl
      have l5x1d0 := le_up 0 l5x1
      have l5x1d1 := le_up 1 l5x1
      simp only [upN] at l5x1d0 l5x1d1
      have a5x1 := fun o1 o2 o3 i => cell_al3 l5x1 o1 o2 o3 i
      have c5x2 := Own.cell O5 2 rfl
      have f5x2 := Own.free O5 2 rfl
      have l5x2 := Own.lt O5 2 rfl
      have l5x2d0 := le_up 0 l5x2
      have l5x2d1 := le_up 1 l5x2
      simp only [upN] at l5x2d0 l5x2d1
      have a5x2 := fun o1 o2 o3 i => cell_al3 l5x2 o1 o2 o3 i
      have c5x3 := Own.cell O5 3 rfl
      have f5x3 := Own.free O5 3 rfl
      have l5x3 := Own.lt O5 3 rfl
      have l5x3d0 := le_up 0 l5x3
      have l5x3d1 := le_up 1 l5x3
      simp only [upN] at l5x3d0 l5x3d1
      have a5x3 := fun o1 o2 o3 i => cell_al3 l5x3 o1 o2 o3 i
      have c5x4 := Own.cell O5 4 rfl
      have f5x4 := Own.free O5 4 rfl
      have l5x4 := Own.lt O5 4 rfl
      have l5x4d0 := le_up 0 l5x4
      have l5x4d1 := le_up 1 l5x4
      simp only [upN] at l5x4d0 l5x4d1
      have a5x4 := fun o1 o2 o3 i => cell_al3 l5x4 o1 o2 o3 i
      have c5x5 := Own.cell O5 5 rfl
      have f5x5 := Own.free O5 5 rfl
      have l5x5 := Own.lt O5 5 rfl
      have l5x5d0 := le_up 0 l5x5
      have l5x5d1 := le_up 1 l5x5
      simp only [upN] at l5x5d0 l5x5d1
      have a5x5 := fun o1 o2 o3 i => cell_al3 l5x5 o1 o2 o3 i
      have HO5 := Lib.hid O5
      clear O5 hb5
      go_wp2_with fail
      refine (num_any _ _).mono ?_
      rintro e w' ⟨rfl, rfl⟩
      go_wp2_with fail
      refine (works_any _).mono ?_
      rintro e w6 ⟨rfl, hb6⟩
      have O6 := Own.grow' hb6 HO5.out
      try simp only [List.setIfInBounds_toArray, List.set_cons_zero, List.set_cons_succ] at O6
      have bw6 : Below w.heap.size w w6 := Below.trans (by go_grown) (Below.mono hb6 (by first | omega | (simp; done) | (simp; omega)))
      have zw6 := Below.size hb6
      try simp only [World.size_alloc, World.size_drew, World.size_setCell] at zw6
      clear c5x0 f5x0 l5x0 l5x0d0 l5x0d1 a5x0 c5x1 f5x1 l5x1 l5x1d0 l5x1d1 a5x1 c5x2 f5x2 l5x2 l5x2d0 l5x2d1 a5x2 c5x3 f5x3 l5x3 l5x3d0 l5x3d1 a5x3 c5x4 f5x4 l5x4 l5x4d0 l5x4d1 a5x4 c5x5 f5x5 l5x5 l5x5d0 l5x5d1 a5x5
      have c6x0 := Own.cell O6 0 rfl
      have f6x0 := Own.free O6 0 rfl
      have l6x0 := Own.lt O6 0 rfl
      have l6x0d0 := le_up 0 l6x0
      have l6x0d1 := le_up 1 l6x0
      simp only [upN] at l6x0d0 l6x0d1
      have a6x0 := fun o1 o2 o3 i => cell_al3 l6x0 o1 o2 o3 i
      have c6x1 := Own.cell O6 1 rfl
      have f6x1 := Own.free O6 1 rfl
      have l6x1 := Own.lt O6 1 rfl
      have l6x1d0 := le_up 0 l6x1
      have l6x1d1 := le_up 1 l6x1
      simp only [upN] at l6x1d0 l6x1d1
      have a6x1 := fun o1 o2 o3 i => cell_al3 l6x1 o1 o2 o3 i
      have c6x2 := Own.cell O6 2 rfl
      have f6x2 := Own.free O6 2 rfl
      have l6x2 := Own.lt O6 2 rfl
      have l6x2d0 := le_up 0 l6x2
      have l6x2d1 := le_up 1 l6x2
      simp only [upN] at l6x2d0 l6x2d1
      have a6x2 := fun o1 o2 o3 i => cell_al3 l6x2 o1 o2 o3 i
      have c6x3 := Own.cell O6 3 rfl
      have f6x3 := Own.free O6 3 rfl
      have l6x3 := Own.lt O6 3 rfl
      have l6x3d0 := le_up 0 l6x3
      have l6x3d1 := le_up 1 l6x3
      simp only [upN] at l6x3d0 l6x3d1
      have a6x3 := fun o1 o2 o3 i => cell_al3 l6x3 o1 o2 o3 i
      have c6x4 := Own.cell O6 4 rfl
      have f6x4 := Own.free O6 4 rfl
      have l6x4 := Own.lt O6 4 rfl
      have l6x4d0 := le_up 0 l6x4
      have l6x4d1 := le_up 1 l6x4
      simp only [upN] at l6x4d0 l6x4d1
      have a6x4 := fun o1 o2 o3 i => cell_al3 l6x4 o1 o2 o3 i
      have c6x5 := Own.cell O6 5 rfl
      have f6x5 := Own.free O6 5 rfl
      have l6x5 := Own.lt O6 5 rfl
      have l6x5d0 := le_up 0 l6x5
      have l6x5d1 := le_up 1 l6x5
      simp only [upN] at l6x5d0 l6x5d1
      have a6x5 := fun o1 o2 o3 i => cell_al3 l6x5 o1 o2 o3 i
      have HO6 := Lib.hid O6
      clear O6 hb6
      go_wp2_with fail
      go_ret
      exact ⟨rfl, by go_grown⟩

set_option maxHeartbeats 8000000 in
set_option maxRecDepth 20000 in
theorem gholds_2 (g h c d : Kn) (m U hl dl : Int) (w : World) (hU : bits .and .u64 g.a 5 = U) (hl1 : bits .andNot .u64 g.a U = 0 → hl = g.l) (hl0 : ¬ bits .andNot .u64 g.a U = 0 → hl = h.l) (dl1 : bits .andNot .u64 c.a U = 0 → dl = c.l) (dl0 : ¬ bits .andNot .u64 c.a U = 0 → dl = d.l)
    (hk1 : ∀ (V : World) (b : Nat), Blk V b #[.int .u64 c.l, .int .u64 c.lo, .int .u64 c.hi, .int .u64 c.a, .int .u64 c.l, .int .u64 c.lo, .int .u64 c.hi, .int .u64 c.a] 40 → Calls Try.prog 16 #[.agg #[.int .u64 g.l, .int .u64 g.lo, .int .u64 g.hi, .int .u64 g.a], .slice (some ⟨b, 0, none⟩) 2 2] V fun e w' => e = .returned (.int .i64 0) ∧ Below V.heap.size V w')
    (hk2 : ∀ (V : World) (b : Nat), Blk V b #[.int .u64 dl, .int .u64 c.lo, .int .u64 c.hi, .int .u64 c.a] 40 → Calls Try.prog 16 #[.agg #[.int .u64 hl, .int .u64 g.lo, .int .u64 g.hi, .int .u64 g.a], .slice (some ⟨b, 0, none⟩) 1 1] V fun e w' => e = .returned (.int .i64 2) ∧ Below V.heap.size V w') :
    Calls Try.prog 4 #[.agg #[.int .u64 g.l, .int .u64 g.lo, .int .u64 g.hi, .int .u64 g.a, .int .u64 h.l, .int .u64 h.lo, .int .u64 h.hi, .int .u64 h.a], .agg #[.int .u64 c.l, .int .u64 c.lo, .int .u64 c.hi, .int .u64 c.a, .int .u64 d.l, .int .u64 d.lo, .int .u64 d.hi, .int .u64 d.a], .int .u64 m] w fun e w' => e = .returned (.bool true) ∧ Below w.heap.size w w' := by
  have HK1 := Lib.hid hk1
  have HK2 := Lib.hid hk2
  clear hk1 hk2
  have hUU : bits .and .u64 g.a 5 = U := hU
  go_enter Try.func4, Try.ntmps4
  go_wp2_with fail
  refine wp_region_grow w.heap.size 8 192 48 [(0, 0, 8388608, 8), (1, 1, 16777216, 8388608), (2, 0, 33554432, 8), (3, 4, 67108864, 33554432), (4, 0, 128, 0), (5, 0, 256, 0), (6, 51, 0, 16777344), (7, 127, 0, 67109120)] [(.p 0, 1), (.p 1, 3), (.p 2, 7), (.p 3, 15), (.gg 4 5, 63), (.c 6, 127), (.c 7, 255)] [] _ (fun p hp => hp) (by first | omega | (simp; done) | (simp; omega)) (by kernel_rfl) (by kernel_rfl) (Own.new (Own.new (Own.nil w) (w.heap.size) (by first | rfl | simp)) (w.heap.size + 1) (by simp)) ?_
  refine wpG_pure (i := 0) (v := ?v1x0) rfl rfl (by rfl) (fun w hB hG K hK => ?h1x0) ?_
  case h1x0 =>
    go_wp2_with fail
    exact hK _ (Below.refl _ _)
  simp only [List.set_cons_zero, List.set_cons_succ]
  refine wpG_pure (i := 1) (v := ?v1x1) rfl rfl (by rfl) (fun w hB hG K hK => ?h1x1) ?_
  case h1x1 =>
    have cx := Own.cell hG 1 rfl
    go_wp2_with fail
    exact hK _ (Below.refl _ _)
  simp only [List.set_cons_zero, List.set_cons_succ]
  refine wpG_pure (i := 2) (v := ?v1x2) rfl rfl (by rfl) (fun w hB hG K hK => ?h1x2) ?_
  case h1x2 =>
    go_wp2_with fail
    exact hK _ (Below.refl _ _)
  simp only [List.set_cons_zero, List.set_cons_succ]
  refine wpG_pure (i := 3) (v := ?v1x3) rfl rfl (by rfl) (fun w hB hG K hK => ?h1x3) ?_
  case h1x3 =>
    have cx := Own.cell hG 1 rfl
    go_wp2_with fail
    exact hK _ (Below.refl _ _)
  simp only [List.set_cons_zero, List.set_cons_succ]
  refine wpG_pair (i := 4) (j := 5) (c := ?c1x4) (t := ?t1x4) (c2 := ?c1x5) (t2 := ?t1x5) (fun b => .pointer (some ⟨b, 0, none⟩)) (fun b => .pointer (some ⟨b, 0, none⟩)) rfl rfl rfl rfl (by rfl) (by rfl) (fun w hB hG K hK => ?h1x4) (fun w hB hG K hK => ?h1x5) (fun v1g1 v1g2 l1g1 l1g2 n1g1 _ _ => ?_)
  case h1x4 =>
    go_wp2_with fail
    exact hK
  case h1x5 =>
    go_wp2_with fail
    exact hK
  simp only [List.set_cons_zero, List.set_cons_succ]
  try simp only [World.size_alloc, World.size_drew, World.size_setCell] at l1g1
  try simp only [World.size_alloc, World.size_drew, World.size_setCell] at l1g2
  refine wpG_store (i := 6) (c' := ?c1x6) 1 rfl (Ne1.cons (by first | omega | (simp; omega)) (Ne1.cons (by first | omega | (simp; omega)) (Ne1.cons (by first | omega | (simp; omega)) Ne1.nil))) (by first | omega | (simp; omega)) (fun p hp => List.mem_cons_of_mem _ (List.mem_cons_of_mem _ (hp))) rfl rfl (by rfl) (fun w hB hF hG K hK => ?h1x6) ?_
  case h1x6 =>
    have cx := hF.cell
    have fx := hF.free
    go_wp2_with fail
    refine hK _ (Same.set (Same.set (Same.set (Same.set (Same.refl _ _) _ _) _ _) _ _) _ _) ?_
    exact (Blk.set (Blk.set (Blk.set (Blk.set hF _ _) _ _) _ _) _ _)
  simp only [List.set_cons_zero, List.set_cons_succ, List.setIfInBounds_toArray]
  refine wpG_store (i := 7) (c' := ?c1x7) 0 rfl (Ne1.cons (by first | omega | (simp; omega)) (Ne1.cons (by first | omega | (simp; omega)) (Ne1.cons (by first | omega | (simp; omega)) Ne1.nil))) (by first | omega | (simp; omega)) (fun p hp => List.mem_cons_of_mem _ (List.mem_cons_of_mem _ (hp))) rfl rfl (by rfl) (fun w hB hF hG K hK => ?h1x7) ?_
  case h1x7 =>
    have cx := hF.cell
    have fx := hF.free
    go_wp2_with fail
    refine hK _ (Same.set (Same.set (Same.set (Same.set (Same.refl _ _) _ _) _ _) _ _) _ _) ?_
    exact (Blk.set (Blk.set (Blk.set (Blk.set hF _ _) _ _) _ _) _ _)
  simp only [List.set_cons_zero, List.set_cons_succ, List.setIfInBounds_toArray]
  refine wpG_nil (fun w1 hb1 hG1 => ?_)
  simp only [List.append_eq, List.cons_append, List.nil_append, List.drop_succ_cons, List.drop_zero, List.drop_nil]
  have u1g1 := Own.lt hG1 1 rfl
  have u1g2 := Own.lt hG1 0 rfl
  have O1 := Own.of hG1
  try simp only [List.setIfInBounds_toArray, List.set_cons_zero, List.set_cons_succ] at O1
  have bw1 : Below w.heap.size w w1 := Below.trans (by go_grown) (Below.mono hb1 (by first | omega | (simp; done) | (simp; omega)))
  have zw1 := Below.size hb1
  try simp only [World.size_alloc, World.size_drew, World.size_setCell] at zw1
  have c1x0 := Own.cell O1 0 rfl
  have f1x0 := Own.free O1 0 rfl
  have l1x0 := Own.lt O1 0 rfl
  have l1x0d0 := le_up 0 l1x0
  have l1x0d1 := le_up 1 l1x0
  simp only [upN] at l1x0d0 l1x0d1
  have a1x0 := fun o1 o2 o3 i => cell_al3 l1x0 o1 o2 o3 i
  have c1x1 := Own.cell O1 1 rfl
  have f1x1 := Own.free O1 1 rfl
  have l1x1 := Own.lt O1 1 rfl
  have l1x1d0 := le_up 0 l1x1
  have l1x1d1 := le_up 1 l1x1
  simp only [upN] at l1x1d0 l1x1d1
  have a1x1 := fun o1 o2 o3 i => cell_al3 l1x1 o1 o2 o3 i
  have c1x2 := Own.cell O1 2 rfl
  have f1x2 := Own.free O1 2 rfl
  have l1x2 := Own.lt O1 2 rfl
  have l1x2d0 := le_up 0 l1x2
  have l1x2d1 := le_up 1 l1x2
  simp only [upN] at l1x2d0 l1x2d1
  have a1x2 := fun o1 o2 o3 i => cell_al3 l1x2 o1 o2 o3 i
  have c1x3 := Own.cell O1 3 rfl
  have f1x3 := Own.free O1 3 rfl
  have l1x3 := Own.lt O1 3 rfl
  have l1x3d0 := le_up 0 l1x3
  have l1x3d1 := le_up 1 l1x3
  simp only [upN] at l1x3d0 l1x3d1
  have a1x3 := fun o1 o2 o3 i => cell_al3 l1x3 o1 o2 o3 i
  have HO1 := Lib.hid O1
  clear O1 hb1
  go_wp2_with fail
  refine wp_region_grow w.heap.size 11 640 0 [(0, 0, 1073741824, 128), (1, 1, 2147483648, 1073741824), (2, 0, 4294967296, 128), (3, 4, 8589934592, 4294967296), (4, 0, 17179869184, 128), (5, 16, 34359738368, 17179869184), (6, 3, 68719476736, 256), (7, 67, 0, 70866960384), (8, 207, 137438953472, 256), (9, 463, 0, 146028888064), (10, 1023, 274877906944, 256), (11, 2047, 0, 309237645312)] [(.p 0, 1), (.p 1, 3), (.p 2, 7), (.p 3, 15), (.p 4, 31), (.p 5, 63), (.p 6, 127), (.c 7, 255), (.p 8, 511), (.c 9, 1023), (.p 10, 2047)] [(11, 4095)] (List.eraseIdx _ 0) (fun p hp => List.mem_of_mem_eraseIdx hp) (by first | omega | (simp; done) | (simp; omega)) (by kernel_rfl) (by kernel_rfl) HO1.out ?_
  refine wpG_pure (i := 0) (v := ?v2x0) rfl rfl (by rfl) (fun w hB hG K hK => ?h2x0) ?_
  case h2x0 =>
    go_wp2_with fail
    exact hK _ (Below.refl _ _)
  simp only [List.set_cons_zero, List.set_cons_succ]
  refine wpG_pure (i := 1) (v := ?v2x1) rfl rfl (by rfl) (fun w hB hG K hK => ?h2x1) ?_
  case h2x1 =>
    have cx := Own.cell hG 0 rfl
    go_wp2_with fail
    exact hK _ (Below.refl _ _)
  simp only [List.set_cons_zero, List.set_cons_succ]
  refine wpG_pure (i := 2) (v := ?v2x2) rfl rfl (by rfl) (fun w hB hG K hK => ?h2x2) ?_
  case h2x2 =>
    go_wp2_with fail
    exact hK _ (Below.refl _ _)
  simp only [List.set_cons_zero, List.set_cons_succ]
  refine wpG_pure (i := 3) (v := ?v2x3) rfl rfl (by rfl) (fun w hB hG K hK => ?h2x3) ?_
  case h2x3 =>
    have cx := Own.cell hG 0 rfl
    go_wp2_with fail
    exact hK _ (Below.refl _ _)
  simp only [List.set_cons_zero, List.set_cons_succ]
  refine wpG_pure (i := 4) (v := ?v2x4) rfl rfl (by rfl) (fun w hB hG K hK => ?h2x4) ?_
  case h2x4 =>
    go_wp2_with fail
    exact hK _ (Below.refl _ _)
  simp only [List.set_cons_zero, List.set_cons_succ]
  refine wpG_pure (i := 5) (v := ?v2x5) rfl rfl (by rfl) (fun w hB hG K hK => ?h2x5) ?_
  case h2x5 =>
    have cx := Own.cell hG 0 rfl
    go_wp2_with fail
    exact hK _ (Below.refl _ _)
  simp only [List.set_cons_zero, List.set_cons_succ]
  refine wpG_pure (i := 6) (v := ?v2x6) rfl rfl (by rfl) (fun w hB hG K hK => ?h2x6) ?_
  case h2x6 =>
    go_wp2_with fail
    exact hK _ (Below.refl _ _)
  simp only [List.set_cons_zero, List.set_cons_succ]
  refine wpG_store (i := 7) (c' := ?c2x7) 0 rfl (Ne1.cons (by first | omega | (simp; omega)) (Ne1.cons (by first | omega | (simp; omega)) (Ne1.cons (by first | omega | (simp; omega)) Ne1.nil))) (by first | omega | (simp; omega)) (fun p hp => mem_set_erase hp) rfl rfl (by rfl) (fun w hB hF hG K hK => ?h2x7) ?_
  case h2x7 =>
    have cx := hF.cell
    have fx := hF.free
    go_wp2_with fail
    refine hK _ (Same.set (Same.refl _ _) _ _) ?_
    exact (Blk.set hF _ _)
  simp only [List.set_cons_zero, List.set_cons_succ, List.setIfInBounds_toArray]
  refine wpG_pure (i := 8) (v := ?v2x8) rfl rfl (by rfl) (fun w hB hG K hK => ?h2x8) ?_
  case h2x8 =>
    go_wp2_with fail
    exact hK _ (Below.refl _ _)
  simp only [List.set_cons_zero, List.set_cons_succ]
  refine wpG_store (i := 9) (c' := ?c2x9) 0 rfl (Ne1.cons (by first | omega | (simp; omega)) (Ne1.cons (by first | omega | (simp; omega)) (Ne1.cons (by first | omega | (simp; omega)) Ne1.nil))) (by first | omega | (simp; omega)) (fun p hp => mem_set_erase hp) rfl rfl (by rfl) (fun w hB hF hG K hK => ?h2x9) ?_
  case h2x9 =>
    have cx := hF.cell
    have fx := hF.free
    go_wp2_with fail
    refine hK _ (Same.set (Same.refl _ _) _ _) ?_
    exact (Blk.set hF _ _)
  simp only [List.set_cons_zero, List.set_cons_succ, List.setIfInBounds_toArray]
  refine wpG_pure (i := 10) (v := ?v2x10) rfl rfl (by rfl) (fun w hB hG K hK => ?h2x10) ?_
  case h2x10 =>
    go_wp2_with fail
    exact hK _ (Below.refl _ _)
  simp only [List.set_cons_zero, List.set_cons_succ]
  refine wpG_nil (fun w2 hb2 hG2 => ?_)
  simp only [List.append_eq, List.cons_append, List.nil_append, List.drop_succ_cons, List.drop_zero, List.drop_nil]
  have O2 := Own.of hG2
  try simp only [List.setIfInBounds_toArray, List.set_cons_zero, List.set_cons_succ] at O2
  have bw2 : Below w.heap.size w w2 := Below.trans (by go_grown) (Below.mono hb2 (by first | omega | (simp; done) | (simp; omega)))
  have zw2 := Below.size hb2
  try simp only [World.size_alloc, World.size_drew, World.size_setCell] at zw2
  clear c1x0 f1x0 l1x0 l1x0d0 l1x0d1 a1x0 c1x1 f1x1 l1x1 l1x1d0 l1x1d1 a1x1 c1x2 f1x2 l1x2 l1x2d0 l1x2d1 a1x2 c1x3 f1x3 l1x3 l1x3d0 l1x3d1 a1x3
  have c2x0 := Own.cell O2 0 rfl
  have f2x0 := Own.free O2 0 rfl
  have l2x0 := Own.lt O2 0 rfl
  have l2x0d0 := le_up 0 l2x0
  have l2x0d1 := le_up 1 l2x0
  simp only [upN] at l2x0d0 l2x0d1
  have a2x0 := fun o1 o2 o3 i => cell_al3 l2x0 o1 o2 o3 i
  have c2x1 := Own.cell O2 1 rfl
  have f2x1 := Own.free O2 1 rfl
  have l2x1 := Own.lt O2 1 rfl
  have l2x1d0 := le_up 0 l2x1
  have l2x1d1 := le_up 1 l2x1
  simp only [upN] at l2x1d0 l2x1d1
  have a2x1 := fun o1 o2 o3 i => cell_al3 l2x1 o1 o2 o3 i
  have c2x2 := Own.cell O2 2 rfl
  have f2x2 := Own.free O2 2 rfl
  have l2x2 := Own.lt O2 2 rfl
  have l2x2d0 := le_up 0 l2x2
  have l2x2d1 := le_up 1 l2x2
  simp only [upN] at l2x2d0 l2x2d1
  have a2x2 := fun o1 o2 o3 i => cell_al3 l2x2 o1 o2 o3 i
  have c2x3 := Own.cell O2 3 rfl
  have f2x3 := Own.free O2 3 rfl
  have l2x3 := Own.lt O2 3 rfl
  have l2x3d0 := le_up 0 l2x3
  have l2x3d1 := le_up 1 l2x3
  simp only [upN] at l2x3d0 l2x3d1
  have a2x3 := fun o1 o2 o3 i => cell_al3 l2x3 o1 o2 o3 i
  have HO2 := Lib.hid O2
  clear O2 hb2
  go_upto_if 49 with (fail)
  go_cut [] (fun wx => Own [(w2.heap.size, #[.int .u64 d.l, .int .u64 c.lo, .int .u64 c.hi, .int .u64 c.a], 40), (v1g2, #[.int .u64 hl, .int .u64 g.lo, .int .u64 g.hi, .int .u64 g.a], 25), (v1g1, #[.int .u64 g.l, .int .u64 g.lo, .int .u64 g.hi, .int .u64 g.a], 25), (w.heap.size + 1, #[.int .u64 c.l, .int .u64 c.lo, .int .u64 c.hi, .int .u64 c.a, .int .u64 d.l, .int .u64 d.lo, .int .u64 d.hi, .int .u64 d.a], 41), (w.heap.size, #[.int .u64 g.l, .int .u64 g.lo, .int .u64 g.hi, .int .u64 g.a, .int .u64 h.l, .int .u64 h.lo, .int .u64 h.hi, .int .u64 h.a], 26)] wx ∧ Below w.heap.size w wx)
  case first =>
    by_cases he : bits .andNot .u64 g.a U = 0
    · have hq := hl1 he
      go_wp2_with fail
      go_meet
      refine ⟨Own.eqv (Own.new (Own.set (Own.set HO2.out 0 rfl (Ne1.cons (by first | omega | (simp; omega)) (Ne1.cons (by first | omega | (simp; omega)) (Ne1.cons (by first | omega | (simp; omega)) Ne1.nil)))) 0 rfl (Ne1.cons (by first | omega | (simp; omega)) (Ne1.cons (by first | omega | (simp; omega)) (Ne1.cons (by first | omega | (simp; omega)) Ne1.nil)))) (w2.heap.size) (by first | rfl | simp)) ?_, by go_grown⟩
      simp only [List.setIfInBounds_toArray, List.set_cons_zero, List.set_cons_succ, hq]
    · have hq := hl0 he
      go_wp2_with fail
      go_meet
      refine ⟨Own.eqv (Own.new (Own.set HO2.out 0 rfl (Ne1.cons (by first | omega | (simp; omega)) (Ne1.cons (by first | omega | (simp; omega)) (Ne1.cons (by first | omega | (simp; omega)) Ne1.nil)))) (w2.heap.size) (by first | rfl | simp)) ?_, by go_grown⟩
      simp only [List.setIfInBounds_toArray, List.set_cons_zero, List.set_cons_succ, hq]
  case rest =>
    obtain ⟨hO, hb⟩ := hcut
    obtain ⟨wc49, rfl⟩ : ∃ x : World, x = wc := ⟨_, rfl⟩
    have bw3 := hb
    clear c2x0 f2x0 l2x0 l2x0d0 l2x0d1 a2x0 c2x1 f2x1 l2x1 l2x1d0 l2x1d1 a2x1 c2x2 f2x2 l2x2 l2x2d0 l2x2d1 a2x2 c2x3 f2x3 l2x3 l2x3d0 l2x3d1 a2x3
    have O3 := hO
    have c3x0 := Own.cell O3 0 rfl
    have f3x0 := Own.free O3 0 rfl
    have l3x0 := Own.lt O3 0 rfl
    have l3x0d0 := le_up 0 l3x0
    have l3x0d1 := le_up 1 l3x0
    simp only [upN] at l3x0d0 l3x0d1
    have c3x1 := Own.cell O3 1 rfl
    have f3x1 := Own.free O3 1 rfl
    have l3x1 := Own.lt O3 1 rfl
    have l3x1d0 := le_up 0 l3x1
    have l3x1d1 := le_up 1 l3x1
    simp only [upN] at l3x1d0 l3x1d1
    have c3x2 := Own.cell O3 2 rfl
    have f3x2 := Own.free O3 2 rfl
    have l3x2 := Own.lt O3 2 rfl
    have l3x2d0 := le_up 0 l3x2
    have l3x2d1 := le_up 1 l3x2
    simp only [upN] at l3x2d0 l3x2d1
    have c3x3 := Own.cell O3 3 rfl
    have f3x3 := Own.free O3 3 rfl
    have l3x3 := Own.lt O3 3 rfl
    have l3x3d0 := le_up 0 l3x3
    have l3x3d1 := le_up 1 l3x3
    simp only [upN] at l3x3d0 l3x3d1
    have c3x4 := Own.cell O3 4 rfl
    have f3x4 := Own.free O3 4 rfl
    have l3x4 := Own.lt O3 4 rfl
    have l3x4d0 := le_up 0 l3x4
    have l3x4d1 := le_up 1 l3x4
    simp only [upN] at l3x4d0 l3x4d1
    have HO3 := Lib.hid O3
    clear O3
    go_upto_if 57 with (fail)
    go_cut [] (fun wx => Own [(w2.heap.size, #[.int .u64 dl, .int .u64 c.lo, .int .u64 c.hi, .int .u64 c.a], 40), (v1g2, #[.int .u64 hl, .int .u64 g.lo, .int .u64 g.hi, .int .u64 g.a], 25), (v1g1, #[.int .u64 g.l, .int .u64 g.lo, .int .u64 g.hi, .int .u64 g.a], 25), (w.heap.size + 1, #[.int .u64 c.l, .int .u64 c.lo, .int .u64 c.hi, .int .u64 c.a, .int .u64 d.l, .int .u64 d.lo, .int .u64 d.hi, .int .u64 d.a], 41), (w.heap.size, #[.int .u64 g.l, .int .u64 g.lo, .int .u64 g.hi, .int .u64 g.a, .int .u64 h.l, .int .u64 h.lo, .int .u64 h.hi, .int .u64 h.a], 26)] wx ∧ Below w.heap.size w wx)
    case first =>
      by_cases he : bits .andNot .u64 c.a U = 0
      · have hq := dl1 he
        go_wp2_with fail
        go_meet
        refine ⟨Own.eqv (Own.set HO3.out 0 rfl (Ne1.cons (by first | omega | (simp; omega)) (Ne1.cons (by first | omega | (simp; omega)) (Ne1.cons (by first | omega | (simp; omega)) (Ne1.cons (by first | omega | (simp; omega)) Ne1.nil))))) ?_, by go_grown⟩
        simp only [List.setIfInBounds_toArray, List.set_cons_zero, List.set_cons_succ, hq]
      · have hq := dl0 he
        go_wp2_with fail
        go_meet
        refine ⟨Own.eqv HO3.out ?_, by go_grown⟩
        simp only [List.setIfInBounds_toArray, List.set_cons_zero, List.set_cons_succ, hq]
    case rest =>
      obtain ⟨hO, hb⟩ := hcut
      obtain ⟨wc57, rfl⟩ : ∃ x : World, x = wc := ⟨_, rfl⟩
      have bw4 := hb
      clear c3x0 f3x0 l3x0 l3x0d0 l3x0d1 c3x1 f3x1 l3x1 l3x1d0 l3x1d1 c3x2 f3x2 l3x2 l3x2d0 l3x2d1 c3x3 f3x3 l3x3 l3x3d0 l3x3d1 c3x4 f3x4 l3x4 l3x4d0 l3x4d1
      have O4 := hO
      have c4x0 := Own.cell O4 0 rfl
      have f4x0 := Own.free O4 0 rfl
      have l4x0 := Own.lt O4 0 rfl
      have l4x0d0 := le_up 0 l4x0
      have l4x0d1 := le_up 1 l4x0
      simp only [upN] at l4x0d0 l4x0d1
      have c4x1 := Own.cell O4 1 rfl
      have f4x1 := Own.free O4 1 rfl
      have l4x1 := Own.lt O4 1 rfl
      have l4x1d0 := le_up 0 l4x1
      have l4x1d1 := le_up 1 l4x1
      simp only [upN] at l4x1d0 l4x1d1
      have c4x2 := Own.cell O4 2 rfl
      have f4x2 := Own.free O4 2 rfl
      have l4x2 := Own.lt O4 2 rfl
      have l4x2d0 := le_up 0 l4x2
      have l4x2d1 := le_up 1 l4x2
      simp only [upN] at l4x2d0 l4x2d1
      have c4x3 := Own.cell O4 3 rfl
      have f4x3 := Own.free O4 3 rfl
      have l4x3 := Own.lt O4 3 rfl
      have l4x3d0 := le_up 0 l4x3
      have l4x3d1 := le_up 1 l4x3
      simp only [upN] at l4x3d0 l4x3d1
      have c4x4 := Own.cell O4 4 rfl
      have f4x4 := Own.free O4 4 rfl
      have l4x4 := Own.lt O4 4 rfl
      have l4x4d0 := le_up 0 l4x4
      have l4x4d1 := le_up 1 l4x4
      simp only [upN] at l4x4d0 l4x4d1
      have HO4 := Lib.hid O4
      clear O4
      go_wp2_with fail
      refine (HK1.out _ _ ((Own.get (Own.new HO4.out (wc57.heap.size) (by first | rfl | simp)) 0 rfl))).mono ?_
      rintro e w5 ⟨rfl, hb5⟩
      have O5 := Own.grow' hb5 (Own.new HO4.out (wc57.heap.size) (by first | rfl | simp))
      try simp only [List.setIfInBounds_toArray, List.set_cons_zero, List.set_cons_succ] at O5
      have bw5 : Below w.heap.size w w5 := Below.trans (by go_grown) (Below.mono hb5 (by first | omega | (simp; done) | (simp; omega)))
      have zw5 := Below.size hb5
      try simp only [World.size_alloc, World.size_drew, World.size_setCell] at zw5
      clear c4x0 f4x0 l4x0 l4x0d0 l4x0d1 c4x1 f4x1 l4x1 l4x1d0 l4x1d1 c4x2 f4x2 l4x2 l4x2d0 l4x2d1 c4x3 f4x3 l4x3 l4x3d0 l4x3d1 c4x4 f4x4 l4x4 l4x4d0 l4x4d1
      have c5x0 := Own.cell O5 0 rfl
      have f5x0 := Own.free O5 0 rfl
      have l5x0 := Own.lt O5 0 rfl
      have l5x0d0 := le_up 0 l5x0
      have l5x0d1 := le_up 1 l5x0
      simp only [upN] at l5x0d0 l5x0d1
      have a5x0 := fun o1 o2 o3 i => cell_al3 l5x0 o1 o2 o3 i
      have c5x1 := Own.cell O5 1 rfl
      have f5x1 := Own.free O5 1 rfl
      have l5x1 := Own.lt O5 1 rfl
      have l5x1d0 := le_up 0 l5x1
      have l5x1d1 := le_up 1 l5x1
      simp only [upN] at l5x1d0 l5x1d1
      have a5x1 := fun o1 o2 o3 i => cell_al3 l5x1 o1 o2 o3 i
      have c5x2 := Own.cell O5 2 rfl
      have f5x2 := Own.free O5 2 rfl
      have l5x2 := Own.lt O5 2 rfl
      have l5x2d0 := le_up 0 l5x2
      have l5x2d1 := le_up 1 l5x2
      simp only [upN] at l5x2d0 l5x2d1
      have a5x2 := fun o1 o2 o3 i => cell_al3 l5x2 o1 o2 o3 i
      have c5x3 := Own.cell O5 3 rfl
      have f5x3 := Own.free O5 3 rfl
      have l5x3 := Own.lt O5 3 rfl
      have l5x3d0 := le_up 0 l5x3
      have l5x3d1 := le_up 1 l5x3
      simp only [upN] at l5x3d0 l5x3d1
      have a5x3 := fun o1 o2 o3 i => cell_al3 l5x3 o1 o2 o3 i
      have c5x4 := Own.cell O5 4 rfl
      have f5x4 := Own.free O5 4 rfl
      have l5x4 := Own.lt O5 4 rfl
      have l5x4d0 := le_up 0 l5x4
      have l5x4d1 := le_up 1 l5x4
      simp only [upN] at l5x4d0 l5x4d1
      have a5x4 := fun o1 o2 o3 i => cell_al3 l5x4 o1 o2 o3 i
      have c5x5 := Own.cell O5 5 rfl
      have f5x5 := Own.free O5 5 rfl
      have l5x5 := Own.lt O5 5 rfl
      have l5x5d0 := le_up 0 l5x5
      have l5x5d1 := le_up 1 l5x5
      simp only [upN] at l5x5d0 l5x5d1
      have a5x5 := fun o1 o2 o3 i => cell_al3 l5x5 o1 o2 o3 i
      have HO5 := Lib.hid O5
      clear O5 hb5
      go_wp2_with fail
      refine (num_any _ _).mono ?_
      rintro e w' ⟨rfl, rfl⟩
      go_wp2_with fail
      refine (HK2.out _ _ ((Own.get (Own.new HO5.out (w5.heap.size) (by first | rfl | simp)) 0 rfl))).mono ?_
      rintro e w6 ⟨rfl, hb6⟩
      have O6 := Own.grow' hb6 (Own.new HO5.out (w5.heap.size) (by first | rfl | simp))
      try simp only [List.setIfInBounds_toArray, List.set_cons_zero, List.set_cons_succ] at O6
      have bw6 : Below w.heap.size w w6 := Below.trans (by go_grown) (Below.mono hb6 (by first | omega | (simp; done) | (simp; omega)))
      have zw6 := Below.size hb6
      try simp only [World.size_alloc, World.size_drew, World.size_setCell] at zw6
      clear c5x0 f5x0 l5x0 l5x0d0 l5x0d1 a5x0 c5x1 f5x1 l5x1 l5x1d0 l5x1d1 a5x1 c5x2 f5x2 l5x2 l5x2d0 l5x2d1 a5x2 c5x3 f5x3 l5x3 l5x3d0 l5x3d1 a5x3 c5x4 f5x4 l5x4 l5x4d0 l5x4d1 a5x4 c5x5 f5x5 l5x5 l5x5d0 l5x5d1 a5x5
      have c6x0 := Own.cell O6 0 rfl
      have f6x0 := Own.free O6 0 rfl
      have l6x0 := Own.lt O6 0 rfl
      have l6x0d0 := le_up 0 l6x0
      have l6x0d1 := le_up 1 l6x0
      simp only [upN] at l6x0d0 l6x0d1
      have a6x0 := fun o1 o2 o3 i => cell_al3 l6x0 o1 o2 o3 i
      have c6x1 := Own.cell O6 1 rfl
      have f6x1 := Own.free O6 1 rfl
      have l6x1 := Own.lt O6 1 rfl
      have l6x1d0 := le_up 0 l6x1
      have l6x1d1 := le_up 1 l6x1
      simp only [upN] at l6x1d0 l6x1d1
      have a6x1 := fun o1 o2 o3 i => cell_al3 l6x1 o1 o2 o3 i
      have c6x2 := Own.cell O6 2 rfl
      have f6x2 := Own.free O6 2 rfl
      have l6x2 := Own.lt O6 2 rfl
      have l6x2d0 := le_up 0 l6x2
      have l6x2d1 := le_up 1 l6x2
      simp only [upN] at l6x2d0 l6x2d1
      have a6x2 := fun o1 o2 o3 i => cell_al3 l6x2 o1 o2 o3 i
      have c6x3 := Own.cell O6 3 rfl
      have f6x3 := Own.free O6 3 rfl
      have l6x3 := Own.lt O6 3 rfl
      have l6x3d0 := le_up 0 l6x3
      have l6x3d1 := le_up 1 l6x3
      simp only [upN] at l6x3d0 l6x3d1
      have a6x3 := fun o1 o2 o3 i => cell_al3 l6x3 o1 o2 o3 i
      have c6x4 := Own.cell O6 4 rfl
      have f6x4 := Own.free O6 4 rfl
      have l6x4 := Own.lt O6 4 rfl
      have l6x4d0 := le_up 0 l6x4
      have l6x4d1 := le_up 1 l6x4
      simp only [upN] at l6x4d0 l6x4d1
      have a6x4 := fun o1 o2 o3 i => cell_al3 l6x4 o1 o2 o3 i
      have c6x5 := Own.cell O6 5 rfl
      have f6x5 := Own.free O6 5 rfl
      have l6x5 := Own.lt O6 5 rfl
      have l6x5d0 := le_up 0 l6x5
      have l6x5d1 := le_up 1 l6x5
      simp only [upN] at l6x5d0 l6x5d1
      have a6x5 := fun o1 o2 o3 i => cell_al3 l6x5 o1 o2 o3 i
      have c6x6 := Own.cell O6 6 rfl
      have f6x6 := Own.free O6 6 rfl
      have l6x6 := Own.lt O6 6 rfl
      have l6x6d0 := le_up 0 l6x6
      have l6x6d1 := le_up 1 l6x6
      simp only [upN] at l6x6d0 l6x6d1
      have a6x6 := fun o1 o2 o3 i => cell_al3 l6x6 o1 o2 o3 i
      have HO6 := Lib.hid O6
      clear O6 hb6
      go_wp2_with fail
      refine (num_any _ _).mono ?_
      rintro e w' ⟨rfl, rfl⟩
      go_wp2_with fail
      refine (works_any _).mono ?_
      rintro e w7 ⟨rfl, hb7⟩
      have O7 := Own.grow' hb7 HO6.out
      try simp only [List.setIfInBounds_toArray, List.set_cons_zero, List.set_cons_succ] at O7
      have bw7 : Below w.heap.size w w7 := Below.trans (by go_grown) (Below.mono hb7 (by first | omega | (simp; done) | (simp; omega)))
      have zw7 := Below.size hb7
      try simp only [World.size_alloc, World.size_drew, World.size_setCell] at zw7
      clear c6x0 f6x0 l6x0 l6x0d0 l6x0d1 a6x0 c6x1 f6x1 l6x1 l6x1d0 l6x1d1 a6x1 c6x2 f6x2 l6x2 l6x2d0 l6x2d1 a6x2 c6x3 f6x3 l6x3 l6x3d0 l6x3d1 a6x3 c6x4 f6x4 l6x4 l6x4d0 l6x4d1 a6x4 c6x5 f6x5 l6x5 l6x5d0 l6x5d1 a6x5 c6x6 f6x6 l6x6 l6x6d0 l6x6d1 a6x6
      have c7x0 := Own.cell O7 0 rfl
      have f7x0 := Own.free O7 0 rfl
      have l7x0 := Own.lt O7 0 rfl
      have l7x0d0 := le_up 0 l7x0
      have l7x0d1 := le_up 1 l7x0
      simp only [upN] at l7x0d0 l7x0d1
      have a7x0 := fun o1 o2 o3 i => cell_al3 l7x0 o1 o2 o3 i
      have c7x1 := Own.cell O7 1 rfl
      have f7x1 := Own.free O7 1 rfl
      have l7x1 := Own.lt O7 1 rfl
      have l7x1d0 := le_up 0 l7x1
      have l7x1d1 := le_up 1 l7x1
      simp only [upN] at l7x1d0 l7x1d1
      have a7x1 := fun o1 o2 o3 i => cell_al3 l7x1 o1 o2 o3 i
      have c7x2 := Own.cell O7 2 rfl
      have f7x2 := Own.free O7 2 rfl
      have l7x2 := Own.lt O7 2 rfl
      have l7x2d0 := le_up 0 l7x2
      have l7x2d1 := le_up 1 l7x2
      simp only [upN] at l7x2d0 l7x2d1
      have a7x2 := fun o1 o2 o3 i => cell_al3 l7x2 o1 o2 o3 i
      have c7x3 := Own.cell O7 3 rfl
      have f7x3 := Own.free O7 3 rfl
      have l7x3 := Own.lt O7 3 rfl
      have l7x3d0 := le_up 0 l7x3
      have l7x3d1 := le_up 1 l7x3
      simp only [upN] at l7x3d0 l7x3d1
      have a7x3 := fun o1 o2 o3 i => cell_al3 l7x3 o1 o2 o3 i
      have c7x4 := Own.cell O7 4 rfl
      have f7x4 := Own.free O7 4 rfl
      have l7x4 := Own.lt O7 4 rfl
      have l7x4d0 := le_up 0 l7x4
      have l7x4d1 := le_up 1 l7x4
      simp only [upN] at l7x4d0 l7x4d1
      have a7x4 := fun o1 o2 o3 i => cell_al3 l7x4 o1 o2 o3 i
      have c7x5 := Own.cell O7 5 rfl
      have f7x5 := Own.free O7 5 rfl
      have l7x5 := Own.lt O7 5 rfl
      have l7x5d0 := le_up 0 l7x5
      have l7x5d1 := le_up 1 l7x5
      simp only [upN] at l7x5d0 l7x5d1
      have a7x5 := fun o1 o2 o3 i => cell_al3 l7x5 o1 o2 o3 i
      have c7x6 := Own.cell O7 6 rfl
      have f7x6 := Own.free O7 6 rfl
      have l7x6 := Own.lt O7 6 rfl
      have l7x6d0 := le_up 0 l7x6
      have l7x6d1 := le_up 1 l7x6
      simp only [upN] at l7x6d0 l7x6d1
      have a7x6 := fun o1 o2 o3 i => cell_al3 l7x6 o1 o2 o3 i
      have HO7 := Lib.hid O7
      clear O7 hb7
      go_wp2_with fail
      go_ret
      exact ⟨rfl, by go_grown⟩

set_option maxHeartbeats 8000000 in
set_option maxRecDepth 20000 in
theorem gholds_3 (g h c d : Kn) (m U hl dl : Int) (w : World) (hU : bits .and .u64 g.a 5 = U) (hl1 : bits .andNot .u64 g.a U = 0 → hl = g.l) (hl0 : ¬ bits .andNot .u64 g.a U = 0 → hl = h.l) (dl1 : bits .andNot .u64 c.a U = 0 → dl = c.l) (dl0 : ¬ bits .andNot .u64 c.a U = 0 → dl = d.l)
    (hk1 : ∀ (V : World) (b : Nat), Blk V b #[.int .u64 c.l, .int .u64 c.lo, .int .u64 c.hi, .int .u64 c.a, .int .u64 c.l, .int .u64 c.lo, .int .u64 c.hi, .int .u64 c.a] 40 → Calls Try.prog 16 #[.agg #[.int .u64 g.l, .int .u64 g.lo, .int .u64 g.hi, .int .u64 g.a], .slice (some ⟨b, 0, none⟩) 2 2] V fun e w' => e = .returned (.int .i64 0) ∧ Below V.heap.size V w')
    (hk2 : ∀ (V : World) (b : Nat), Blk V b #[.int .u64 dl, .int .u64 c.lo, .int .u64 c.hi, .int .u64 c.a] 40 → Calls Try.prog 16 #[.agg #[.int .u64 hl, .int .u64 g.lo, .int .u64 g.hi, .int .u64 g.a], .slice (some ⟨b, 0, none⟩) 1 1] V fun e w' => e = .returned (.int .i64 0) ∧ Below V.heap.size V w')
    (d5 : decide (1099511627776 < m) = true) :
    Calls Try.prog 4 #[.agg #[.int .u64 g.l, .int .u64 g.lo, .int .u64 g.hi, .int .u64 g.a, .int .u64 h.l, .int .u64 h.lo, .int .u64 h.hi, .int .u64 h.a], .agg #[.int .u64 c.l, .int .u64 c.lo, .int .u64 c.hi, .int .u64 c.a, .int .u64 d.l, .int .u64 d.lo, .int .u64 d.hi, .int .u64 d.a], .int .u64 m] w fun e w' => e = .returned (.bool true) ∧ Below w.heap.size w w' := by
  have HK1 := Lib.hid hk1
  have HK2 := Lib.hid hk2
  clear hk1 hk2
  have hUU : bits .and .u64 g.a 5 = U := hU
  go_enter Try.func4, Try.ntmps4
  go_wp2_with fail
  refine wp_region_grow w.heap.size 8 192 48 [(0, 0, 8388608, 8), (1, 1, 16777216, 8388608), (2, 0, 33554432, 8), (3, 4, 67108864, 33554432), (4, 0, 128, 0), (5, 0, 256, 0), (6, 51, 0, 16777344), (7, 127, 0, 67109120)] [(.p 0, 1), (.p 1, 3), (.p 2, 7), (.p 3, 15), (.gg 4 5, 63), (.c 6, 127), (.c 7, 255)] [] _ (fun p hp => hp) (by first | omega | (simp; done) | (simp; omega)) (by kernel_rfl) (by kernel_rfl) (Own.new (Own.new (Own.nil w) (w.heap.size) (by first | rfl | simp)) (w.heap.size + 1) (by simp)) ?_
  refine wpG_pure (i := 0) (v := ?v1x0) rfl rfl (by rfl) (fun w hB hG K hK => ?h1x0) ?_
  case h1x0 =>
    go_wp2_with fail
    exact hK _ (Below.refl _ _)
  simp only [List.set_cons_zero, List.set_cons_succ]
  refine wpG_pure (i := 1) (v := ?v1x1) rfl rfl (by rfl) (fun w hB hG K hK => ?h1x1) ?_
  case h1x1 =>
    have cx := Own.cell hG 1 rfl
    go_wp2_with fail
    exact hK _ (Below.refl _ _)
  simp only [List.set_cons_zero, List.set_cons_succ]
  refine wpG_pure (i := 2) (v := ?v1x2) rfl rfl (by rfl) (fun w hB hG K hK => ?h1x2) ?_
  case h1x2 =>
    go_wp2_with fail
    exact hK _ (Below.refl _ _)
  simp only [List.set_cons_zero, List.set_cons_succ]
  refine wpG_pure (i := 3) (v := ?v1x3) rfl rfl (by rfl) (fun w hB hG K hK => ?h1x3) ?_
  case h1x3 =>
    have cx := Own.cell hG 1 rfl
    go_wp2_with fail
    exact hK _ (Below.refl _ _)
  simp only [List.set_cons_zero, List.set_cons_succ]
  refine wpG_pair (i := 4) (j := 5) (c := ?c1x4) (t := ?t1x4) (c2 := ?c1x5) (t2 := ?t1x5) (fun b => .pointer (some ⟨b, 0, none⟩)) (fun b => .pointer (some ⟨b, 0, none⟩)) rfl rfl rfl rfl (by rfl) (by rfl) (fun w hB hG K hK => ?h1x4) (fun w hB hG K hK => ?h1x5) (fun v1g1 v1g2 l1g1 l1g2 n1g1 _ _ => ?_)
  case h1x4 =>
    go_wp2_with fail
    exact hK
  case h1x5 =>
    go_wp2_with fail
    exact hK
  simp only [List.set_cons_zero, List.set_cons_succ]
  try simp only [World.size_alloc, World.size_drew, World.size_setCell] at l1g1
  try simp only [World.size_alloc, World.size_drew, World.size_setCell] at l1g2
  refine wpG_store (i := 6) (c' := ?c1x6) 1 rfl (Ne1.cons (by first | omega | (simp; omega)) (Ne1.cons (by first | omega | (simp; omega)) (Ne1.cons (by first | omega | (simp; omega)) Ne1.nil))) (by first | omega | (simp; omega)) (fun p hp => List.mem_cons_of_mem _ (List.mem_cons_of_mem _ (hp))) rfl rfl (by rfl) (fun w hB hF hG K hK => ?h1x6) ?_
  case h1x6 =>
    have cx := hF.cell
    have fx := hF.free
    go_wp2_with fail
    refine hK _ (Same.set (Same.set (Same.set (Same.set (Same.refl _ _) _ _) _ _) _ _) _ _) ?_
    exact (Blk.set (Blk.set (Blk.set (Blk.set hF _ _) _ _) _ _) _ _)
  simp only [List.set_cons_zero, List.set_cons_succ, List.setIfInBounds_toArray]
  refine wpG_store (i := 7) (c' := ?c1x7) 0 rfl (Ne1.cons (by first | omega | (simp; omega)) (Ne1.cons (by first | omega | (simp; omega)) (Ne1.cons (by first | omega | (simp; omega)) Ne1.nil))) (by first | omega | (simp; omega)) (fun p hp => List.mem_cons_of_mem _ (List.mem_cons_of_mem _ (hp))) rfl rfl (by rfl) (fun w hB hF hG K hK => ?h1x7) ?_
  case h1x7 =>
    have cx := hF.cell
    have fx := hF.free
    go_wp2_with fail
    refine hK _ (Same.set (Same.set (Same.set (Same.set (Same.refl _ _) _ _) _ _) _ _) _ _) ?_
    exact (Blk.set (Blk.set (Blk.set (Blk.set hF _ _) _ _) _ _) _ _)
  simp only [List.set_cons_zero, List.set_cons_succ, List.setIfInBounds_toArray]
  refine wpG_nil (fun w1 hb1 hG1 => ?_)
  simp only [List.append_eq, List.cons_append, List.nil_append, List.drop_succ_cons, List.drop_zero, List.drop_nil]
  have u1g1 := Own.lt hG1 1 rfl
  have u1g2 := Own.lt hG1 0 rfl
  have O1 := Own.of hG1
  try simp only [List.setIfInBounds_toArray, List.set_cons_zero, List.set_cons_succ] at O1
  have bw1 : Below w.heap.size w w1 := Below.trans (by go_grown) (Below.mono hb1 (by first | omega | (simp; done) | (simp; omega)))
  have zw1 := Below.size hb1
  try simp only [World.size_alloc, World.size_drew, World.size_setCell] at zw1
  have c1x0 := Own.cell O1 0 rfl
  have f1x0 := Own.free O1 0 rfl
  have l1x0 := Own.lt O1 0 rfl
  have l1x0d0 := le_up 0 l1x0
  have l1x0d1 := le_up 1 l1x0
  simp only [upN] at l1x0d0 l1x0d1
  have a1x0 := fun o1 o2 o3 i => cell_al3 l1x0 o1 o2 o3 i
  have c1x1 := Own.cell O1 1 rfl
  have f1x1 := Own.free O1 1 rfl
  have l1x1 := Own.lt O1 1 rfl
  have l1x1d0 := le_up 0 l1x1
  have l1x1d1 := le_up 1 l1x1
  simp only [upN] at l1x1d0 l1x1d1
  have a1x1 := fun o1 o2 o3 i => cell_al3 l1x1 o1 o2 o3 i
  have c1x2 := Own.cell O1 2 rfl
  have f1x2 := Own.free O1 2 rfl
  have l1x2 := Own.lt O1 2 rfl
  have l1x2d0 := le_up 0 l1x2
  have l1x2d1 := le_up 1 l1x2
  simp only [upN] at l1x2d0 l1x2d1
  have a1x2 := fun o1 o2 o3 i => cell_al3 l1x2 o1 o2 o3 i
  have c1x3 := Own.cell O1 3 rfl
  have f1x3 := Own.free O1 3 rfl
  have l1x3 := Own.lt O1 3 rfl
  have l1x3d0 := le_up 0 l1x3
  have l1x3d1 := le_up 1 l1x3
  simp only [upN] at l1x3d0 l1x3d1
  have a1x3 := fun o1 o2 o3 i => cell_al3 l1x3 o1 o2 o3 i
  have HO1 := Lib.hid O1
  clear O1 hb1
  go_wp2_with fail
  refine wp_region_grow w.heap.size 11 640 0 [(0, 0, 1073741824, 128), (1, 1, 2147483648, 1073741824), (2, 0, 4294967296, 128), (3, 4, 8589934592, 4294967296), (4, 0, 17179869184, 128), (5, 16, 34359738368, 17179869184), (6, 3, 68719476736, 256), (7, 67, 0, 70866960384), (8, 207, 137438953472, 256), (9, 463, 0, 146028888064), (10, 1023, 274877906944, 256), (11, 2047, 0, 309237645312)] [(.p 0, 1), (.p 1, 3), (.p 2, 7), (.p 3, 15), (.p 4, 31), (.p 5, 63), (.p 6, 127), (.c 7, 255), (.p 8, 511), (.c 9, 1023), (.p 10, 2047)] [(11, 4095)] (List.eraseIdx _ 0) (fun p hp => List.mem_of_mem_eraseIdx hp) (by first | omega | (simp; done) | (simp; omega)) (by kernel_rfl) (by kernel_rfl) HO1.out ?_
  refine wpG_pure (i := 0) (v := ?v2x0) rfl rfl (by rfl) (fun w hB hG K hK => ?h2x0) ?_
  case h2x0 =>
    go_wp2_with fail
    exact hK _ (Below.refl _ _)
  simp only [List.set_cons_zero, List.set_cons_succ]
  refine wpG_pure (i := 1) (v := ?v2x1) rfl rfl (by rfl) (fun w hB hG K hK => ?h2x1) ?_
  case h2x1 =>
    have cx := Own.cell hG 0 rfl
    go_wp2_with fail
    exact hK _ (Below.refl _ _)
  simp only [List.set_cons_zero, List.set_cons_succ]
  refine wpG_pure (i := 2) (v := ?v2x2) rfl rfl (by rfl) (fun w hB hG K hK => ?h2x2) ?_
  case h2x2 =>
    go_wp2_with fail
    exact hK _ (Below.refl _ _)
  simp only [List.set_cons_zero, List.set_cons_succ]
  refine wpG_pure (i := 3) (v := ?v2x3) rfl rfl (by rfl) (fun w hB hG K hK => ?h2x3) ?_
  case h2x3 =>
    have cx := Own.cell hG 0 rfl
    go_wp2_with fail
    exact hK _ (Below.refl _ _)
  simp only [List.set_cons_zero, List.set_cons_succ]
  refine wpG_pure (i := 4) (v := ?v2x4) rfl rfl (by rfl) (fun w hB hG K hK => ?h2x4) ?_
  case h2x4 =>
    go_wp2_with fail
    exact hK _ (Below.refl _ _)
  simp only [List.set_cons_zero, List.set_cons_succ]
  refine wpG_pure (i := 5) (v := ?v2x5) rfl rfl (by rfl) (fun w hB hG K hK => ?h2x5) ?_
  case h2x5 =>
    have cx := Own.cell hG 0 rfl
    go_wp2_with fail
    exact hK _ (Below.refl _ _)
  simp only [List.set_cons_zero, List.set_cons_succ]
  refine wpG_pure (i := 6) (v := ?v2x6) rfl rfl (by rfl) (fun w hB hG K hK => ?h2x6) ?_
  case h2x6 =>
    go_wp2_with fail
    exact hK _ (Below.refl _ _)
  simp only [List.set_cons_zero, List.set_cons_succ]
  refine wpG_store (i := 7) (c' := ?c2x7) 0 rfl (Ne1.cons (by first | omega | (simp; omega)) (Ne1.cons (by first | omega | (simp; omega)) (Ne1.cons (by first | omega | (simp; omega)) Ne1.nil))) (by first | omega | (simp; omega)) (fun p hp => mem_set_erase hp) rfl rfl (by rfl) (fun w hB hF hG K hK => ?h2x7) ?_
  case h2x7 =>
    have cx := hF.cell
    have fx := hF.free
    go_wp2_with fail
    refine hK _ (Same.set (Same.refl _ _) _ _) ?_
    exact (Blk.set hF _ _)
  simp only [List.set_cons_zero, List.set_cons_succ, List.setIfInBounds_toArray]
  refine wpG_pure (i := 8) (v := ?v2x8) rfl rfl (by rfl) (fun w hB hG K hK => ?h2x8) ?_
  case h2x8 =>
    go_wp2_with fail
    exact hK _ (Below.refl _ _)
  simp only [List.set_cons_zero, List.set_cons_succ]
  refine wpG_store (i := 9) (c' := ?c2x9) 0 rfl (Ne1.cons (by first | omega | (simp; omega)) (Ne1.cons (by first | omega | (simp; omega)) (Ne1.cons (by first | omega | (simp; omega)) Ne1.nil))) (by first | omega | (simp; omega)) (fun p hp => mem_set_erase hp) rfl rfl (by rfl) (fun w hB hF hG K hK => ?h2x9) ?_
  case h2x9 =>
    have cx := hF.cell
    have fx := hF.free
    go_wp2_with fail
    refine hK _ (Same.set (Same.refl _ _) _ _) ?_
    exact (Blk.set hF _ _)
  simp only [List.set_cons_zero, List.set_cons_succ, List.setIfInBounds_toArray]
  refine wpG_pure (i := 10) (v := ?v2x10) rfl rfl (by rfl) (fun w hB hG K hK => ?h2x10) ?_
  case h2x10 =>
    go_wp2_with fail
    exact hK _ (Below.refl _ _)
  simp only [List.set_cons_zero, List.set_cons_succ]
  refine wpG_nil (fun w2 hb2 hG2 => ?_)
  simp only [List.append_eq, List.cons_append, List.nil_append, List.drop_succ_cons, List.drop_zero, List.drop_nil]
  have O2 := Own.of hG2
  try simp only [List.setIfInBounds_toArray, List.set_cons_zero, List.set_cons_succ] at O2
  have bw2 : Below w.heap.size w w2 := Below.trans (by go_grown) (Below.mono hb2 (by first | omega | (simp; done) | (simp; omega)))
  have zw2 := Below.size hb2
  try simp only [World.size_alloc, World.size_drew, World.size_setCell] at zw2
  clear c1x0 f1x0 l1x0 l1x0d0 l1x0d1 a1x0 c1x1 f1x1 l1x1 l1x1d0 l1x1d1 a1x1 c1x2 f1x2 l1x2 l1x2d0 l1x2d1 a1x2 c1x3 f1x3 l1x3 l1x3d0 l1x3d1 a1x3
  have c2x0 := Own.cell O2 0 rfl
  have f2x0 := Own.free O2 0 rfl
  have l2x0 := Own.lt O2 0 rfl
  have l2x0d0 := le_up 0 l2x0
  have l2x0d1 := le_up 1 l2x0
  simp only [upN] at l2x0d0 l2x0d1
  have a2x0 := fun o1 o2 o3 i => cell_al3 l2x0 o1 o2 o3 i
  have c2x1 := Own.cell O2 1 rfl
  have f2x1 := Own.free O2 1 rfl
  have l2x1 := Own.lt O2 1 rfl
  have l2x1d0 := le_up 0 l2x1
  have l2x1d1 := le_up 1 l2x1
  simp only [upN] at l2x1d0 l2x1d1
  have a2x1 := fun o1 o2 o3 i => cell_al3 l2x1 o1 o2 o3 i
  have c2x2 := Own.cell O2 2 rfl
  have f2x2 := Own.free O2 2 rfl
  have l2x2 := Own.lt O2 2 rfl
  have l2x2d0 := le_up 0 l2x2
  have l2x2d1 := le_up 1 l2x2
  simp only [upN] at l2x2d0 l2x2d1
  have a2x2 := fun o1 o2 o3 i => cell_al3 l2x2 o1 o2 o3 i
  have c2x3 := Own.cell O2 3 rfl
  have f2x3 := Own.free O2 3 rfl
  have l2x3 := Own.lt O2 3 rfl
  have l2x3d0 := le_up 0 l2x3
  have l2x3d1 := le_up 1 l2x3
  simp only [upN] at l2x3d0 l2x3d1
  have a2x3 := fun o1 o2 o3 i => cell_al3 l2x3 o1 o2 o3 i
  have HO2 := Lib.hid O2
  clear O2 hb2
  go_upto_if 49 with (fail)
  go_cut [] (fun wx => Own [(w2.heap.size, #[.int .u64 d.l, .int .u64 c.lo, .int .u64 c.hi, .int .u64 c.a], 40), (v1g2, #[.int .u64 hl, .int .u64 g.lo, .int .u64 g.hi, .int .u64 g.a], 25), (v1g1, #[.int .u64 g.l, .int .u64 g.lo, .int .u64 g.hi, .int .u64 g.a], 25), (w.heap.size + 1, #[.int .u64 c.l, .int .u64 c.lo, .int .u64 c.hi, .int .u64 c.a, .int .u64 d.l, .int .u64 d.lo, .int .u64 d.hi, .int .u64 d.a], 41), (w.heap.size, #[.int .u64 g.l, .int .u64 g.lo, .int .u64 g.hi, .int .u64 g.a, .int .u64 h.l, .int .u64 h.lo, .int .u64 h.hi, .int .u64 h.a], 26)] wx ∧ Below w.heap.size w wx)
  case first =>
    by_cases he : bits .andNot .u64 g.a U = 0
    · have hq := hl1 he
      go_wp2_with fail
      go_meet
      refine ⟨Own.eqv (Own.new (Own.set (Own.set HO2.out 0 rfl (Ne1.cons (by first | omega | (simp; omega)) (Ne1.cons (by first | omega | (simp; omega)) (Ne1.cons (by first | omega | (simp; omega)) Ne1.nil)))) 0 rfl (Ne1.cons (by first | omega | (simp; omega)) (Ne1.cons (by first | omega | (simp; omega)) (Ne1.cons (by first | omega | (simp; omega)) Ne1.nil)))) (w2.heap.size) (by first | rfl | simp)) ?_, by go_grown⟩
      simp only [List.setIfInBounds_toArray, List.set_cons_zero, List.set_cons_succ, hq]
    · have hq := hl0 he
      go_wp2_with fail
      go_meet
      refine ⟨Own.eqv (Own.new (Own.set HO2.out 0 rfl (Ne1.cons (by first | omega | (simp; omega)) (Ne1.cons (by first | omega | (simp; omega)) (Ne1.cons (by first | omega | (simp; omega)) Ne1.nil)))) (w2.heap.size) (by first | rfl | simp)) ?_, by go_grown⟩
      simp only [List.setIfInBounds_toArray, List.set_cons_zero, List.set_cons_succ, hq]
  case rest =>
    obtain ⟨hO, hb⟩ := hcut
    obtain ⟨wc49, rfl⟩ : ∃ x : World, x = wc := ⟨_, rfl⟩
    have bw3 := hb
    clear c2x0 f2x0 l2x0 l2x0d0 l2x0d1 a2x0 c2x1 f2x1 l2x1 l2x1d0 l2x1d1 a2x1 c2x2 f2x2 l2x2 l2x2d0 l2x2d1 a2x2 c2x3 f2x3 l2x3 l2x3d0 l2x3d1 a2x3
    have O3 := hO
    have c3x0 := Own.cell O3 0 rfl
    have f3x0 := Own.free O3 0 rfl
    have l3x0 := Own.lt O3 0 rfl
    have l3x0d0 := le_up 0 l3x0
    have l3x0d1 := le_up 1 l3x0
    simp only [upN] at l3x0d0 l3x0d1
    have c3x1 := Own.cell O3 1 rfl
    have f3x1 := Own.free O3 1 rfl
    have l3x1 := Own.lt O3 1 rfl
    have l3x1d0 := le_up 0 l3x1
    have l3x1d1 := le_up 1 l3x1
    simp only [upN] at l3x1d0 l3x1d1
    have c3x2 := Own.cell O3 2 rfl
    have f3x2 := Own.free O3 2 rfl
    have l3x2 := Own.lt O3 2 rfl
    have l3x2d0 := le_up 0 l3x2
    have l3x2d1 := le_up 1 l3x2
    simp only [upN] at l3x2d0 l3x2d1
    have c3x3 := Own.cell O3 3 rfl
    have f3x3 := Own.free O3 3 rfl
    have l3x3 := Own.lt O3 3 rfl
    have l3x3d0 := le_up 0 l3x3
    have l3x3d1 := le_up 1 l3x3
    simp only [upN] at l3x3d0 l3x3d1
    have c3x4 := Own.cell O3 4 rfl
    have f3x4 := Own.free O3 4 rfl
    have l3x4 := Own.lt O3 4 rfl
    have l3x4d0 := le_up 0 l3x4
    have l3x4d1 := le_up 1 l3x4
    simp only [upN] at l3x4d0 l3x4d1
    have HO3 := Lib.hid O3
    clear O3
    go_upto_if 57 with (fail)
    go_cut [] (fun wx => Own [(w2.heap.size, #[.int .u64 dl, .int .u64 c.lo, .int .u64 c.hi, .int .u64 c.a], 40), (v1g2, #[.int .u64 hl, .int .u64 g.lo, .int .u64 g.hi, .int .u64 g.a], 25), (v1g1, #[.int .u64 g.l, .int .u64 g.lo, .int .u64 g.hi, .int .u64 g.a], 25), (w.heap.size + 1, #[.int .u64 c.l, .int .u64 c.lo, .int .u64 c.hi, .int .u64 c.a, .int .u64 d.l, .int .u64 d.lo, .int .u64 d.hi, .int .u64 d.a], 41), (w.heap.size, #[.int .u64 g.l, .int .u64 g.lo, .int .u64 g.hi, .int .u64 g.a, .int .u64 h.l, .int .u64 h.lo, .int .u64 h.hi, .int .u64 h.a], 26)] wx ∧ Below w.heap.size w wx)
    case first =>
      by_cases he : bits .andNot .u64 c.a U = 0
      · have hq := dl1 he
        go_wp2_with fail
        go_meet
        refine ⟨Own.eqv (Own.set HO3.out 0 rfl (Ne1.cons (by first | omega | (simp; omega)) (Ne1.cons (by first | omega | (simp; omega)) (Ne1.cons (by first | omega | (simp; omega)) (Ne1.cons (by first | omega | (simp; omega)) Ne1.nil))))) ?_, by go_grown⟩
        simp only [List.setIfInBounds_toArray, List.set_cons_zero, List.set_cons_succ, hq]
      · have hq := dl0 he
        go_wp2_with fail
        go_meet
        refine ⟨Own.eqv HO3.out ?_, by go_grown⟩
        simp only [List.setIfInBounds_toArray, List.set_cons_zero, List.set_cons_succ, hq]
    case rest =>
      obtain ⟨hO, hb⟩ := hcut
      obtain ⟨wc57, rfl⟩ : ∃ x : World, x = wc := ⟨_, rfl⟩
      have bw4 := hb
      clear c3x0 f3x0 l3x0 l3x0d0 l3x0d1 c3x1 f3x1 l3x1 l3x1d0 l3x1d1 c3x2 f3x2 l3x2 l3x2d0 l3x2d1 c3x3 f3x3 l3x3 l3x3d0 l3x3d1 c3x4 f3x4 l3x4 l3x4d0 l3x4d1
      have O4 := hO
      have c4x0 := Own.cell O4 0 rfl
      have f4x0 := Own.free O4 0 rfl
      have l4x0 := Own.lt O4 0 rfl
      have l4x0d0 := le_up 0 l4x0
      have l4x0d1 := le_up 1 l4x0
      simp only [upN] at l4x0d0 l4x0d1
      have c4x1 := Own.cell O4 1 rfl
      have f4x1 := Own.free O4 1 rfl
      have l4x1 := Own.lt O4 1 rfl
      have l4x1d0 := le_up 0 l4x1
      have l4x1d1 := le_up 1 l4x1
      simp only [upN] at l4x1d0 l4x1d1
      have c4x2 := Own.cell O4 2 rfl
      have f4x2 := Own.free O4 2 rfl
      have l4x2 := Own.lt O4 2 rfl
      have l4x2d0 := le_up 0 l4x2
      have l4x2d1 := le_up 1 l4x2
      simp only [upN] at l4x2d0 l4x2d1
      have c4x3 := Own.cell O4 3 rfl
      have f4x3 := Own.free O4 3 rfl
      have l4x3 := Own.lt O4 3 rfl
      have l4x3d0 := le_up 0 l4x3
      have l4x3d1 := le_up 1 l4x3
      simp only [upN] at l4x3d0 l4x3d1
      have c4x4 := Own.cell O4 4 rfl
      have f4x4 := Own.free O4 4 rfl
      have l4x4 := Own.lt O4 4 rfl
      have l4x4d0 := le_up 0 l4x4
      have l4x4d1 := le_up 1 l4x4
      simp only [upN] at l4x4d0 l4x4d1
      have HO4 := Lib.hid O4
      clear O4
      go_wp2_with fail
      refine (HK1.out _ _ ((Own.get (Own.new HO4.out (wc57.heap.size) (by first | rfl | simp)) 0 rfl))).mono ?_
      rintro e w5 ⟨rfl, hb5⟩
      have O5 := Own.grow' hb5 (Own.new HO4.out (wc57.heap.size) (by first | rfl | simp))
      try simp only [List.setIfInBounds_toArray, List.set_cons_zero, List.set_cons_succ] at O5
      have bw5 : Below w.heap.size w w5 := Below.trans (by go_grown) (Below.mono hb5 (by first | omega | (simp; done) | (simp; omega)))
      have zw5 := Below.size hb5
      try simp only [World.size_alloc, World.size_drew, World.size_setCell] at zw5
      clear c4x0 f4x0 l4x0 l4x0d0 l4x0d1 c4x1 f4x1 l4x1 l4x1d0 l4x1d1 c4x2 f4x2 l4x2 l4x2d0 l4x2d1 c4x3 f4x3 l4x3 l4x3d0 l4x3d1 c4x4 f4x4 l4x4 l4x4d0 l4x4d1
      have c5x0 := Own.cell O5 0 rfl
      have f5x0 := Own.free O5 0 rfl
      have l5x0 := Own.lt O5 0 rfl
      have l5x0d0 := le_up 0 l5x0
      have l5x0d1 := le_up 1 l5x0
      simp only [upN] at l5x0d0 l5x0d1
      have a5x0 := fun o1 o2 o3 i => cell_al3 l5x0 o1 o2 o3 i
      have c5x1 := Own.cell O5 1 rfl
      have f5x1 := Own.free O5 1 rfl
      have l5x1 := Own.lt O5 1 rfl
      have l5x1d0 := le_up 0 l5x1
      have l5x1d1 := le_up 1 l5x1
      simp only [upN] at l5x1d0 l5x1d1
      have a5x1 := fun o1 o2 o3 i => cell_al3 l5x1 o1 o2 o3 i
      have c5x2 := Own.cell O5 2 rfl
      have f5x2 := Own.free O5 2 rfl
      have l5x2 := Own.lt O5 2 rfl
      have l5x2d0 := le_up 0 l5x2
      have l5x2d1 := le_up 1 l5x2
      simp only [upN] at l5x2d0 l5x2d1
      have a5x2 := fun o1 o2 o3 i => cell_al3 l5x2 o1 o2 o3 i
      have c5x3 := Own.cell O5 3 rfl
      have f5x3 := Own.free O5 3 rfl
      have l5x3 := Own.lt O5 3 rfl
      have l5x3d0 := le_up 0 l5x3
      have l5x3d1 := le_up 1 l5x3
      simp only [upN] at l5x3d0 l5x3d1
      have a5x3 := fun o1 o2 o3 i => cell_al3 l5x3 o1 o2 o3 i
      have c5x4 := Own.cell O5 4 rfl
      have f5x4 := Own.free O5 4 rfl
      have l5x4 := Own.lt O5 4 rfl
      have l5x4d0 := le_up 0 l5x4
      have l5x4d1 := le_up 1 l5x4
      simp only [upN] at l5x4d0 l5x4d1
      have a5x4 := fun o1 o2 o3 i => cell_al3 l5x4 o1 o2 o3 i
      have c5x5 := Own.cell O5 5 rfl
      have f5x5 := Own.free O5 5 rfl
      have l5x5 := Own.lt O5 5 rfl
      have l5x5d0 := le_up 0 l5x5
      have l5x5d1 := le_up 1 l5x5
      simp only [upN] at l5x5d0 l5x5d1
      have a5x5 := fun o1 o2 o3 i => cell_al3 l5x5 o1 o2 o3 i
      have HO5 := Lib.hid O5
      clear O5 hb5
      go_wp2_with fail
      refine (num_any _ _).mono ?_
      rintro e w' ⟨rfl, rfl⟩
      go_wp2_with fail
      refine (HK2.out _ _ ((Own.get (Own.new HO5.out (w5.heap.size) (by first | rfl | simp)) 0 rfl))).mono ?_
      rintro e w6 ⟨rfl, hb6⟩
      have O6 := Own.grow' hb6 (Own.new HO5.out (w5.heap.size) (by first | rfl | simp))
      try simp only [List.setIfInBounds_toArray, List.set_cons_zero, List.set_cons_succ] at O6
      have bw6 : Below w.heap.size w w6 := Below.trans (by go_grown) (Below.mono hb6 (by first | omega | (simp; done) | (simp; omega)))
      have zw6 := Below.size hb6
      try simp only [World.size_alloc, World.size_drew, World.size_setCell] at zw6
      clear c5x0 f5x0 l5x0 l5x0d0 l5x0d1 a5x0 c5x1 f5x1 l5x1 l5x1d0 l5x1d1 a5x1 c5x2 f5x2 l5x2 l5x2d0 l5x2d1 a5x2 c5x3 f5x3 l5x3 l5x3d0 l5x3d1 a5x3 c5x4 f5x4 l5x4 l5x4d0 l5x4d1 a5x4 c5x5 f5x5 l5x5 l5x5d0 l5x5d1 a5x5
      have c6x0 := Own.cell O6 0 rfl
      have f6x0 := Own.free O6 0 rfl
      have l6x0 := Own.lt O6 0 rfl
      have l6x0d0 := le_up 0 l6x0
      have l6x0d1 := le_up 1 l6x0
      simp only [upN] at l6x0d0 l6x0d1
      have a6x0 := fun o1 o2 o3 i => cell_al3 l6x0 o1 o2 o3 i
      have c6x1 := Own.cell O6 1 rfl
      have f6x1 := Own.free O6 1 rfl
      have l6x1 := Own.lt O6 1 rfl
      have l6x1d0 := le_up 0 l6x1
      have l6x1d1 := le_up 1 l6x1
      simp only [upN] at l6x1d0 l6x1d1
      have a6x1 := fun o1 o2 o3 i => cell_al3 l6x1 o1 o2 o3 i
      have c6x2 := Own.cell O6 2 rfl
      have f6x2 := Own.free O6 2 rfl
      have l6x2 := Own.lt O6 2 rfl
      have l6x2d0 := le_up 0 l6x2
      have l6x2d1 := le_up 1 l6x2
      simp only [upN] at l6x2d0 l6x2d1
      have a6x2 := fun o1 o2 o3 i => cell_al3 l6x2 o1 o2 o3 i
      have c6x3 := Own.cell O6 3 rfl
      have f6x3 := Own.free O6 3 rfl
      have l6x3 := Own.lt O6 3 rfl
      have l6x3d0 := le_up 0 l6x3
      have l6x3d1 := le_up 1 l6x3
      simp only [upN] at l6x3d0 l6x3d1
      have a6x3 := fun o1 o2 o3 i => cell_al3 l6x3 o1 o2 o3 i
      have c6x4 := Own.cell O6 4 rfl
      have f6x4 := Own.free O6 4 rfl
      have l6x4 := Own.lt O6 4 rfl
      have l6x4d0 := le_up 0 l6x4
      have l6x4d1 := le_up 1 l6x4
      simp only [upN] at l6x4d0 l6x4d1
      have a6x4 := fun o1 o2 o3 i => cell_al3 l6x4 o1 o2 o3 i
      have c6x5 := Own.cell O6 5 rfl
      have f6x5 := Own.free O6 5 rfl
      have l6x5 := Own.lt O6 5 rfl
      have l6x5d0 := le_up 0 l6x5
      have l6x5d1 := le_up 1 l6x5
      simp only [upN] at l6x5d0 l6x5d1
      have a6x5 := fun o1 o2 o3 i => cell_al3 l6x5 o1 o2 o3 i
      have c6x6 := Own.cell O6 6 rfl
      have f6x6 := Own.free O6 6 rfl
      have l6x6 := Own.lt O6 6 rfl
      have l6x6d0 := le_up 0 l6x6
      have l6x6d1 := le_up 1 l6x6
      simp only [upN] at l6x6d0 l6x6d1
      have a6x6 := fun o1 o2 o3 i => cell_al3 l6x6 o1 o2 o3 i
      have HO6 := Lib.hid O6
      clear O6 hb6
      go_wp2_with fail
      refine (num_any _ _).mono ?_
      rintro e w' ⟨rfl, rfl⟩
      go_wp2_with fail
      refine (works_any _).mono ?_
      rintro e w7 ⟨rfl, hb7⟩
      have O7 := Own.grow' hb7 HO6.out
      try simp only [List.setIfInBounds_toArray, List.set_cons_zero, List.set_cons_succ] at O7
      have bw7 : Below w.heap.size w w7 := Below.trans (by go_grown) (Below.mono hb7 (by first | omega | (simp; done) | (simp; omega)))
      have zw7 := Below.size hb7
      try simp only [World.size_alloc, World.size_drew, World.size_setCell] at zw7
      clear c6x0 f6x0 l6x0 l6x0d0 l6x0d1 a6x0 c6x1 f6x1 l6x1 l6x1d0 l6x1d1 a6x1 c6x2 f6x2 l6x2 l6x2d0 l6x2d1 a6x2 c6x3 f6x3 l6x3 l6x3d0 l6x3d1 a6x3 c6x4 f6x4 l6x4 l6x4d0 l6x4d1 a6x4 c6x5 f6x5 l6x5 l6x5d0 l6x5d1 a6x5 c6x6 f6x6 l6x6 l6x6d0 l6x6d1 a6x6
      have c7x0 := Own.cell O7 0 rfl
      have f7x0 := Own.free O7 0 rfl
      have l7x0 := Own.lt O7 0 rfl
      have l7x0d0 := le_up 0 l7x0
      have l7x0d1 := le_up 1 l7x0
      simp only [upN] at l7x0d0 l7x0d1
      have a7x0 := fun o1 o2 o3 i => cell_al3 l7x0 o1 o2 o3 i
      have c7x1 := Own.cell O7 1 rfl
      have f7x1 := Own.free O7 1 rfl
      have l7x1 := Own.lt O7 1 rfl
      have l7x1d0 := le_up 0 l7x1
      have l7x1d1 := le_up 1 l7x1
      simp only [upN] at l7x1d0 l7x1d1
      have a7x1 := fun o1 o2 o3 i => cell_al3 l7x1 o1 o2 o3 i
      have c7x2 := Own.cell O7 2 rfl
      have f7x2 := Own.free O7 2 rfl
      have l7x2 := Own.lt O7 2 rfl
      have l7x2d0 := le_up 0 l7x2
      have l7x2d1 := le_up 1 l7x2
      simp only [upN] at l7x2d0 l7x2d1
      have a7x2 := fun o1 o2 o3 i => cell_al3 l7x2 o1 o2 o3 i
      have c7x3 := Own.cell O7 3 rfl
      have f7x3 := Own.free O7 3 rfl
      have l7x3 := Own.lt O7 3 rfl
      have l7x3d0 := le_up 0 l7x3
      have l7x3d1 := le_up 1 l7x3
      simp only [upN] at l7x3d0 l7x3d1
      have a7x3 := fun o1 o2 o3 i => cell_al3 l7x3 o1 o2 o3 i
      have c7x4 := Own.cell O7 4 rfl
      have f7x4 := Own.free O7 4 rfl
      have l7x4 := Own.lt O7 4 rfl
      have l7x4d0 := le_up 0 l7x4
      have l7x4d1 := le_up 1 l7x4
      simp only [upN] at l7x4d0 l7x4d1
      have a7x4 := fun o1 o2 o3 i => cell_al3 l7x4 o1 o2 o3 i
      have c7x5 := Own.cell O7 5 rfl
      have f7x5 := Own.free O7 5 rfl
      have l7x5 := Own.lt O7 5 rfl
      have l7x5d0 := le_up 0 l7x5
      have l7x5d1 := le_up 1 l7x5
      simp only [upN] at l7x5d0 l7x5d1
      have a7x5 := fun o1 o2 o3 i => cell_al3 l7x5 o1 o2 o3 i
      have c7x6 := Own.cell O7 6 rfl
      have f7x6 := Own.free O7 6 rfl
      have l7x6 := Own.lt O7 6 rfl
      have l7x6d0 := le_up 0 l7x6
      have l7x6d1 := le_up 1 l7x6
      simp only [upN] at l7x6d0 l7x6d1
      have a7x6 := fun o1 o2 o3 i => cell_al3 l7x6 o1 o2 o3 i
      have HO7 := Lib.hid O7
      clear O7 hb7
      go_wp2_with fail
      go_ret
      exact ⟨rfl, by go_grown⟩
end Go.Proofs.Ytjmplababaejaaa
