/- GaugeSums: added, raised, lowered. -/
import Derived.Test.YtjmplababaejaaaGaugeT
import Derived.Test.YtjmplababaejaaaGaugeW
import Derived.Test.YtjmplababaejaaaGaugeO
import Derived.Test.YtjmplababaejaaaGaugeN
import Derived.Test.YtjmplababaejaaaGaugeP
import Derived.Test.YtjmplababaejaaaGaugeQ
import Derived.Test.YtjmplababaejaaaGaugeH
set_option linter.unusedVariables false
set_option linter.unusedSimpArgs false
namespace Go.Proofs.Ytjmplababaejaaa
open Go.RowKit


set_option maxHeartbeats 16000000 in
set_option maxRecDepth 100000 in
theorem sums_in (g h k : Kn) (n : Int) (w : World) (hg : 0 ≤ g.lo) (hh : 0 ≤ h.lo) (hk : 0 ≤ k.lo) (ug : U g.hi) (uh : U h.hi) (uk : U k.hi) (ha : U g.a) (hn : 0 ≤ n) (hn1 : n ≤ 1099511627776) :
    Calls Try.prog 6 #[.agg #[.int .u64 g.l, .int .u64 g.lo, .int .u64 g.hi, .int .u64 g.a, .int .u64 h.l, .int .u64 h.lo, .int .u64 h.hi, .int .u64 h.a], .agg #[.int .u64 k.l, .int .u64 k.lo, .int .u64 k.hi, .int .u64 k.a], .int .u64 n] w
      fun e w' => e = .returned (.bool true) ∧ Below w.heap.size w w' := by
  obtain ⟨x1, e1, s1⟩ := addVal_form g h
  obtain ⟨x2, e2, s2⟩ := addVal_form g k
  obtain ⟨x3, e3, s3⟩ := lowVal_form g k
  have h1 := fun W : World => add_any g h W ⟨ug, uh⟩ ⟨hg, hh⟩ ha
  have h2 := fun W : World => raise_any g k W ⟨ug, uk⟩ ⟨hg, hk⟩ ha
  have h3 := fun W : World => lower_any g k W ⟨hg, hk⟩ ha
  have h4 := fun W : World => refAdd_any g h W ⟨hg, hh⟩ ha
  have h5 := fun W : World => refRaise_any g k W ⟨hg, hk⟩ ha
  have h6 := fun W : World => refLower_any g k W ⟨hg, hk⟩
  have h7 := fun W : World => of_any n W hn
  have h8 := fun W : World => fixed_any n W hn
  rw [s1] at h1 h4
  rw [s2] at h2 h5
  rw [s3] at h3 h6
  rw [if_pos hn1] at h7 h8
  have H1 := Lib.hid h1
  have H2 := Lib.hid h2
  have H3 := Lib.hid h3
  have H4 := Lib.hid h4
  have H5 := Lib.hid h5
  have H6 := Lib.hid h6
  have H7 := Lib.hid h7
  have H8 := Lib.hid h8
  clear h1 h2 h3 h4 h5 h6 h7 h8 s1 s2 s3 hg hh hk ha ug uh uk hn
  go_enter Try.func6, Try.ntmps6
  go_wp2_with fail
  refine wp_region_grow w.heap.size 8 192 48 [(0, 0, 33554432, 8), (1, 1, 67108864, 33554432), (2, 0, 134217728, 8), (3, 4, 268435456, 134217728), (4, 0, 128, 0), (5, 0, 256, 0), (6, 51, 0, 67108992), (7, 127, 0, 268435712)] [(.p 0, 1), (.p 1, 3), (.p 2, 7), (.p 3, 15), (.gg 4 5, 63), (.c 6, 127), (.c 7, 255)] [] _ (fun p hp => hp) (by first | omega | (simp; done) | (simp; omega)) (by kernel_rfl) (by kernel_rfl) (Own.new (Own.new (Own.nil w) (w.heap.size) rfl) (w.heap.size + 1) (by simp)) ?_
  refine wpG_pure (i := 0) (v := ?v1x0) rfl rfl (by rfl) (fun w hB hG K hK => ?h1x0) ?_
  case h1x0 =>
    go_wp2_with fail
    exact hK _ (Below.refl _ _)
  simp only [List.set_cons_zero, List.set_cons_succ]
  refine wpG_pure (i := 1) (v := ?v1x1) rfl rfl (by rfl) (fun w hB hG K hK => ?h1x1) ?_
  case h1x1 =>
    have cx := hG.cell 1 rfl
    go_wp2_with fail
    exact hK _ (Below.refl _ _)
  simp only [List.set_cons_zero, List.set_cons_succ]
  refine wpG_pure (i := 2) (v := ?v1x2) rfl rfl (by rfl) (fun w hB hG K hK => ?h1x2) ?_
  case h1x2 =>
    go_wp2_with fail
    exact hK _ (Below.refl _ _)
  simp only [List.set_cons_zero, List.set_cons_succ]
  refine wpG_pure (i := 3) (v := ?v1x3) rfl rfl (by rfl) (fun w hB hG K hK => ?h1x3) ?_
  case h1x3 =>
    have cx := hG.cell 1 rfl
    go_wp2_with fail
    exact hK _ (Below.refl _ _)
  simp only [List.set_cons_zero, List.set_cons_succ]
  refine wpG_pair (i := 4) (j := 5) (c := ?c1x4) (t := ?t1x4) (c2 := ?c1x5) (t2 := ?t1x5) (fun b => .pointer (some ⟨b, 0, none⟩)) (fun b => .pointer (some ⟨b, 0, none⟩)) rfl rfl rfl rfl (by rfl) (by rfl) (fun w hB hG K hK => ?h1x4) (fun w hB hG K hK => ?h1x5) (fun v1g1 v1g2 l1g1 l1g2 n1g1 _ _ => ?_)
  case h1x4 =>
    go_wp2_with fail
    exact hK
  case h1x5 =>
    go_wp2_with fail
    exact hK
  simp only [List.set_cons_zero, List.set_cons_succ]
  try simp only [World.size_alloc, World.size_drew, World.size_setCell] at l1g1
  try simp only [World.size_alloc, World.size_drew, World.size_setCell] at l1g2
  refine wpG_store (i := 6) (c' := ?c1x6) 1 rfl (Ne1.cons (by first | omega | (simp; omega)) (Ne1.cons (by first | omega | (simp; omega)) (Ne1.cons (by first | omega | (simp; omega)) Ne1.nil))) (by first | omega | (simp; omega)) (fun p hp => List.mem_cons_of_mem _ (List.mem_cons_of_mem _ (hp))) rfl rfl (by rfl) (fun w hB hF hG K hK => ?h1x6) ?_
  case h1x6 =>
    have cx := hF.cell
    have fx := hF.free
    go_wp2_with fail
    refine hK _ (Same.set (Same.set (Same.set (Same.set (Same.refl _ _) _ _) _ _) _ _) _ _) ?_
    exact (Blk.set (Blk.set (Blk.set (Blk.set hF _ _) _ _) _ _) _ _)
  simp only [List.set_cons_zero, List.set_cons_succ, List.setIfInBounds_toArray]
  refine wpG_store (i := 7) (c' := ?c1x7) 0 rfl (Ne1.cons (by first | omega | (simp; omega)) (Ne1.cons (by first | omega | (simp; omega)) (Ne1.cons (by first | omega | (simp; omega)) Ne1.nil))) (by first | omega | (simp; omega)) (fun p hp => List.mem_cons_of_mem _ (List.mem_cons_of_mem _ (hp))) rfl rfl (by rfl) (fun w hB hF hG K hK => ?h1x7) ?_
  case h1x7 =>
    have cx := hF.cell
    have fx := hF.free
    go_wp2_with fail
    refine hK _ (Same.set (Same.set (Same.set (Same.set (Same.refl _ _) _ _) _ _) _ _) _ _) ?_
    exact (Blk.set (Blk.set (Blk.set (Blk.set hF _ _) _ _) _ _) _ _)
  simp only [List.set_cons_zero, List.set_cons_succ, List.setIfInBounds_toArray]
  refine wpG_nil (fun w1 hb1 hG1 => ?_)
  simp only [List.append_eq, List.cons_append, List.nil_append, List.drop_succ_cons, List.drop_zero, List.drop_nil]
  have u1g1 := Own.lt hG1 1 rfl
  have u1g2 := Own.lt hG1 0 rfl
  have O1 := Own.of hG1
  try simp only [List.setIfInBounds_toArray, List.set_cons_zero, List.set_cons_succ] at O1
  have bw1 : Below w.heap.size w w1 := Below.trans (by go_grown) (Below.mono hb1 (by first | omega | (simp; done) | (simp; omega)))
  have zw1 := Below.size hb1
  try simp only [World.size_alloc, World.size_drew, World.size_setCell] at zw1
  have c1x0 := O1.cell 0 rfl
  have f1x0 := O1.free 0 rfl
  have l1x0 := O1.lt 0 rfl
  have l1x0d0 := le_up 0 l1x0
  have l1x0d1 := le_up 1 l1x0
  simp only [upN] at l1x0d0 l1x0d1
  have c1x1 := O1.cell 1 rfl
  have f1x1 := O1.free 1 rfl
  have l1x1 := O1.lt 1 rfl
  have l1x1d0 := le_up 0 l1x1
  have l1x1d1 := le_up 1 l1x1
  simp only [upN] at l1x1d0 l1x1d1
  have c1x2 := O1.cell 2 rfl
  have f1x2 := O1.free 2 rfl
  have l1x2 := O1.lt 2 rfl
  have l1x2d0 := le_up 0 l1x2
  have l1x2d1 := le_up 1 l1x2
  simp only [upN] at l1x2d0 l1x2d1
  have c1x3 := O1.cell 3 rfl
  have f1x3 := O1.free 3 rfl
  have l1x3 := O1.lt 3 rfl
  have l1x3d0 := le_up 0 l1x3
  have l1x3d1 := le_up 1 l1x3
  simp only [upN] at l1x3d0 l1x3d1
  have HO1 := Lib.hid O1
  clear O1 hb1
  go_wp2_with fail
  refine (H1.out _).mono ?_
  rintro e w2 ⟨rfl, hb2⟩
  have O2 := Own.grow' hb2 HO1.out
  try simp only [List.setIfInBounds_toArray, List.set_cons_zero, List.set_cons_succ] at O2
  have bw2 : Below w.heap.size w w2 := Below.trans (by go_grown) (Below.mono hb2 (by first | omega | (simp; done) | (simp; omega)))
  have zw2 := Below.size hb2
  try simp only [World.size_alloc, World.size_drew, World.size_setCell] at zw2
  clear c1x0 f1x0 l1x0 l1x0d0 l1x0d1 c1x1 f1x1 l1x1 l1x1d0 l1x1d1 c1x2 f1x2 l1x2 l1x2d0 l1x2d1 c1x3 f1x3 l1x3 l1x3d0 l1x3d1
  have c2x0 := O2.cell 0 rfl
  have f2x0 := O2.free 0 rfl
  have l2x0 := O2.lt 0 rfl
  have l2x0d0 := le_up 0 l2x0
  have l2x0d1 := le_up 1 l2x0
  simp only [upN] at l2x0d0 l2x0d1
  have c2x1 := O2.cell 1 rfl
  have f2x1 := O2.free 1 rfl
  have l2x1 := O2.lt 1 rfl
  have l2x1d0 := le_up 0 l2x1
  have l2x1d1 := le_up 1 l2x1
  simp only [upN] at l2x1d0 l2x1d1
  have c2x2 := O2.cell 2 rfl
  have f2x2 := O2.free 2 rfl
  have l2x2 := O2.lt 2 rfl
  have l2x2d0 := le_up 0 l2x2
  have l2x2d1 := le_up 1 l2x2
  simp only [upN] at l2x2d0 l2x2d1
  have c2x3 := O2.cell 3 rfl
  have f2x3 := O2.free 3 rfl
  have l2x3 := O2.lt 3 rfl
  have l2x3d0 := le_up 0 l2x3
  have l2x3d1 := le_up 1 l2x3
  simp only [upN] at l2x3d0 l2x3d1
  have HO2 := Lib.hid O2
  clear O2 hb2
  go_wp2_with fail
  refine (H2.out _).mono ?_
  rintro e w3 ⟨rfl, hb3⟩
  have O3 := Own.grow' hb3 (Own.new HO2.out (w2.heap.size) rfl)
  try simp only [List.setIfInBounds_toArray, List.set_cons_zero, List.set_cons_succ] at O3
  have bw3 : Below w.heap.size w w3 := Below.trans (by go_grown) (Below.mono hb3 (by first | omega | (simp; done) | (simp; omega)))
  have zw3 := Below.size hb3
  try simp only [World.size_alloc, World.size_drew, World.size_setCell] at zw3
  clear c2x0 f2x0 l2x0 l2x0d0 l2x0d1 c2x1 f2x1 l2x1 l2x1d0 l2x1d1 c2x2 f2x2 l2x2 l2x2d0 l2x2d1 c2x3 f2x3 l2x3 l2x3d0 l2x3d1
  have c3x0 := O3.cell 0 rfl
  have f3x0 := O3.free 0 rfl
  have l3x0 := O3.lt 0 rfl
  have l3x0d0 := le_up 0 l3x0
  have l3x0d1 := le_up 1 l3x0
  simp only [upN] at l3x0d0 l3x0d1
  have c3x1 := O3.cell 1 rfl
  have f3x1 := O3.free 1 rfl
  have l3x1 := O3.lt 1 rfl
  have l3x1d0 := le_up 0 l3x1
  have l3x1d1 := le_up 1 l3x1
  simp only [upN] at l3x1d0 l3x1d1
  have c3x2 := O3.cell 2 rfl
  have f3x2 := O3.free 2 rfl
  have l3x2 := O3.lt 2 rfl
  have l3x2d0 := le_up 0 l3x2
  have l3x2d1 := le_up 1 l3x2
  simp only [upN] at l3x2d0 l3x2d1
  have c3x3 := O3.cell 3 rfl
  have f3x3 := O3.free 3 rfl
  have l3x3 := O3.lt 3 rfl
  have l3x3d0 := le_up 0 l3x3
  have l3x3d1 := le_up 1 l3x3
  simp only [upN] at l3x3d0 l3x3d1
  have c3x4 := O3.cell 4 rfl
  have f3x4 := O3.free 4 rfl
  have l3x4 := O3.lt 4 rfl
  have l3x4d0 := le_up 0 l3x4
  have l3x4d1 := le_up 1 l3x4
  simp only [upN] at l3x4d0 l3x4d1
  have HO3 := Lib.hid O3
  clear O3 hb3
  go_wp2_with fail
  refine (H3.out _).mono ?_
  rintro e w4 ⟨rfl, hb4⟩
  have O4 := Own.grow' hb4 (Own.new HO3.out (w3.heap.size) rfl)
  try simp only [List.setIfInBounds_toArray, List.set_cons_zero, List.set_cons_succ] at O4
  have bw4 : Below w.heap.size w w4 := Below.trans (by go_grown) (Below.mono hb4 (by first | omega | (simp; done) | (simp; omega)))
  have zw4 := Below.size hb4
  try simp only [World.size_alloc, World.size_drew, World.size_setCell] at zw4
  clear c3x0 f3x0 l3x0 l3x0d0 l3x0d1 c3x1 f3x1 l3x1 l3x1d0 l3x1d1 c3x2 f3x2 l3x2 l3x2d0 l3x2d1 c3x3 f3x3 l3x3 l3x3d0 l3x3d1 c3x4 f3x4 l3x4 l3x4d0 l3x4d1
  have c4x0 := O4.cell 0 rfl
  have f4x0 := O4.free 0 rfl
  have l4x0 := O4.lt 0 rfl
  have l4x0d0 := le_up 0 l4x0
  have l4x0d1 := le_up 1 l4x0
  simp only [upN] at l4x0d0 l4x0d1
  have c4x1 := O4.cell 1 rfl
  have f4x1 := O4.free 1 rfl
  have l4x1 := O4.lt 1 rfl
  have l4x1d0 := le_up 0 l4x1
  have l4x1d1 := le_up 1 l4x1
  simp only [upN] at l4x1d0 l4x1d1
  have c4x2 := O4.cell 2 rfl
  have f4x2 := O4.free 2 rfl
  have l4x2 := O4.lt 2 rfl
  have l4x2d0 := le_up 0 l4x2
  have l4x2d1 := le_up 1 l4x2
  simp only [upN] at l4x2d0 l4x2d1
  have c4x3 := O4.cell 3 rfl
  have f4x3 := O4.free 3 rfl
  have l4x3 := O4.lt 3 rfl
  have l4x3d0 := le_up 0 l4x3
  have l4x3d1 := le_up 1 l4x3
  simp only [upN] at l4x3d0 l4x3d1
  have c4x4 := O4.cell 4 rfl
  have f4x4 := O4.free 4 rfl
  have l4x4 := O4.lt 4 rfl
  have l4x4d0 := le_up 0 l4x4
  have l4x4d1 := le_up 1 l4x4
  simp only [upN] at l4x4d0 l4x4d1
  have c4x5 := O4.cell 5 rfl
  have f4x5 := O4.free 5 rfl
  have l4x5 := O4.lt 5 rfl
  have l4x5d0 := le_up 0 l4x5
  have l4x5d1 := le_up 1 l4x5
  simp only [upN] at l4x5d0 l4x5d1
  have HO4 := Lib.hid O4
  clear O4 hb4
  go_wp2_with fail
  refine (H4.out _).mono ?_
  rintro e w5 ⟨rfl, hb5⟩
  have O5 := Own.grow' hb5 (Own.new HO4.out (w4.heap.size) rfl)
  try simp only [List.setIfInBounds_toArray, List.set_cons_zero, List.set_cons_succ] at O5
  have bw5 : Below w.heap.size w w5 := Below.trans (by go_grown) (Below.mono hb5 (by first | omega | (simp; done) | (simp; omega)))
  have zw5 := Below.size hb5
  try simp only [World.size_alloc, World.size_drew, World.size_setCell] at zw5
  clear c4x0 f4x0 l4x0 l4x0d0 l4x0d1 c4x1 f4x1 l4x1 l4x1d0 l4x1d1 c4x2 f4x2 l4x2 l4x2d0 l4x2d1 c4x3 f4x3 l4x3 l4x3d0 l4x3d1 c4x4 f4x4 l4x4 l4x4d0 l4x4d1 c4x5 f4x5 l4x5 l4x5d0 l4x5d1
  have c5x0 := O5.cell 0 rfl
  have f5x0 := O5.free 0 rfl
  have l5x0 := O5.lt 0 rfl
  have l5x0d0 := le_up 0 l5x0
  have l5x0d1 := le_up 1 l5x0
  simp only [upN] at l5x0d0 l5x0d1
  have c5x1 := O5.cell 1 rfl
  have f5x1 := O5.free 1 rfl
  have l5x1 := O5.lt 1 rfl
  have l5x1d0 := le_up 0 l5x1
  have l5x1d1 := le_up 1 l5x1
  simp only [upN] at l5x1d0 l5x1d1
  have c5x2 := O5.cell 2 rfl
  have f5x2 := O5.free 2 rfl
  have l5x2 := O5.lt 2 rfl
  have l5x2d0 := le_up 0 l5x2
  have l5x2d1 := le_up 1 l5x2
  simp only [upN] at l5x2d0 l5x2d1
  have c5x3 := O5.cell 3 rfl
  have f5x3 := O5.free 3 rfl
  have l5x3 := O5.lt 3 rfl
  have l5x3d0 := le_up 0 l5x3
  have l5x3d1 := le_up 1 l5x3
  simp only [upN] at l5x3d0 l5x3d1
  have c5x4 := O5.cell 4 rfl
  have f5x4 := O5.free 4 rfl
  have l5x4 := O5.lt 4 rfl
  have l5x4d0 := le_up 0 l5x4
  have l5x4d1 := le_up 1 l5x4
  simp only [upN] at l5x4d0 l5x4d1
  have c5x5 := O5.cell 5 rfl
  have f5x5 := O5.free 5 rfl
  have l5x5 := O5.lt 5 rfl
  have l5x5d0 := le_up 0 l5x5
  have l5x5d1 := le_up 1 l5x5
  simp only [upN] at l5x5d0 l5x5d1
  have c5x6 := O5.cell 6 rfl
  have f5x6 := O5.free 6 rfl
  have l5x6 := O5.lt 6 rfl
  have l5x6d0 := le_up 0 l5x6
  have l5x6d1 := le_up 1 l5x6
  simp only [upN] at l5x6d0 l5x6d1
  have HO5 := Lib.hid O5
  clear O5 hb5
  go_wp2_with fail
  refine (H5.out _).mono ?_
  rintro e w6 ⟨rfl, hb6⟩
  have O6 := Own.grow' hb6 (Own.new HO5.out (w5.heap.size) rfl)
  try simp only [List.setIfInBounds_toArray, List.set_cons_zero, List.set_cons_succ] at O6
  have bw6 : Below w.heap.size w w6 := Below.trans (by go_grown) (Below.mono hb6 (by first | omega | (simp; done) | (simp; omega)))
  have zw6 := Below.size hb6
  try simp only [World.size_alloc, World.size_drew, World.size_setCell] at zw6
  clear c5x0 f5x0 l5x0 l5x0d0 l5x0d1 c5x1 f5x1 l5x1 l5x1d0 l5x1d1 c5x2 f5x2 l5x2 l5x2d0 l5x2d1 c5x3 f5x3 l5x3 l5x3d0 l5x3d1 c5x4 f5x4 l5x4 l5x4d0 l5x4d1 c5x5 f5x5 l5x5 l5x5d0 l5x5d1 c5x6 f5x6 l5x6 l5x6d0 l5x6d1
  have c6x0 := O6.cell 0 rfl
  have f6x0 := O6.free 0 rfl
  have l6x0 := O6.lt 0 rfl
  have l6x0d0 := le_up 0 l6x0
  have l6x0d1 := le_up 1 l6x0
  simp only [upN] at l6x0d0 l6x0d1
  have c6x1 := O6.cell 1 rfl
  have f6x1 := O6.free 1 rfl
  have l6x1 := O6.lt 1 rfl
  have l6x1d0 := le_up 0 l6x1
  have l6x1d1 := le_up 1 l6x1
  simp only [upN] at l6x1d0 l6x1d1
  have c6x2 := O6.cell 2 rfl
  have f6x2 := O6.free 2 rfl
  have l6x2 := O6.lt 2 rfl
  have l6x2d0 := le_up 0 l6x2
  have l6x2d1 := le_up 1 l6x2
  simp only [upN] at l6x2d0 l6x2d1
  have c6x3 := O6.cell 3 rfl
  have f6x3 := O6.free 3 rfl
  have l6x3 := O6.lt 3 rfl
  have l6x3d0 := le_up 0 l6x3
  have l6x3d1 := le_up 1 l6x3
  simp only [upN] at l6x3d0 l6x3d1
  have c6x4 := O6.cell 4 rfl
  have f6x4 := O6.free 4 rfl
  have l6x4 := O6.lt 4 rfl
  have l6x4d0 := le_up 0 l6x4
  have l6x4d1 := le_up 1 l6x4
  simp only [upN] at l6x4d0 l6x4d1
  have c6x5 := O6.cell 5 rfl
  have f6x5 := O6.free 5 rfl
  have l6x5 := O6.lt 5 rfl
  have l6x5d0 := le_up 0 l6x5
  have l6x5d1 := le_up 1 l6x5
  simp only [upN] at l6x5d0 l6x5d1
  have c6x6 := O6.cell 6 rfl
  have f6x6 := O6.free 6 rfl
  have l6x6 := O6.lt 6 rfl
  have l6x6d0 := le_up 0 l6x6
  have l6x6d1 := le_up 1 l6x6
  simp only [upN] at l6x6d0 l6x6d1
  have c6x7 := O6.cell 7 rfl
  have f6x7 := O6.free 7 rfl
  have l6x7 := O6.lt 7 rfl
  have l6x7d0 := le_up 0 l6x7
  have l6x7d1 := le_up 1 l6x7
  simp only [upN] at l6x7d0 l6x7d1
  have HO6 := Lib.hid O6
  clear O6 hb6
  go_wp2_with fail
  refine (H6.out _).mono ?_
  rintro e w7 ⟨rfl, hb7⟩
  have O7 := Own.grow' hb7 (Own.new HO6.out (w6.heap.size) rfl)
  try simp only [List.setIfInBounds_toArray, List.set_cons_zero, List.set_cons_succ] at O7
  have bw7 : Below w.heap.size w w7 := Below.trans (by go_grown) (Below.mono hb7 (by first | omega | (simp; done) | (simp; omega)))
  have zw7 := Below.size hb7
  try simp only [World.size_alloc, World.size_drew, World.size_setCell] at zw7
  clear c6x0 f6x0 l6x0 l6x0d0 l6x0d1 c6x1 f6x1 l6x1 l6x1d0 l6x1d1 c6x2 f6x2 l6x2 l6x2d0 l6x2d1 c6x3 f6x3 l6x3 l6x3d0 l6x3d1 c6x4 f6x4 l6x4 l6x4d0 l6x4d1 c6x5 f6x5 l6x5 l6x5d0 l6x5d1 c6x6 f6x6 l6x6 l6x6d0 l6x6d1 c6x7 f6x7 l6x7 l6x7d0 l6x7d1
  have c7x0 := O7.cell 0 rfl
  have f7x0 := O7.free 0 rfl
  have l7x0 := O7.lt 0 rfl
  have l7x0d0 := le_up 0 l7x0
  have l7x0d1 := le_up 1 l7x0
  simp only [upN] at l7x0d0 l7x0d1
  have c7x1 := O7.cell 1 rfl
  have f7x1 := O7.free 1 rfl
  have l7x1 := O7.lt 1 rfl
  have l7x1d0 := le_up 0 l7x1
  have l7x1d1 := le_up 1 l7x1
  simp only [upN] at l7x1d0 l7x1d1
  have c7x2 := O7.cell 2 rfl
  have f7x2 := O7.free 2 rfl
  have l7x2 := O7.lt 2 rfl
  have l7x2d0 := le_up 0 l7x2
  have l7x2d1 := le_up 1 l7x2
  simp only [upN] at l7x2d0 l7x2d1
  have c7x3 := O7.cell 3 rfl
  have f7x3 := O7.free 3 rfl
  have l7x3 := O7.lt 3 rfl
  have l7x3d0 := le_up 0 l7x3
  have l7x3d1 := le_up 1 l7x3
  simp only [upN] at l7x3d0 l7x3d1
  have c7x4 := O7.cell 4 rfl
  have f7x4 := O7.free 4 rfl
  have l7x4 := O7.lt 4 rfl
  have l7x4d0 := le_up 0 l7x4
  have l7x4d1 := le_up 1 l7x4
  simp only [upN] at l7x4d0 l7x4d1
  have c7x5 := O7.cell 5 rfl
  have f7x5 := O7.free 5 rfl
  have l7x5 := O7.lt 5 rfl
  have l7x5d0 := le_up 0 l7x5
  have l7x5d1 := le_up 1 l7x5
  simp only [upN] at l7x5d0 l7x5d1
  have c7x6 := O7.cell 6 rfl
  have f7x6 := O7.free 6 rfl
  have l7x6 := O7.lt 6 rfl
  have l7x6d0 := le_up 0 l7x6
  have l7x6d1 := le_up 1 l7x6
  simp only [upN] at l7x6d0 l7x6d1
  have c7x7 := O7.cell 7 rfl
  have f7x7 := O7.free 7 rfl
  have l7x7 := O7.lt 7 rfl
  have l7x7d0 := le_up 0 l7x7
  have l7x7d1 := le_up 1 l7x7
  simp only [upN] at l7x7d0 l7x7d1
  have c7x8 := O7.cell 8 rfl
  have f7x8 := O7.free 8 rfl
  have l7x8 := O7.lt 8 rfl
  have l7x8d0 := le_up 0 l7x8
  have l7x8d1 := le_up 1 l7x8
  simp only [upN] at l7x8d0 l7x8d1
  have HO7 := Lib.hid O7
  clear O7 hb7
  go_wp2_with fail
  refine (H7.out _).mono ?_
  rintro e w8 ⟨rfl, hb8⟩
  have O8 := Own.grow' hb8 (Own.new HO7.out (w7.heap.size) rfl)
  try simp only [List.setIfInBounds_toArray, List.set_cons_zero, List.set_cons_succ] at O8
  have bw8 : Below w.heap.size w w8 := Below.trans (by go_grown) (Below.mono hb8 (by first | omega | (simp; done) | (simp; omega)))
  have zw8 := Below.size hb8
  try simp only [World.size_alloc, World.size_drew, World.size_setCell] at zw8
  clear c7x0 f7x0 l7x0 l7x0d0 l7x0d1 c7x1 f7x1 l7x1 l7x1d0 l7x1d1 c7x2 f7x2 l7x2 l7x2d0 l7x2d1 c7x3 f7x3 l7x3 l7x3d0 l7x3d1 c7x4 f7x4 l7x4 l7x4d0 l7x4d1 c7x5 f7x5 l7x5 l7x5d0 l7x5d1 c7x6 f7x6 l7x6 l7x6d0 l7x6d1 c7x7 f7x7 l7x7 l7x7d0 l7x7d1 c7x8 f7x8 l7x8 l7x8d0 l7x8d1
  have c8x0 := O8.cell 0 rfl
  have f8x0 := O8.free 0 rfl
  have l8x0 := O8.lt 0 rfl
  have l8x0d0 := le_up 0 l8x0
  have l8x0d1 := le_up 1 l8x0
  simp only [upN] at l8x0d0 l8x0d1
  have c8x1 := O8.cell 1 rfl
  have f8x1 := O8.free 1 rfl
  have l8x1 := O8.lt 1 rfl
  have l8x1d0 := le_up 0 l8x1
  have l8x1d1 := le_up 1 l8x1
  simp only [upN] at l8x1d0 l8x1d1
  have c8x2 := O8.cell 2 rfl
  have f8x2 := O8.free 2 rfl
  have l8x2 := O8.lt 2 rfl
  have l8x2d0 := le_up 0 l8x2
  have l8x2d1 := le_up 1 l8x2
  simp only [upN] at l8x2d0 l8x2d1
  have c8x3 := O8.cell 3 rfl
  have f8x3 := O8.free 3 rfl
  have l8x3 := O8.lt 3 rfl
  have l8x3d0 := le_up 0 l8x3
  have l8x3d1 := le_up 1 l8x3
  simp only [upN] at l8x3d0 l8x3d1
  have c8x4 := O8.cell 4 rfl
  have f8x4 := O8.free 4 rfl
  have l8x4 := O8.lt 4 rfl
  have l8x4d0 := le_up 0 l8x4
  have l8x4d1 := le_up 1 l8x4
  simp only [upN] at l8x4d0 l8x4d1
  have c8x5 := O8.cell 5 rfl
  have f8x5 := O8.free 5 rfl
  have l8x5 := O8.lt 5 rfl
  have l8x5d0 := le_up 0 l8x5
  have l8x5d1 := le_up 1 l8x5
  simp only [upN] at l8x5d0 l8x5d1
  have c8x6 := O8.cell 6 rfl
  have f8x6 := O8.free 6 rfl
  have l8x6 := O8.lt 6 rfl
  have l8x6d0 := le_up 0 l8x6
  have l8x6d1 := le_up 1 l8x6
  simp only [upN] at l8x6d0 l8x6d1
  have c8x7 := O8.cell 7 rfl
  have f8x7 := O8.free 7 rfl
  have l8x7 := O8.lt 7 rfl
  have l8x7d0 := le_up 0 l8x7
  have l8x7d1 := le_up 1 l8x7
  simp only [upN] at l8x7d0 l8x7d1
  have c8x8 := O8.cell 8 rfl
  have f8x8 := O8.free 8 rfl
  have l8x8 := O8.lt 8 rfl
  have l8x8d0 := le_up 0 l8x8
  have l8x8d1 := le_up 1 l8x8
  simp only [upN] at l8x8d0 l8x8d1
  have c8x9 := O8.cell 9 rfl
  have f8x9 := O8.free 9 rfl
  have l8x9 := O8.lt 9 rfl
  have l8x9d0 := le_up 0 l8x9
  have l8x9d1 := le_up 1 l8x9
  simp only [upN] at l8x9d0 l8x9d1
  have HO8 := Lib.hid O8
  clear O8 hb8
  go_wp2_with fail
  refine (H8.out _).mono ?_
  rintro e w9 ⟨rfl, hb9⟩
  have O9 := Own.grow' hb9 (Own.new HO8.out (w8.heap.size) rfl)
  try simp only [List.setIfInBounds_toArray, List.set_cons_zero, List.set_cons_succ] at O9
  have bw9 : Below w.heap.size w w9 := Below.trans (by go_grown) (Below.mono hb9 (by first | omega | (simp; done) | (simp; omega)))
  have zw9 := Below.size hb9
  try simp only [World.size_alloc, World.size_drew, World.size_setCell] at zw9
  clear c8x0 f8x0 l8x0 l8x0d0 l8x0d1 c8x1 f8x1 l8x1 l8x1d0 l8x1d1 c8x2 f8x2 l8x2 l8x2d0 l8x2d1 c8x3 f8x3 l8x3 l8x3d0 l8x3d1 c8x4 f8x4 l8x4 l8x4d0 l8x4d1 c8x5 f8x5 l8x5 l8x5d0 l8x5d1 c8x6 f8x6 l8x6 l8x6d0 l8x6d1 c8x7 f8x7 l8x7 l8x7d0 l8x7d1 c8x8 f8x8 l8x8 l8x8d0 l8x8d1 c8x9 f8x9 l8x9 l8x9d0 l8x9d1
  have c9x0 := O9.cell 0 rfl
  have f9x0 := O9.free 0 rfl
  have l9x0 := O9.lt 0 rfl
  have l9x0d0 := le_up 0 l9x0
  have l9x0d1 := le_up 1 l9x0
  simp only [upN] at l9x0d0 l9x0d1
  have c9x1 := O9.cell 1 rfl
  have f9x1 := O9.free 1 rfl
  have l9x1 := O9.lt 1 rfl
  have l9x1d0 := le_up 0 l9x1
  have l9x1d1 := le_up 1 l9x1
  simp only [upN] at l9x1d0 l9x1d1
  have c9x2 := O9.cell 2 rfl
  have f9x2 := O9.free 2 rfl
  have l9x2 := O9.lt 2 rfl
  have l9x2d0 := le_up 0 l9x2
  have l9x2d1 := le_up 1 l9x2
  simp only [upN] at l9x2d0 l9x2d1
  have c9x3 := O9.cell 3 rfl
  have f9x3 := O9.free 3 rfl
  have l9x3 := O9.lt 3 rfl
  have l9x3d0 := le_up 0 l9x3
  have l9x3d1 := le_up 1 l9x3
  simp only [upN] at l9x3d0 l9x3d1
  have c9x4 := O9.cell 4 rfl
  have f9x4 := O9.free 4 rfl
  have l9x4 := O9.lt 4 rfl
  have l9x4d0 := le_up 0 l9x4
  have l9x4d1 := le_up 1 l9x4
  simp only [upN] at l9x4d0 l9x4d1
  have c9x5 := O9.cell 5 rfl
  have f9x5 := O9.free 5 rfl
  have l9x5 := O9.lt 5 rfl
  have l9x5d0 := le_up 0 l9x5
  have l9x5d1 := le_up 1 l9x5
  simp only [upN] at l9x5d0 l9x5d1
  have c9x6 := O9.cell 6 rfl
  have f9x6 := O9.free 6 rfl
  have l9x6 := O9.lt 6 rfl
  have l9x6d0 := le_up 0 l9x6
  have l9x6d1 := le_up 1 l9x6
  simp only [upN] at l9x6d0 l9x6d1
  have c9x7 := O9.cell 7 rfl
  have f9x7 := O9.free 7 rfl
  have l9x7 := O9.lt 7 rfl
  have l9x7d0 := le_up 0 l9x7
  have l9x7d1 := le_up 1 l9x7
  simp only [upN] at l9x7d0 l9x7d1
  have c9x8 := O9.cell 8 rfl
  have f9x8 := O9.free 8 rfl
  have l9x8 := O9.lt 8 rfl
  have l9x8d0 := le_up 0 l9x8
  have l9x8d1 := le_up 1 l9x8
  simp only [upN] at l9x8d0 l9x8d1
  have c9x9 := O9.cell 9 rfl
  have f9x9 := O9.free 9 rfl
  have l9x9 := O9.lt 9 rfl
  have l9x9d0 := le_up 0 l9x9
  have l9x9d1 := le_up 1 l9x9
  simp only [upN] at l9x9d0 l9x9d1
  have c9x10 := O9.cell 10 rfl
  have f9x10 := O9.free 10 rfl
  have l9x10 := O9.lt 10 rfl
  have l9x10d0 := le_up 0 l9x10
  have l9x10d1 := le_up 1 l9x10
  simp only [upN] at l9x10d0 l9x10d1
  have HO9 := Lib.hid O9
  clear O9 hb9
  go_wp2_with fail
  refine wp_region_grow w.heap.size 42 0 0 [(0, 0, 664613997892457936451903530140172288, 512), (1, 0, 1329227995784915872903807060280344576, 32768), (2, 0, 2658455991569831745807614120560689152, 1024), (3, 0, 5316911983139663491615228241121378304, 65536), (4, 15, 10633823966279326983230456482242756608, 9969209968386869046778552952102584320), (5, 16, 21267647932558653966460912964485513216, 10633823966279326983230456482242756608), (6, 32, 42535295865117307932921825928971026432, 21267647932558653966460912964485515264), (7, 32, 85070591730234615865843651857942052864, 21267647932558653966460912964485644288), (8, 32, 170141183460469231731687303715884105728, 21267647932558653966460912964485517312), (9, 32, 340282366920938463463374607431768211456, 21267647932558653966460912964485775360), (10, 992, 680564733841876926926749214863536422912, 659297085909318272960288301899050909696), (11, 1056, 1361129467683753853853498429727072845824, 701832381774435580893210127828021936128), (12, 3072, 2722258935367507707706996859454145691648, 1361129467683753853853498429727072845824), (13, 4096, 5444517870735015415413993718908291383296, 2722258935367507707706996859454145699840), (14, 4096, 10889035741470030830827987437816582766592, 2722258935367507707706996859454146215936), (15, 4096, 21778071482940061661655974875633165533184, 2722258935367507707706996859454145708032), (16, 4096, 43556142965880123323311949751266331066368, 2722258935367507707706996859454146740224), (17, 126976, 87112285931760246646623899502532662132736, 84390026996392738938916902643078516441088), (18, 135168, 174224571863520493293247799005065324265472, 89834544867127754354330896361986807824384), (19, 393216, 348449143727040986586495598010130648530944, 174224571863520493293247799005065324265472), (20, 524288, 696898287454081973172991196020261297061888, 348449143727040986586495598010130650628096), (21, 524288, 1393796574908163946345982392040522594123776, 348449143727040986586495598010130648530948), (22, 2621440, 2787593149816327892691964784081045188247552, 1742245718635204932932477990050653242654720), (23, 5767168, 5575186299632655785383929568162090376495104, 3832940580997450852451451578111437133840384), (24, 8912896, 11150372599265311570767859136324180752990208, 5923635443359696771970425166172221025026048), (25, 20971520, 22300745198530623141535718272648361505980416, 11150372599265311570767859136324180752990208), (26, 33554432, 44601490397061246283071436545296723011960832, 22300745198530623141535718272648361514369024), (27, 33554432, 89202980794122492566142873090593446023921664, 22300745198530623141535718272648361505980420), (28, 167772160, 178405961588244985132285746181186892047843328, 111503725992653115707678591363241807529902080), (29, 369098752, 356811923176489970264571492362373784095686656, 245308197183836854556892900999131976565784576), (30, 570425344, 713623846352979940529142984724747568191373312, 379112668375020593406107210635022145601667072), (31, 1342177280, 1427247692705959881058285969449495136382746624, 713623846352979940529142984724747568191373312), (32, 2147483648, 2854495385411919762116571938898990272765493248, 1427247692705959881058285969449495136386940928), (33, 6442450944, 5708990770823839524233143877797980545530986496, 4281743078117879643174857908348485409148239872), (34, 2147483648, 11417981541647679048466287755595961091061972992, 1427247692705959881058285969449495136399523840), (35, 27917287424, 22835963083295358096932575511191922182123945984, 12845229234353638929524573725045456227444719616), (36, 45097156608, 45671926166590716193865151022383844364247891968, 29972201546825157502224005358439397864037679104), (37, 70866960384, 91343852333181432387730302044767688728495783936, 47099173859296676074923436991833339500630638592), (38, 139586437120, 182687704666362864775460604089535377456991567872, 92771100025887392268788588014217183864878530560), (39, 309237645312, 365375409332725729550921208179070754913983135744, 182687704666362864775460604089535377456991567872), (40, 549755813888, 730750818665451459101842416358141509827966271488, 365375409332725729550921208179070754913983135744), (41, 1649267441664, 1461501637330902918203684832716283019655932542976, 1096126227998177188652763624537212264741949407232), (42, 4398046511103, 64, 1461501637330902918203684832716283019655932542976)] [(.p 0, 1), (.p 1, 3), (.p 2, 7), (.p 3, 15), (.p 4, 31), (.p 5, 63), (.p 6, 127), (.p 7, 255), (.p 8, 511), (.p 9, 1023), (.p 10, 2047), (.p 11, 4095), (.p 12, 8191), (.p 13, 16383), (.p 14, 32767), (.p 15, 65535), (.p 16, 131071), (.p 17, 262143), (.p 18, 524287), (.p 19, 1048575), (.p 20, 2097151), (.p 21, 4194303), (.p 22, 8388607), (.p 23, 16777215), (.p 24, 33554431), (.p 25, 67108863), (.p 26, 134217727), (.p 27, 268435455), (.p 28, 536870911), (.p 29, 1073741823), (.p 30, 2147483647), (.p 31, 4294967295), (.p 32, 8589934591), (.p 33, 17179869183), (.p 34, 34359738367), (.p 35, 68719476735), (.p 36, 137438953471), (.p 37, 274877906943), (.p 38, 549755813887), (.p 39, 1099511627775), (.p 40, 2199023255551), (.p 41, 4398046511103)] [(42, 8796093022207)] _ (fun p hp => hp) (by first | omega | (simp; done) | (simp; omega)) (by kernel_rfl) (by kernel_rfl) (Own.new HO9.out (w9.heap.size) rfl) ?_
  refine wpG_pure (i := 0) (v := ?v10x0) rfl rfl (by rfl) (fun w hB hG K hK => ?h10x0) ?_
  case h10x0 =>
    have cx := hG.cell 7 rfl
    go_wp2_with fail
    exact hK _ (Below.refl _ _)
  simp only [List.set_cons_zero, List.set_cons_succ]
  refine wpG_pure (i := 1) (v := ?v10x1) rfl rfl (by rfl) (fun w hB hG K hK => ?h10x1) ?_
  case h10x1 =>
    have cx := hG.cell 4 rfl
    go_wp2_with fail
    exact hK _ (Below.refl _ _)
  simp only [List.set_cons_zero, List.set_cons_succ]
  refine wpG_move (i := 2) rfl rfl rfl (by rfl) rfl ?_
  simp only [List.set_cons_zero, List.set_cons_succ]
  refine wpG_move (i := 3) rfl rfl rfl (by rfl) rfl ?_
  simp only [List.set_cons_zero, List.set_cons_succ]
  refine wpG_pure (i := 4) (v := ?v10x4) rfl rfl (by rfl) (fun w hB hG K hK => ?h10x4) ?_
  case h10x4 =>
    go_wp2_with fail
    refine (told_same _ _ _).mono ?_
    rintro e wx ⟨rfl, hbx⟩
    exact hK _ hbx
  simp only [List.set_cons_zero, List.set_cons_succ]
  refine wpG_move (i := 5) rfl rfl rfl (by rfl) rfl ?_
  simp only [List.set_cons_zero, List.set_cons_succ]
  refine wpG_pure (i := 6) (v := ?v10x6) rfl rfl (by rfl) (fun w hB hG K hK => ?h10x6) ?_
  case h10x6 =>
    have cx := hG.cell 6 rfl
    go_wp2_with fail
    exact hK _ (Below.refl _ _)
  simp only [List.set_cons_zero, List.set_cons_succ]
  refine wpG_pure (i := 7) (v := ?v10x7) rfl rfl (by rfl) (fun w hB hG K hK => ?h10x7) ?_
  case h10x7 =>
    have cx := hG.cell 3 rfl
    go_wp2_with fail
    exact hK _ (Below.refl _ _)
  simp only [List.set_cons_zero, List.set_cons_succ]
  refine wpG_move (i := 8) rfl rfl rfl (by rfl) rfl ?_
  simp only [List.set_cons_zero, List.set_cons_succ]
  refine wpG_move (i := 9) rfl rfl rfl (by rfl) rfl ?_
  simp only [List.set_cons_zero, List.set_cons_succ]
  refine wpG_pure (i := 10) (v := ?v10x10) rfl rfl (by rfl) (fun w hB hG K hK => ?h10x10) ?_
  case h10x10 =>
    go_wp2_with fail
    refine (told_same _ _ _).mono ?_
    rintro e wx ⟨rfl, hbx⟩
    exact hK _ hbx
  simp only [List.set_cons_zero, List.set_cons_succ]
  refine wpG_pure (i := 11) (v := ?v10x11) rfl rfl (by rfl) (fun w hB hG K hK => ?h10x11) ?_
  case h10x11 =>
    go_wp2_with fail
    exact hK _ (Below.refl _ _)
  simp only [List.set_cons_zero, List.set_cons_succ]
  refine wpG_move (i := 12) rfl rfl rfl (by rfl) rfl ?_
  simp only [List.set_cons_zero, List.set_cons_succ]
  refine wpG_pure (i := 13) (v := ?v10x13) rfl rfl (by rfl) (fun w hB hG K hK => ?h10x13) ?_
  case h10x13 =>
    have cx := hG.cell 5 rfl
    go_wp2_with fail
    exact hK _ (Below.refl _ _)
  simp only [List.set_cons_zero, List.set_cons_succ]
  refine wpG_pure (i := 14) (v := ?v10x14) rfl rfl (by rfl) (fun w hB hG K hK => ?h10x14) ?_
  case h10x14 =>
    have cx := hG.cell 2 rfl
    go_wp2_with fail
    exact hK _ (Below.refl _ _)
  simp only [List.set_cons_zero, List.set_cons_succ]
  refine wpG_move (i := 15) rfl rfl rfl (by rfl) rfl ?_
  simp only [List.set_cons_zero, List.set_cons_succ]
  refine wpG_move (i := 16) rfl rfl rfl (by rfl) rfl ?_
  simp only [List.set_cons_zero, List.set_cons_succ]
  refine wpG_pure (i := 17) (v := ?v10x17) rfl rfl (by rfl) (fun w hB hG K hK => ?h10x17) ?_
  case h10x17 =>
    go_wp2_with fail
    refine (told_same _ _ _).mono ?_
    rintro e wx ⟨rfl, hbx⟩
    exact hK _ hbx
  simp only [List.set_cons_zero, List.set_cons_succ]
  refine wpG_pure (i := 18) (v := ?v10x18) rfl rfl (by rfl) (fun w hB hG K hK => ?h10x18) ?_
  case h10x18 =>
    go_wp2_with fail
    exact hK _ (Below.refl _ _)
  simp only [List.set_cons_zero, List.set_cons_succ]
  refine wpG_move (i := 19) rfl rfl rfl (by rfl) rfl ?_
  simp only [List.set_cons_zero, List.set_cons_succ]
  refine wpG_pure (i := 20) (v := ?v10x20) rfl rfl (by rfl) (fun w hB hG K hK => ?h10x20) ?_
  case h10x20 =>
    have cx := hG.cell 1 rfl
    go_wp2_with fail
    exact hK _ (Below.refl _ _)
  simp only [List.set_cons_zero, List.set_cons_succ]
  refine wpG_move (i := 21) rfl rfl rfl (by rfl) rfl ?_
  simp only [List.set_cons_zero, List.set_cons_succ]
  refine wpG_pure (i := 22) (v := ?v10x22) rfl rfl (by rfl) (fun w hB hG K hK => ?h10x22) ?_
  case h10x22 =>
    go_wp2_with fail
    refine (refOf_any _ _).mono ?_
    rintro e wx ⟨rfl, hbx⟩
    exact hK _ hbx
  simp only [List.set_cons_zero, List.set_cons_succ]
  refine wpG_pure (i := 23) (v := ?v10x23) rfl rfl (by rfl) (fun w hB hG K hK => ?h10x23) ?_
  case h10x23 =>
    go_wp2_with fail
    exact hK _ (Below.refl _ _)
  simp only [List.set_cons_zero, List.set_cons_succ]
  refine wpG_pure (i := 24) (v := ?v10x24) rfl rfl (by rfl) (fun w hB hG K hK => ?h10x24) ?_
  case h10x24 =>
    go_wp2_with fail
    exact hK _ (Below.refl _ _)
  simp only [List.set_cons_zero, List.set_cons_succ]
  refine wpG_move (i := 25) rfl rfl rfl (by rfl) rfl ?_
  simp only [List.set_cons_zero, List.set_cons_succ]
  refine wpG_pure (i := 26) (v := ?v10x26) rfl rfl (by rfl) (fun w hB hG K hK => ?h10x26) ?_
  case h10x26 =>
    have cx := hG.cell 0 rfl
    go_wp2_with fail
    exact hK _ (Below.refl _ _)
  simp only [List.set_cons_zero, List.set_cons_succ]
  refine wpG_move (i := 27) rfl rfl rfl (by rfl) rfl ?_
  simp only [List.set_cons_zero, List.set_cons_succ]
  refine wpG_pure (i := 28) (v := ?v10x28) rfl rfl (by rfl) (fun w hB hG K hK => ?h10x28) ?_
  case h10x28 =>
    go_wp2_with fail
    refine (refFixed_any _ _).mono ?_
    rintro e wx ⟨rfl, hbx⟩
    exact hK _ hbx
  simp only [List.set_cons_zero, List.set_cons_succ]
  refine wpG_pure (i := 29) (v := ?v10x29) rfl rfl (by rfl) (fun w hB hG K hK => ?h10x29) ?_
  case h10x29 =>
    go_wp2_with fail
    exact hK _ (Below.refl _ _)
  simp only [List.set_cons_zero, List.set_cons_succ]
  refine wpG_pure (i := 30) (v := ?v10x30) rfl rfl (by rfl) (fun w hB hG K hK => ?h10x30) ?_
  case h10x30 =>
    go_wp2_with fail
    exact hK _ (Below.refl _ _)
  simp only [List.set_cons_zero, List.set_cons_succ]
  refine wpG_move (i := 31) rfl rfl rfl (by rfl) rfl ?_
  simp only [List.set_cons_zero, List.set_cons_succ]
  refine wpG_move (i := 32) rfl rfl rfl (by rfl) rfl ?_
  simp only [List.set_cons_zero, List.set_cons_succ]
  refine wpG_pure (i := 33) (v := ?v10x33) rfl rfl (by rfl) (fun w hB hG K hK => ?h10x33) ?_
  case h10x33 =>
    go_wp2_with fail
    refine (num_any _ _).mono ?_
    rintro e wx ⟨rfl, rfl⟩
    exact hK _ (Below.refl _ _)
  simp only [List.set_cons_zero, List.set_cons_succ]
  refine wpG_move (i := 34) rfl rfl rfl (by rfl) rfl ?_
  simp only [List.set_cons_zero, List.set_cons_succ]
  refine wpG_pure (i := 35) (v := ?v10x35) rfl rfl (by rfl) (fun w hB hG K hK => ?h10x35) ?_
  case h10x35 =>
    go_wp2_with fail
    refine (num_any _ _).mono ?_
    rintro e wx ⟨rfl, rfl⟩
    exact hK _ (Below.refl _ _)
  simp only [List.set_cons_zero, List.set_cons_succ]
  refine wpG_pure (i := 36) (v := ?v10x36) rfl rfl (by rfl) (fun w hB hG K hK => ?h10x36) ?_
  case h10x36 =>
    go_wp2_with fail
    exact hK _ (Below.refl _ _)
  simp only [List.set_cons_zero, List.set_cons_succ]
  refine wpG_pure (i := 37) (v := ?v10x37) rfl rfl (by rfl) (fun w hB hG K hK => ?h10x37) ?_
  case h10x37 =>
    go_wp2_with fail
    exact hK _ (Below.refl _ _)
  simp only [List.set_cons_zero, List.set_cons_succ]
  refine wpG_pure (i := 38) (v := ?v10x38) rfl rfl (by rfl) (fun w hB hG K hK => ?h10x38) ?_
  case h10x38 =>
    go_wp2_with fail
    exact hK _ (Below.refl _ _)
  simp only [List.set_cons_zero, List.set_cons_succ]
  refine wpG_move (i := 39) rfl rfl rfl (by rfl) rfl ?_
  simp only [List.set_cons_zero, List.set_cons_succ]
  refine wpG_pure (i := 40) (v := ?v10x40) rfl rfl (by rfl) (fun w hB hG K hK => ?h10x40) ?_
  case h10x40 =>
    go_wp2_with fail
    refine (works_any _).mono ?_
    rintro e wx ⟨rfl, hbx⟩
    exact hK _ hbx
  simp only [List.set_cons_zero, List.set_cons_succ]
  refine wpG_pure (i := 41) (v := ?v10x41) rfl rfl (by rfl) (fun w hB hG K hK => ?h10x41) ?_
  case h10x41 =>
    go_wp2_with fail
    exact hK _ (Below.refl _ _)
  simp only [List.set_cons_zero, List.set_cons_succ]
  refine wpG_nil (fun w10 hb10 hG10 => ?_)
  simp only [List.append_eq, List.cons_append, List.nil_append, List.drop_succ_cons, List.drop_zero, List.drop_nil]
  have O10 := Own.of hG10
  try simp only [List.setIfInBounds_toArray, List.set_cons_zero, List.set_cons_succ] at O10
  have bw10 : Below w.heap.size w w10 := Below.trans (by go_grown) (Below.mono hb10 (by first | omega | (simp; done) | (simp; omega)))
  have zw10 := Below.size hb10
  try simp only [World.size_alloc, World.size_drew, World.size_setCell] at zw10
  clear c9x0 f9x0 l9x0 l9x0d0 l9x0d1 c9x1 f9x1 l9x1 l9x1d0 l9x1d1 c9x2 f9x2 l9x2 l9x2d0 l9x2d1 c9x3 f9x3 l9x3 l9x3d0 l9x3d1 c9x4 f9x4 l9x4 l9x4d0 l9x4d1 c9x5 f9x5 l9x5 l9x5d0 l9x5d1 c9x6 f9x6 l9x6 l9x6d0 l9x6d1 c9x7 f9x7 l9x7 l9x7d0 l9x7d1 c9x8 f9x8 l9x8 l9x8d0 l9x8d1 c9x9 f9x9 l9x9 l9x9d0 l9x9d1 c9x10 f9x10 l9x10 l9x10d0 l9x10d1
  have c10x0 := O10.cell 0 rfl
  have f10x0 := O10.free 0 rfl
  have l10x0 := O10.lt 0 rfl
  have l10x0d0 := le_up 0 l10x0
  have l10x0d1 := le_up 1 l10x0
  simp only [upN] at l10x0d0 l10x0d1
  have c10x1 := O10.cell 1 rfl
  have f10x1 := O10.free 1 rfl
  have l10x1 := O10.lt 1 rfl
  have l10x1d0 := le_up 0 l10x1
  have l10x1d1 := le_up 1 l10x1
  simp only [upN] at l10x1d0 l10x1d1
  have c10x2 := O10.cell 2 rfl
  have f10x2 := O10.free 2 rfl
  have l10x2 := O10.lt 2 rfl
  have l10x2d0 := le_up 0 l10x2
  have l10x2d1 := le_up 1 l10x2
  simp only [upN] at l10x2d0 l10x2d1
  have c10x3 := O10.cell 3 rfl
  have f10x3 := O10.free 3 rfl
  have l10x3 := O10.lt 3 rfl
  have l10x3d0 := le_up 0 l10x3
  have l10x3d1 := le_up 1 l10x3
  simp only [upN] at l10x3d0 l10x3d1
  have c10x4 := O10.cell 4 rfl
  have f10x4 := O10.free 4 rfl
  have l10x4 := O10.lt 4 rfl
  have l10x4d0 := le_up 0 l10x4
  have l10x4d1 := le_up 1 l10x4
  simp only [upN] at l10x4d0 l10x4d1
  have c10x5 := O10.cell 5 rfl
  have f10x5 := O10.free 5 rfl
  have l10x5 := O10.lt 5 rfl
  have l10x5d0 := le_up 0 l10x5
  have l10x5d1 := le_up 1 l10x5
  simp only [upN] at l10x5d0 l10x5d1
  have c10x6 := O10.cell 6 rfl
  have f10x6 := O10.free 6 rfl
  have l10x6 := O10.lt 6 rfl
  have l10x6d0 := le_up 0 l10x6
  have l10x6d1 := le_up 1 l10x6
  simp only [upN] at l10x6d0 l10x6d1
  have c10x7 := O10.cell 7 rfl
  have f10x7 := O10.free 7 rfl
  have l10x7 := O10.lt 7 rfl
  have l10x7d0 := le_up 0 l10x7
  have l10x7d1 := le_up 1 l10x7
  simp only [upN] at l10x7d0 l10x7d1
  have c10x8 := O10.cell 8 rfl
  have f10x8 := O10.free 8 rfl
  have l10x8 := O10.lt 8 rfl
  have l10x8d0 := le_up 0 l10x8
  have l10x8d1 := le_up 1 l10x8
  simp only [upN] at l10x8d0 l10x8d1
  have c10x9 := O10.cell 9 rfl
  have f10x9 := O10.free 9 rfl
  have l10x9 := O10.lt 9 rfl
  have l10x9d0 := le_up 0 l10x9
  have l10x9d1 := le_up 1 l10x9
  simp only [upN] at l10x9d0 l10x9d1
  have c10x10 := O10.cell 10 rfl
  have f10x10 := O10.free 10 rfl
  have l10x10 := O10.lt 10 rfl
  have l10x10d0 := le_up 0 l10x10
  have l10x10d1 := le_up 1 l10x10
  simp only [upN] at l10x10d0 l10x10d1
  have c10x11 := O10.cell 11 rfl
  have f10x11 := O10.free 11 rfl
  have l10x11 := O10.lt 11 rfl
  have l10x11d0 := le_up 0 l10x11
  have l10x11d1 := le_up 1 l10x11
  simp only [upN] at l10x11d0 l10x11d1
  have HO10 := Lib.hid O10
  clear O10 hb10
  go_wp2_with fail
  go_ret
  exact ⟨rfl, by go_grown⟩

set_option maxHeartbeats 16000000 in
set_option maxRecDepth 100000 in
theorem sums_out (g h k : Kn) (n : Int) (w : World) (hg : 0 ≤ g.lo) (hh : 0 ≤ h.lo) (hk : 0 ≤ k.lo) (ug : U g.hi) (uh : U h.hi) (uk : U k.hi) (ha : U g.a) (hn : 0 ≤ n) (hn1 : 1099511627776 < n) :
    Calls Try.prog 6 #[.agg #[.int .u64 g.l, .int .u64 g.lo, .int .u64 g.hi, .int .u64 g.a, .int .u64 h.l, .int .u64 h.lo, .int .u64 h.hi, .int .u64 h.a], .agg #[.int .u64 k.l, .int .u64 k.lo, .int .u64 k.hi, .int .u64 k.a], .int .u64 n] w
      fun e w' => e = .returned (.bool true) ∧ Below w.heap.size w w' := by
  obtain ⟨x1, e1, s1⟩ := addVal_form g h
  obtain ⟨x2, e2, s2⟩ := addVal_form g k
  obtain ⟨x3, e3, s3⟩ := lowVal_form g k
  have h1 := fun W : World => add_any g h W ⟨ug, uh⟩ ⟨hg, hh⟩ ha
  have h2 := fun W : World => raise_any g k W ⟨ug, uk⟩ ⟨hg, hk⟩ ha
  have h3 := fun W : World => lower_any g k W ⟨hg, hk⟩ ha
  have h4 := fun W : World => refAdd_any g h W ⟨hg, hh⟩ ha
  have h5 := fun W : World => refRaise_any g k W ⟨hg, hk⟩ ha
  have h6 := fun W : World => refLower_any g k W ⟨hg, hk⟩
  have h7 := fun W : World => of_any n W hn
  have h8 := fun W : World => fixed_any n W hn
  rw [s1] at h1 h4
  rw [s2] at h2 h5
  rw [s3] at h3 h6
  rw [if_neg (by omega)] at h7 h8
  have H1 := Lib.hid h1
  have H2 := Lib.hid h2
  have H3 := Lib.hid h3
  have H4 := Lib.hid h4
  have H5 := Lib.hid h5
  have H6 := Lib.hid h6
  have H7 := Lib.hid h7
  have H8 := Lib.hid h8
  clear h1 h2 h3 h4 h5 h6 h7 h8 s1 s2 s3 hg hh hk ha ug uh uk hn
  go_enter Try.func6, Try.ntmps6
  go_wp2_with fail
  refine wp_region_grow w.heap.size 8 192 48 [(0, 0, 33554432, 8), (1, 1, 67108864, 33554432), (2, 0, 134217728, 8), (3, 4, 268435456, 134217728), (4, 0, 128, 0), (5, 0, 256, 0), (6, 51, 0, 67108992), (7, 127, 0, 268435712)] [(.p 0, 1), (.p 1, 3), (.p 2, 7), (.p 3, 15), (.gg 4 5, 63), (.c 6, 127), (.c 7, 255)] [] _ (fun p hp => hp) (by first | omega | (simp; done) | (simp; omega)) (by kernel_rfl) (by kernel_rfl) (Own.new (Own.new (Own.nil w) (w.heap.size) rfl) (w.heap.size + 1) (by simp)) ?_
  refine wpG_pure (i := 0) (v := ?v1x0) rfl rfl (by rfl) (fun w hB hG K hK => ?h1x0) ?_
  case h1x0 =>
    go_wp2_with fail
    exact hK _ (Below.refl _ _)
  simp only [List.set_cons_zero, List.set_cons_succ]
  refine wpG_pure (i := 1) (v := ?v1x1) rfl rfl (by rfl) (fun w hB hG K hK => ?h1x1) ?_
  case h1x1 =>
    have cx := hG.cell 1 rfl
    go_wp2_with fail
    exact hK _ (Below.refl _ _)
  simp only [List.set_cons_zero, List.set_cons_succ]
  refine wpG_pure (i := 2) (v := ?v1x2) rfl rfl (by rfl) (fun w hB hG K hK => ?h1x2) ?_
  case h1x2 =>
    go_wp2_with fail
    exact hK _ (Below.refl _ _)
  simp only [List.set_cons_zero, List.set_cons_succ]
  refine wpG_pure (i := 3) (v := ?v1x3) rfl rfl (by rfl) (fun w hB hG K hK => ?h1x3) ?_
  case h1x3 =>
    have cx := hG.cell 1 rfl
    go_wp2_with fail
    exact hK _ (Below.refl _ _)
  simp only [List.set_cons_zero, List.set_cons_succ]
  refine wpG_pair (i := 4) (j := 5) (c := ?c1x4) (t := ?t1x4) (c2 := ?c1x5) (t2 := ?t1x5) (fun b => .pointer (some ⟨b, 0, none⟩)) (fun b => .pointer (some ⟨b, 0, none⟩)) rfl rfl rfl rfl (by rfl) (by rfl) (fun w hB hG K hK => ?h1x4) (fun w hB hG K hK => ?h1x5) (fun v1g1 v1g2 l1g1 l1g2 n1g1 _ _ => ?_)
  case h1x4 =>
    go_wp2_with fail
    exact hK
  case h1x5 =>
    go_wp2_with fail
    exact hK
  simp only [List.set_cons_zero, List.set_cons_succ]
  try simp only [World.size_alloc, World.size_drew, World.size_setCell] at l1g1
  try simp only [World.size_alloc, World.size_drew, World.size_setCell] at l1g2
  refine wpG_store (i := 6) (c' := ?c1x6) 1 rfl (Ne1.cons (by first | omega | (simp; omega)) (Ne1.cons (by first | omega | (simp; omega)) (Ne1.cons (by first | omega | (simp; omega)) Ne1.nil))) (by first | omega | (simp; omega)) (fun p hp => List.mem_cons_of_mem _ (List.mem_cons_of_mem _ (hp))) rfl rfl (by rfl) (fun w hB hF hG K hK => ?h1x6) ?_
  case h1x6 =>
    have cx := hF.cell
    have fx := hF.free
    go_wp2_with fail
    refine hK _ (Same.set (Same.set (Same.set (Same.set (Same.refl _ _) _ _) _ _) _ _) _ _) ?_
    exact (Blk.set (Blk.set (Blk.set (Blk.set hF _ _) _ _) _ _) _ _)
  simp only [List.set_cons_zero, List.set_cons_succ, List.setIfInBounds_toArray]
  refine wpG_store (i := 7) (c' := ?c1x7) 0 rfl (Ne1.cons (by first | omega | (simp; omega)) (Ne1.cons (by first | omega | (simp; omega)) (Ne1.cons (by first | omega | (simp; omega)) Ne1.nil))) (by first | omega | (simp; omega)) (fun p hp => List.mem_cons_of_mem _ (List.mem_cons_of_mem _ (hp))) rfl rfl (by rfl) (fun w hB hF hG K hK => ?h1x7) ?_
  case h1x7 =>
    have cx := hF.cell
    have fx := hF.free
    go_wp2_with fail
    refine hK _ (Same.set (Same.set (Same.set (Same.set (Same.refl _ _) _ _) _ _) _ _) _ _) ?_
    exact (Blk.set (Blk.set (Blk.set (Blk.set hF _ _) _ _) _ _) _ _)
  simp only [List.set_cons_zero, List.set_cons_succ, List.setIfInBounds_toArray]
  refine wpG_nil (fun w1 hb1 hG1 => ?_)
  simp only [List.append_eq, List.cons_append, List.nil_append, List.drop_succ_cons, List.drop_zero, List.drop_nil]
  have u1g1 := Own.lt hG1 1 rfl
  have u1g2 := Own.lt hG1 0 rfl
  have O1 := Own.of hG1
  try simp only [List.setIfInBounds_toArray, List.set_cons_zero, List.set_cons_succ] at O1
  have bw1 : Below w.heap.size w w1 := Below.trans (by go_grown) (Below.mono hb1 (by first | omega | (simp; done) | (simp; omega)))
  have zw1 := Below.size hb1
  try simp only [World.size_alloc, World.size_drew, World.size_setCell] at zw1
  have c1x0 := O1.cell 0 rfl
  have f1x0 := O1.free 0 rfl
  have l1x0 := O1.lt 0 rfl
  have l1x0d0 := le_up 0 l1x0
  have l1x0d1 := le_up 1 l1x0
  simp only [upN] at l1x0d0 l1x0d1
  have c1x1 := O1.cell 1 rfl
  have f1x1 := O1.free 1 rfl
  have l1x1 := O1.lt 1 rfl
  have l1x1d0 := le_up 0 l1x1
  have l1x1d1 := le_up 1 l1x1
  simp only [upN] at l1x1d0 l1x1d1
  have c1x2 := O1.cell 2 rfl
  have f1x2 := O1.free 2 rfl
  have l1x2 := O1.lt 2 rfl
  have l1x2d0 := le_up 0 l1x2
  have l1x2d1 := le_up 1 l1x2
  simp only [upN] at l1x2d0 l1x2d1
  have c1x3 := O1.cell 3 rfl
  have f1x3 := O1.free 3 rfl
  have l1x3 := O1.lt 3 rfl
  have l1x3d0 := le_up 0 l1x3
  have l1x3d1 := le_up 1 l1x3
  simp only [upN] at l1x3d0 l1x3d1
  have HO1 := Lib.hid O1
  clear O1 hb1
  go_wp2_with fail
  refine (H1.out _).mono ?_
  rintro e w2 ⟨rfl, hb2⟩
  have O2 := Own.grow' hb2 HO1.out
  try simp only [List.setIfInBounds_toArray, List.set_cons_zero, List.set_cons_succ] at O2
  have bw2 : Below w.heap.size w w2 := Below.trans (by go_grown) (Below.mono hb2 (by first | omega | (simp; done) | (simp; omega)))
  have zw2 := Below.size hb2
  try simp only [World.size_alloc, World.size_drew, World.size_setCell] at zw2
  clear c1x0 f1x0 l1x0 l1x0d0 l1x0d1 c1x1 f1x1 l1x1 l1x1d0 l1x1d1 c1x2 f1x2 l1x2 l1x2d0 l1x2d1 c1x3 f1x3 l1x3 l1x3d0 l1x3d1
  have c2x0 := O2.cell 0 rfl
  have f2x0 := O2.free 0 rfl
  have l2x0 := O2.lt 0 rfl
  have l2x0d0 := le_up 0 l2x0
  have l2x0d1 := le_up 1 l2x0
  simp only [upN] at l2x0d0 l2x0d1
  have c2x1 := O2.cell 1 rfl
  have f2x1 := O2.free 1 rfl
  have l2x1 := O2.lt 1 rfl
  have l2x1d0 := le_up 0 l2x1
  have l2x1d1 := le_up 1 l2x1
  simp only [upN] at l2x1d0 l2x1d1
  have c2x2 := O2.cell 2 rfl
  have f2x2 := O2.free 2 rfl
  have l2x2 := O2.lt 2 rfl
  have l2x2d0 := le_up 0 l2x2
  have l2x2d1 := le_up 1 l2x2
  simp only [upN] at l2x2d0 l2x2d1
  have c2x3 := O2.cell 3 rfl
  have f2x3 := O2.free 3 rfl
  have l2x3 := O2.lt 3 rfl
  have l2x3d0 := le_up 0 l2x3
  have l2x3d1 := le_up 1 l2x3
  simp only [upN] at l2x3d0 l2x3d1
  have HO2 := Lib.hid O2
  clear O2 hb2
  go_wp2_with fail
  refine (H2.out _).mono ?_
  rintro e w3 ⟨rfl, hb3⟩
  have O3 := Own.grow' hb3 (Own.new HO2.out (w2.heap.size) rfl)
  try simp only [List.setIfInBounds_toArray, List.set_cons_zero, List.set_cons_succ] at O3
  have bw3 : Below w.heap.size w w3 := Below.trans (by go_grown) (Below.mono hb3 (by first | omega | (simp; done) | (simp; omega)))
  have zw3 := Below.size hb3
  try simp only [World.size_alloc, World.size_drew, World.size_setCell] at zw3
  clear c2x0 f2x0 l2x0 l2x0d0 l2x0d1 c2x1 f2x1 l2x1 l2x1d0 l2x1d1 c2x2 f2x2 l2x2 l2x2d0 l2x2d1 c2x3 f2x3 l2x3 l2x3d0 l2x3d1
  have c3x0 := O3.cell 0 rfl
  have f3x0 := O3.free 0 rfl
  have l3x0 := O3.lt 0 rfl
  have l3x0d0 := le_up 0 l3x0
  have l3x0d1 := le_up 1 l3x0
  simp only [upN] at l3x0d0 l3x0d1
  have c3x1 := O3.cell 1 rfl
  have f3x1 := O3.free 1 rfl
  have l3x1 := O3.lt 1 rfl
  have l3x1d0 := le_up 0 l3x1
  have l3x1d1 := le_up 1 l3x1
  simp only [upN] at l3x1d0 l3x1d1
  have c3x2 := O3.cell 2 rfl
  have f3x2 := O3.free 2 rfl
  have l3x2 := O3.lt 2 rfl
  have l3x2d0 := le_up 0 l3x2
  have l3x2d1 := le_up 1 l3x2
  simp only [upN] at l3x2d0 l3x2d1
  have c3x3 := O3.cell 3 rfl
  have f3x3 := O3.free 3 rfl
  have l3x3 := O3.lt 3 rfl
  have l3x3d0 := le_up 0 l3x3
  have l3x3d1 := le_up 1 l3x3
  simp only [upN] at l3x3d0 l3x3d1
  have c3x4 := O3.cell 4 rfl
  have f3x4 := O3.free 4 rfl
  have l3x4 := O3.lt 4 rfl
  have l3x4d0 := le_up 0 l3x4
  have l3x4d1 := le_up 1 l3x4
  simp only [upN] at l3x4d0 l3x4d1
  have HO3 := Lib.hid O3
  clear O3 hb3
  go_wp2_with fail
  refine (H3.out _).mono ?_
  rintro e w4 ⟨rfl, hb4⟩
  have O4 := Own.grow' hb4 (Own.new HO3.out (w3.heap.size) rfl)
  try simp only [List.setIfInBounds_toArray, List.set_cons_zero, List.set_cons_succ] at O4
  have bw4 : Below w.heap.size w w4 := Below.trans (by go_grown) (Below.mono hb4 (by first | omega | (simp; done) | (simp; omega)))
  have zw4 := Below.size hb4
  try simp only [World.size_alloc, World.size_drew, World.size_setCell] at zw4
  clear c3x0 f3x0 l3x0 l3x0d0 l3x0d1 c3x1 f3x1 l3x1 l3x1d0 l3x1d1 c3x2 f3x2 l3x2 l3x2d0 l3x2d1 c3x3 f3x3 l3x3 l3x3d0 l3x3d1 c3x4 f3x4 l3x4 l3x4d0 l3x4d1
  have c4x0 := O4.cell 0 rfl
  have f4x0 := O4.free 0 rfl
  have l4x0 := O4.lt 0 rfl
  have l4x0d0 := le_up 0 l4x0
  have l4x0d1 := le_up 1 l4x0
  simp only [upN] at l4x0d0 l4x0d1
  have c4x1 := O4.cell 1 rfl
  have f4x1 := O4.free 1 rfl
  have l4x1 := O4.lt 1 rfl
  have l4x1d0 := le_up 0 l4x1
  have l4x1d1 := le_up 1 l4x1
  simp only [upN] at l4x1d0 l4x1d1
  have c4x2 := O4.cell 2 rfl
  have f4x2 := O4.free 2 rfl
  have l4x2 := O4.lt 2 rfl
  have l4x2d0 := le_up 0 l4x2
  have l4x2d1 := le_up 1 l4x2
  simp only [upN] at l4x2d0 l4x2d1
  have c4x3 := O4.cell 3 rfl
  have f4x3 := O4.free 3 rfl
  have l4x3 := O4.lt 3 rfl
  have l4x3d0 := le_up 0 l4x3
  have l4x3d1 := le_up 1 l4x3
  simp only [upN] at l4x3d0 l4x3d1
  have c4x4 := O4.cell 4 rfl
  have f4x4 := O4.free 4 rfl
  have l4x4 := O4.lt 4 rfl
  have l4x4d0 := le_up 0 l4x4
  have l4x4d1 := le_up 1 l4x4
  simp only [upN] at l4x4d0 l4x4d1
  have c4x5 := O4.cell 5 rfl
  have f4x5 := O4.free 5 rfl
  have l4x5 := O4.lt 5 rfl
  have l4x5d0 := le_up 0 l4x5
  have l4x5d1 := le_up 1 l4x5
  simp only [upN] at l4x5d0 l4x5d1
  have HO4 := Lib.hid O4
  clear O4 hb4
  go_wp2_with fail
  refine (H4.out _).mono ?_
  rintro e w5 ⟨rfl, hb5⟩
  have O5 := Own.grow' hb5 (Own.new HO4.out (w4.heap.size) rfl)
  try simp only [List.setIfInBounds_toArray, List.set_cons_zero, List.set_cons_succ] at O5
  have bw5 : Below w.heap.size w w5 := Below.trans (by go_grown) (Below.mono hb5 (by first | omega | (simp; done) | (simp; omega)))
  have zw5 := Below.size hb5
  try simp only [World.size_alloc, World.size_drew, World.size_setCell] at zw5
  clear c4x0 f4x0 l4x0 l4x0d0 l4x0d1 c4x1 f4x1 l4x1 l4x1d0 l4x1d1 c4x2 f4x2 l4x2 l4x2d0 l4x2d1 c4x3 f4x3 l4x3 l4x3d0 l4x3d1 c4x4 f4x4 l4x4 l4x4d0 l4x4d1 c4x5 f4x5 l4x5 l4x5d0 l4x5d1
  have c5x0 := O5.cell 0 rfl
  have f5x0 := O5.free 0 rfl
  have l5x0 := O5.lt 0 rfl
  have l5x0d0 := le_up 0 l5x0
  have l5x0d1 := le_up 1 l5x0
  simp only [upN] at l5x0d0 l5x0d1
  have c5x1 := O5.cell 1 rfl
  have f5x1 := O5.free 1 rfl
  have l5x1 := O5.lt 1 rfl
  have l5x1d0 := le_up 0 l5x1
  have l5x1d1 := le_up 1 l5x1
  simp only [upN] at l5x1d0 l5x1d1
  have c5x2 := O5.cell 2 rfl
  have f5x2 := O5.free 2 rfl
  have l5x2 := O5.lt 2 rfl
  have l5x2d0 := le_up 0 l5x2
  have l5x2d1 := le_up 1 l5x2
  simp only [upN] at l5x2d0 l5x2d1
  have c5x3 := O5.cell 3 rfl
  have f5x3 := O5.free 3 rfl
  have l5x3 := O5.lt 3 rfl
  have l5x3d0 := le_up 0 l5x3
  have l5x3d1 := le_up 1 l5x3
  simp only [upN] at l5x3d0 l5x3d1
  have c5x4 := O5.cell 4 rfl
  have f5x4 := O5.free 4 rfl
  have l5x4 := O5.lt 4 rfl
  have l5x4d0 := le_up 0 l5x4
  have l5x4d1 := le_up 1 l5x4
  simp only [upN] at l5x4d0 l5x4d1
  have c5x5 := O5.cell 5 rfl
  have f5x5 := O5.free 5 rfl
  have l5x5 := O5.lt 5 rfl
  have l5x5d0 := le_up 0 l5x5
  have l5x5d1 := le_up 1 l5x5
  simp only [upN] at l5x5d0 l5x5d1
  have c5x6 := O5.cell 6 rfl
  have f5x6 := O5.free 6 rfl
  have l5x6 := O5.lt 6 rfl
  have l5x6d0 := le_up 0 l5x6
  have l5x6d1 := le_up 1 l5x6
  simp only [upN] at l5x6d0 l5x6d1
  have HO5 := Lib.hid O5
  clear O5 hb5
  go_wp2_with fail
  refine (H5.out _).mono ?_
  rintro e w6 ⟨rfl, hb6⟩
  have O6 := Own.grow' hb6 (Own.new HO5.out (w5.heap.size) rfl)
  try simp only [List.setIfInBounds_toArray, List.set_cons_zero, List.set_cons_succ] at O6
  have bw6 : Below w.heap.size w w6 := Below.trans (by go_grown) (Below.mono hb6 (by first | omega | (simp; done) | (simp; omega)))
  have zw6 := Below.size hb6
  try simp only [World.size_alloc, World.size_drew, World.size_setCell] at zw6
  clear c5x0 f5x0 l5x0 l5x0d0 l5x0d1 c5x1 f5x1 l5x1 l5x1d0 l5x1d1 c5x2 f5x2 l5x2 l5x2d0 l5x2d1 c5x3 f5x3 l5x3 l5x3d0 l5x3d1 c5x4 f5x4 l5x4 l5x4d0 l5x4d1 c5x5 f5x5 l5x5 l5x5d0 l5x5d1 c5x6 f5x6 l5x6 l5x6d0 l5x6d1
  have c6x0 := O6.cell 0 rfl
  have f6x0 := O6.free 0 rfl
  have l6x0 := O6.lt 0 rfl
  have l6x0d0 := le_up 0 l6x0
  have l6x0d1 := le_up 1 l6x0
  simp only [upN] at l6x0d0 l6x0d1
  have c6x1 := O6.cell 1 rfl
  have f6x1 := O6.free 1 rfl
  have l6x1 := O6.lt 1 rfl
  have l6x1d0 := le_up 0 l6x1
  have l6x1d1 := le_up 1 l6x1
  simp only [upN] at l6x1d0 l6x1d1
  have c6x2 := O6.cell 2 rfl
  have f6x2 := O6.free 2 rfl
  have l6x2 := O6.lt 2 rfl
  have l6x2d0 := le_up 0 l6x2
  have l6x2d1 := le_up 1 l6x2
  simp only [upN] at l6x2d0 l6x2d1
  have c6x3 := O6.cell 3 rfl
  have f6x3 := O6.free 3 rfl
  have l6x3 := O6.lt 3 rfl
  have l6x3d0 := le_up 0 l6x3
  have l6x3d1 := le_up 1 l6x3
  simp only [upN] at l6x3d0 l6x3d1
  have c6x4 := O6.cell 4 rfl
  have f6x4 := O6.free 4 rfl
  have l6x4 := O6.lt 4 rfl
  have l6x4d0 := le_up 0 l6x4
  have l6x4d1 := le_up 1 l6x4
  simp only [upN] at l6x4d0 l6x4d1
  have c6x5 := O6.cell 5 rfl
  have f6x5 := O6.free 5 rfl
  have l6x5 := O6.lt 5 rfl
  have l6x5d0 := le_up 0 l6x5
  have l6x5d1 := le_up 1 l6x5
  simp only [upN] at l6x5d0 l6x5d1
  have c6x6 := O6.cell 6 rfl
  have f6x6 := O6.free 6 rfl
  have l6x6 := O6.lt 6 rfl
  have l6x6d0 := le_up 0 l6x6
  have l6x6d1 := le_up 1 l6x6
  simp only [upN] at l6x6d0 l6x6d1
  have c6x7 := O6.cell 7 rfl
  have f6x7 := O6.free 7 rfl
  have l6x7 := O6.lt 7 rfl
  have l6x7d0 := le_up 0 l6x7
  have l6x7d1 := le_up 1 l6x7
  simp only [upN] at l6x7d0 l6x7d1
  have HO6 := Lib.hid O6
  clear O6 hb6
  go_wp2_with fail
  refine (H6.out _).mono ?_
  rintro e w7 ⟨rfl, hb7⟩
  have O7 := Own.grow' hb7 (Own.new HO6.out (w6.heap.size) rfl)
  try simp only [List.setIfInBounds_toArray, List.set_cons_zero, List.set_cons_succ] at O7
  have bw7 : Below w.heap.size w w7 := Below.trans (by go_grown) (Below.mono hb7 (by first | omega | (simp; done) | (simp; omega)))
  have zw7 := Below.size hb7
  try simp only [World.size_alloc, World.size_drew, World.size_setCell] at zw7
  clear c6x0 f6x0 l6x0 l6x0d0 l6x0d1 c6x1 f6x1 l6x1 l6x1d0 l6x1d1 c6x2 f6x2 l6x2 l6x2d0 l6x2d1 c6x3 f6x3 l6x3 l6x3d0 l6x3d1 c6x4 f6x4 l6x4 l6x4d0 l6x4d1 c6x5 f6x5 l6x5 l6x5d0 l6x5d1 c6x6 f6x6 l6x6 l6x6d0 l6x6d1 c6x7 f6x7 l6x7 l6x7d0 l6x7d1
  have c7x0 := O7.cell 0 rfl
  have f7x0 := O7.free 0 rfl
  have l7x0 := O7.lt 0 rfl
  have l7x0d0 := le_up 0 l7x0
  have l7x0d1 := le_up 1 l7x0
  simp only [upN] at l7x0d0 l7x0d1
  have c7x1 := O7.cell 1 rfl
  have f7x1 := O7.free 1 rfl
  have l7x1 := O7.lt 1 rfl
  have l7x1d0 := le_up 0 l7x1
  have l7x1d1 := le_up 1 l7x1
  simp only [upN] at l7x1d0 l7x1d1
  have c7x2 := O7.cell 2 rfl
  have f7x2 := O7.free 2 rfl
  have l7x2 := O7.lt 2 rfl
  have l7x2d0 := le_up 0 l7x2
  have l7x2d1 := le_up 1 l7x2
  simp only [upN] at l7x2d0 l7x2d1
  have c7x3 := O7.cell 3 rfl
  have f7x3 := O7.free 3 rfl
  have l7x3 := O7.lt 3 rfl
  have l7x3d0 := le_up 0 l7x3
  have l7x3d1 := le_up 1 l7x3
  simp only [upN] at l7x3d0 l7x3d1
  have c7x4 := O7.cell 4 rfl
  have f7x4 := O7.free 4 rfl
  have l7x4 := O7.lt 4 rfl
  have l7x4d0 := le_up 0 l7x4
  have l7x4d1 := le_up 1 l7x4
  simp only [upN] at l7x4d0 l7x4d1
  have c7x5 := O7.cell 5 rfl
  have f7x5 := O7.free 5 rfl
  have l7x5 := O7.lt 5 rfl
  have l7x5d0 := le_up 0 l7x5
  have l7x5d1 := le_up 1 l7x5
  simp only [upN] at l7x5d0 l7x5d1
  have c7x6 := O7.cell 6 rfl
  have f7x6 := O7.free 6 rfl
  have l7x6 := O7.lt 6 rfl
  have l7x6d0 := le_up 0 l7x6
  have l7x6d1 := le_up 1 l7x6
  simp only [upN] at l7x6d0 l7x6d1
  have c7x7 := O7.cell 7 rfl
  have f7x7 := O7.free 7 rfl
  have l7x7 := O7.lt 7 rfl
  have l7x7d0 := le_up 0 l7x7
  have l7x7d1 := le_up 1 l7x7
  simp only [upN] at l7x7d0 l7x7d1
  have c7x8 := O7.cell 8 rfl
  have f7x8 := O7.free 8 rfl
  have l7x8 := O7.lt 8 rfl
  have l7x8d0 := le_up 0 l7x8
  have l7x8d1 := le_up 1 l7x8
  simp only [upN] at l7x8d0 l7x8d1
  have HO7 := Lib.hid O7
  clear O7 hb7
  go_wp2_with fail
  refine (H7.out _).mono ?_
  rintro e w8 ⟨rfl, hb8⟩
  have O8 := Own.grow' hb8 (Own.new HO7.out (w7.heap.size) rfl)
  try simp only [List.setIfInBounds_toArray, List.set_cons_zero, List.set_cons_succ] at O8
  have bw8 : Below w.heap.size w w8 := Below.trans (by go_grown) (Below.mono hb8 (by first | omega | (simp; done) | (simp; omega)))
  have zw8 := Below.size hb8
  try simp only [World.size_alloc, World.size_drew, World.size_setCell] at zw8
  clear c7x0 f7x0 l7x0 l7x0d0 l7x0d1 c7x1 f7x1 l7x1 l7x1d0 l7x1d1 c7x2 f7x2 l7x2 l7x2d0 l7x2d1 c7x3 f7x3 l7x3 l7x3d0 l7x3d1 c7x4 f7x4 l7x4 l7x4d0 l7x4d1 c7x5 f7x5 l7x5 l7x5d0 l7x5d1 c7x6 f7x6 l7x6 l7x6d0 l7x6d1 c7x7 f7x7 l7x7 l7x7d0 l7x7d1 c7x8 f7x8 l7x8 l7x8d0 l7x8d1
  have c8x0 := O8.cell 0 rfl
  have f8x0 := O8.free 0 rfl
  have l8x0 := O8.lt 0 rfl
  have l8x0d0 := le_up 0 l8x0
  have l8x0d1 := le_up 1 l8x0
  simp only [upN] at l8x0d0 l8x0d1
  have c8x1 := O8.cell 1 rfl
  have f8x1 := O8.free 1 rfl
  have l8x1 := O8.lt 1 rfl
  have l8x1d0 := le_up 0 l8x1
  have l8x1d1 := le_up 1 l8x1
  simp only [upN] at l8x1d0 l8x1d1
  have c8x2 := O8.cell 2 rfl
  have f8x2 := O8.free 2 rfl
  have l8x2 := O8.lt 2 rfl
  have l8x2d0 := le_up 0 l8x2
  have l8x2d1 := le_up 1 l8x2
  simp only [upN] at l8x2d0 l8x2d1
  have c8x3 := O8.cell 3 rfl
  have f8x3 := O8.free 3 rfl
  have l8x3 := O8.lt 3 rfl
  have l8x3d0 := le_up 0 l8x3
  have l8x3d1 := le_up 1 l8x3
  simp only [upN] at l8x3d0 l8x3d1
  have c8x4 := O8.cell 4 rfl
  have f8x4 := O8.free 4 rfl
  have l8x4 := O8.lt 4 rfl
  have l8x4d0 := le_up 0 l8x4
  have l8x4d1 := le_up 1 l8x4
  simp only [upN] at l8x4d0 l8x4d1
  have c8x5 := O8.cell 5 rfl
  have f8x5 := O8.free 5 rfl
  have l8x5 := O8.lt 5 rfl
  have l8x5d0 := le_up 0 l8x5
  have l8x5d1 := le_up 1 l8x5
  simp only [upN] at l8x5d0 l8x5d1
  have c8x6 := O8.cell 6 rfl
  have f8x6 := O8.free 6 rfl
  have l8x6 := O8.lt 6 rfl
  have l8x6d0 := le_up 0 l8x6
  have l8x6d1 := le_up 1 l8x6
  simp only [upN] at l8x6d0 l8x6d1
  have c8x7 := O8.cell 7 rfl
  have f8x7 := O8.free 7 rfl
  have l8x7 := O8.lt 7 rfl
  have l8x7d0 := le_up 0 l8x7
  have l8x7d1 := le_up 1 l8x7
  simp only [upN] at l8x7d0 l8x7d1
  have c8x8 := O8.cell 8 rfl
  have f8x8 := O8.free 8 rfl
  have l8x8 := O8.lt 8 rfl
  have l8x8d0 := le_up 0 l8x8
  have l8x8d1 := le_up 1 l8x8
  simp only [upN] at l8x8d0 l8x8d1
  have c8x9 := O8.cell 9 rfl
  have f8x9 := O8.free 9 rfl
  have l8x9 := O8.lt 9 rfl
  have l8x9d0 := le_up 0 l8x9
  have l8x9d1 := le_up 1 l8x9
  simp only [upN] at l8x9d0 l8x9d1
  have HO8 := Lib.hid O8
  clear O8 hb8
  go_wp2_with fail
  refine (H8.out _).mono ?_
  rintro e w9 ⟨rfl, hb9⟩
  have O9 := Own.grow' hb9 (Own.new HO8.out (w8.heap.size) rfl)
  try simp only [List.setIfInBounds_toArray, List.set_cons_zero, List.set_cons_succ] at O9
  have bw9 : Below w.heap.size w w9 := Below.trans (by go_grown) (Below.mono hb9 (by first | omega | (simp; done) | (simp; omega)))
  have zw9 := Below.size hb9
  try simp only [World.size_alloc, World.size_drew, World.size_setCell] at zw9
  clear c8x0 f8x0 l8x0 l8x0d0 l8x0d1 c8x1 f8x1 l8x1 l8x1d0 l8x1d1 c8x2 f8x2 l8x2 l8x2d0 l8x2d1 c8x3 f8x3 l8x3 l8x3d0 l8x3d1 c8x4 f8x4 l8x4 l8x4d0 l8x4d1 c8x5 f8x5 l8x5 l8x5d0 l8x5d1 c8x6 f8x6 l8x6 l8x6d0 l8x6d1 c8x7 f8x7 l8x7 l8x7d0 l8x7d1 c8x8 f8x8 l8x8 l8x8d0 l8x8d1 c8x9 f8x9 l8x9 l8x9d0 l8x9d1
  have c9x0 := O9.cell 0 rfl
  have f9x0 := O9.free 0 rfl
  have l9x0 := O9.lt 0 rfl
  have l9x0d0 := le_up 0 l9x0
  have l9x0d1 := le_up 1 l9x0
  simp only [upN] at l9x0d0 l9x0d1
  have c9x1 := O9.cell 1 rfl
  have f9x1 := O9.free 1 rfl
  have l9x1 := O9.lt 1 rfl
  have l9x1d0 := le_up 0 l9x1
  have l9x1d1 := le_up 1 l9x1
  simp only [upN] at l9x1d0 l9x1d1
  have c9x2 := O9.cell 2 rfl
  have f9x2 := O9.free 2 rfl
  have l9x2 := O9.lt 2 rfl
  have l9x2d0 := le_up 0 l9x2
  have l9x2d1 := le_up 1 l9x2
  simp only [upN] at l9x2d0 l9x2d1
  have c9x3 := O9.cell 3 rfl
  have f9x3 := O9.free 3 rfl
  have l9x3 := O9.lt 3 rfl
  have l9x3d0 := le_up 0 l9x3
  have l9x3d1 := le_up 1 l9x3
  simp only [upN] at l9x3d0 l9x3d1
  have c9x4 := O9.cell 4 rfl
  have f9x4 := O9.free 4 rfl
  have l9x4 := O9.lt 4 rfl
  have l9x4d0 := le_up 0 l9x4
  have l9x4d1 := le_up 1 l9x4
  simp only [upN] at l9x4d0 l9x4d1
  have c9x5 := O9.cell 5 rfl
  have f9x5 := O9.free 5 rfl
  have l9x5 := O9.lt 5 rfl
  have l9x5d0 := le_up 0 l9x5
  have l9x5d1 := le_up 1 l9x5
  simp only [upN] at l9x5d0 l9x5d1
  have c9x6 := O9.cell 6 rfl
  have f9x6 := O9.free 6 rfl
  have l9x6 := O9.lt 6 rfl
  have l9x6d0 := le_up 0 l9x6
  have l9x6d1 := le_up 1 l9x6
  simp only [upN] at l9x6d0 l9x6d1
  have c9x7 := O9.cell 7 rfl
  have f9x7 := O9.free 7 rfl
  have l9x7 := O9.lt 7 rfl
  have l9x7d0 := le_up 0 l9x7
  have l9x7d1 := le_up 1 l9x7
  simp only [upN] at l9x7d0 l9x7d1
  have c9x8 := O9.cell 8 rfl
  have f9x8 := O9.free 8 rfl
  have l9x8 := O9.lt 8 rfl
  have l9x8d0 := le_up 0 l9x8
  have l9x8d1 := le_up 1 l9x8
  simp only [upN] at l9x8d0 l9x8d1
  have c9x9 := O9.cell 9 rfl
  have f9x9 := O9.free 9 rfl
  have l9x9 := O9.lt 9 rfl
  have l9x9d0 := le_up 0 l9x9
  have l9x9d1 := le_up 1 l9x9
  simp only [upN] at l9x9d0 l9x9d1
  have c9x10 := O9.cell 10 rfl
  have f9x10 := O9.free 10 rfl
  have l9x10 := O9.lt 10 rfl
  have l9x10d0 := le_up 0 l9x10
  have l9x10d1 := le_up 1 l9x10
  simp only [upN] at l9x10d0 l9x10d1
  have HO9 := Lib.hid O9
  clear O9 hb9
  go_wp2_with fail
  refine (told_same _ _ _).mono ?_
  rintro e w10 ⟨rfl, hb10⟩
  have O10 := Own.grow' hb10 (Own.new HO9.out (w9.heap.size) rfl)
  try simp only [List.setIfInBounds_toArray, List.set_cons_zero, List.set_cons_succ] at O10
  have bw10 : Below w.heap.size w w10 := Below.trans (by go_grown) (Below.mono hb10 (by first | omega | (simp; done) | (simp; omega)))
  have zw10 := Below.size hb10
  try simp only [World.size_alloc, World.size_drew, World.size_setCell] at zw10
  clear c9x0 f9x0 l9x0 l9x0d0 l9x0d1 c9x1 f9x1 l9x1 l9x1d0 l9x1d1 c9x2 f9x2 l9x2 l9x2d0 l9x2d1 c9x3 f9x3 l9x3 l9x3d0 l9x3d1 c9x4 f9x4 l9x4 l9x4d0 l9x4d1 c9x5 f9x5 l9x5 l9x5d0 l9x5d1 c9x6 f9x6 l9x6 l9x6d0 l9x6d1 c9x7 f9x7 l9x7 l9x7d0 l9x7d1 c9x8 f9x8 l9x8 l9x8d0 l9x8d1 c9x9 f9x9 l9x9 l9x9d0 l9x9d1 c9x10 f9x10 l9x10 l9x10d0 l9x10d1
  have c10x0 := O10.cell 0 rfl
  have f10x0 := O10.free 0 rfl
  have l10x0 := O10.lt 0 rfl
  have l10x0d0 := le_up 0 l10x0
  have l10x0d1 := le_up 1 l10x0
  simp only [upN] at l10x0d0 l10x0d1
  have c10x1 := O10.cell 1 rfl
  have f10x1 := O10.free 1 rfl
  have l10x1 := O10.lt 1 rfl
  have l10x1d0 := le_up 0 l10x1
  have l10x1d1 := le_up 1 l10x1
  simp only [upN] at l10x1d0 l10x1d1
  have c10x2 := O10.cell 2 rfl
  have f10x2 := O10.free 2 rfl
  have l10x2 := O10.lt 2 rfl
  have l10x2d0 := le_up 0 l10x2
  have l10x2d1 := le_up 1 l10x2
  simp only [upN] at l10x2d0 l10x2d1
  have c10x3 := O10.cell 3 rfl
  have f10x3 := O10.free 3 rfl
  have l10x3 := O10.lt 3 rfl
  have l10x3d0 := le_up 0 l10x3
  have l10x3d1 := le_up 1 l10x3
  simp only [upN] at l10x3d0 l10x3d1
  have c10x4 := O10.cell 4 rfl
  have f10x4 := O10.free 4 rfl
  have l10x4 := O10.lt 4 rfl
  have l10x4d0 := le_up 0 l10x4
  have l10x4d1 := le_up 1 l10x4
  simp only [upN] at l10x4d0 l10x4d1
  have c10x5 := O10.cell 5 rfl
  have f10x5 := O10.free 5 rfl
  have l10x5 := O10.lt 5 rfl
  have l10x5d0 := le_up 0 l10x5
  have l10x5d1 := le_up 1 l10x5
  simp only [upN] at l10x5d0 l10x5d1
  have c10x6 := O10.cell 6 rfl
  have f10x6 := O10.free 6 rfl
  have l10x6 := O10.lt 6 rfl
  have l10x6d0 := le_up 0 l10x6
  have l10x6d1 := le_up 1 l10x6
  simp only [upN] at l10x6d0 l10x6d1
  have c10x7 := O10.cell 7 rfl
  have f10x7 := O10.free 7 rfl
  have l10x7 := O10.lt 7 rfl
  have l10x7d0 := le_up 0 l10x7
  have l10x7d1 := le_up 1 l10x7
  simp only [upN] at l10x7d0 l10x7d1
  have c10x8 := O10.cell 8 rfl
  have f10x8 := O10.free 8 rfl
  have l10x8 := O10.lt 8 rfl
  have l10x8d0 := le_up 0 l10x8
  have l10x8d1 := le_up 1 l10x8
  simp only [upN] at l10x8d0 l10x8d1
  have c10x9 := O10.cell 9 rfl
  have f10x9 := O10.free 9 rfl
  have l10x9 := O10.lt 9 rfl
  have l10x9d0 := le_up 0 l10x9
  have l10x9d1 := le_up 1 l10x9
  simp only [upN] at l10x9d0 l10x9d1
  have c10x10 := O10.cell 10 rfl
  have f10x10 := O10.free 10 rfl
  have l10x10 := O10.lt 10 rfl
  have l10x10d0 := le_up 0 l10x10
  have l10x10d1 := le_up 1 l10x10
  simp only [upN] at l10x10d0 l10x10d1
  have c10x11 := O10.cell 11 rfl
  have f10x11 := O10.free 11 rfl
  have l10x11 := O10.lt 11 rfl
  have l10x11d0 := le_up 0 l10x11
  have l10x11d1 := le_up 1 l10x11
  simp only [upN] at l10x11d0 l10x11d1
  have HO10 := Lib.hid O10
  clear O10 hb10
  go_wp2_with fail
  refine (told_same _ _ _).mono ?_
  rintro e w11 ⟨rfl, hb11⟩
  have O11 := Own.grow' hb11 HO10.out
  try simp only [List.setIfInBounds_toArray, List.set_cons_zero, List.set_cons_succ] at O11
  have bw11 : Below w.heap.size w w11 := Below.trans (by go_grown) (Below.mono hb11 (by first | omega | (simp; done) | (simp; omega)))
  have zw11 := Below.size hb11
  try simp only [World.size_alloc, World.size_drew, World.size_setCell] at zw11
  clear c10x0 f10x0 l10x0 l10x0d0 l10x0d1 c10x1 f10x1 l10x1 l10x1d0 l10x1d1 c10x2 f10x2 l10x2 l10x2d0 l10x2d1 c10x3 f10x3 l10x3 l10x3d0 l10x3d1 c10x4 f10x4 l10x4 l10x4d0 l10x4d1 c10x5 f10x5 l10x5 l10x5d0 l10x5d1 c10x6 f10x6 l10x6 l10x6d0 l10x6d1 c10x7 f10x7 l10x7 l10x7d0 l10x7d1 c10x8 f10x8 l10x8 l10x8d0 l10x8d1 c10x9 f10x9 l10x9 l10x9d0 l10x9d1 c10x10 f10x10 l10x10 l10x10d0 l10x10d1 c10x11 f10x11 l10x11 l10x11d0 l10x11d1
  have c11x0 := O11.cell 0 rfl
  have f11x0 := O11.free 0 rfl
  have l11x0 := O11.lt 0 rfl
  have l11x0d0 := le_up 0 l11x0
  have l11x0d1 := le_up 1 l11x0
  simp only [upN] at l11x0d0 l11x0d1
  have c11x1 := O11.cell 1 rfl
  have f11x1 := O11.free 1 rfl
  have l11x1 := O11.lt 1 rfl
  have l11x1d0 := le_up 0 l11x1
  have l11x1d1 := le_up 1 l11x1
  simp only [upN] at l11x1d0 l11x1d1
  have c11x2 := O11.cell 2 rfl
  have f11x2 := O11.free 2 rfl
  have l11x2 := O11.lt 2 rfl
  have l11x2d0 := le_up 0 l11x2
  have l11x2d1 := le_up 1 l11x2
  simp only [upN] at l11x2d0 l11x2d1
  have c11x3 := O11.cell 3 rfl
  have f11x3 := O11.free 3 rfl
  have l11x3 := O11.lt 3 rfl
  have l11x3d0 := le_up 0 l11x3
  have l11x3d1 := le_up 1 l11x3
  simp only [upN] at l11x3d0 l11x3d1
  have c11x4 := O11.cell 4 rfl
  have f11x4 := O11.free 4 rfl
  have l11x4 := O11.lt 4 rfl
  have l11x4d0 := le_up 0 l11x4
  have l11x4d1 := le_up 1 l11x4
  simp only [upN] at l11x4d0 l11x4d1
  have c11x5 := O11.cell 5 rfl
  have f11x5 := O11.free 5 rfl
  have l11x5 := O11.lt 5 rfl
  have l11x5d0 := le_up 0 l11x5
  have l11x5d1 := le_up 1 l11x5
  simp only [upN] at l11x5d0 l11x5d1
  have c11x6 := O11.cell 6 rfl
  have f11x6 := O11.free 6 rfl
  have l11x6 := O11.lt 6 rfl
  have l11x6d0 := le_up 0 l11x6
  have l11x6d1 := le_up 1 l11x6
  simp only [upN] at l11x6d0 l11x6d1
  have c11x7 := O11.cell 7 rfl
  have f11x7 := O11.free 7 rfl
  have l11x7 := O11.lt 7 rfl
  have l11x7d0 := le_up 0 l11x7
  have l11x7d1 := le_up 1 l11x7
  simp only [upN] at l11x7d0 l11x7d1
  have c11x8 := O11.cell 8 rfl
  have f11x8 := O11.free 8 rfl
  have l11x8 := O11.lt 8 rfl
  have l11x8d0 := le_up 0 l11x8
  have l11x8d1 := le_up 1 l11x8
  simp only [upN] at l11x8d0 l11x8d1
  have c11x9 := O11.cell 9 rfl
  have f11x9 := O11.free 9 rfl
  have l11x9 := O11.lt 9 rfl
  have l11x9d0 := le_up 0 l11x9
  have l11x9d1 := le_up 1 l11x9
  simp only [upN] at l11x9d0 l11x9d1
  have c11x10 := O11.cell 10 rfl
  have f11x10 := O11.free 10 rfl
  have l11x10 := O11.lt 10 rfl
  have l11x10d0 := le_up 0 l11x10
  have l11x10d1 := le_up 1 l11x10
  simp only [upN] at l11x10d0 l11x10d1
  have c11x11 := O11.cell 11 rfl
  have f11x11 := O11.free 11 rfl
  have l11x11 := O11.lt 11 rfl
  have l11x11d0 := le_up 0 l11x11
  have l11x11d1 := le_up 1 l11x11
  simp only [upN] at l11x11d0 l11x11d1
  have HO11 := Lib.hid O11
  clear O11 hb11
  go_wp2_with fail
  refine (told_same _ _ _).mono ?_
  rintro e w12 ⟨rfl, hb12⟩
  have O12 := Own.grow' hb12 HO11.out
  try simp only [List.setIfInBounds_toArray, List.set_cons_zero, List.set_cons_succ] at O12
  have bw12 : Below w.heap.size w w12 := Below.trans (by go_grown) (Below.mono hb12 (by first | omega | (simp; done) | (simp; omega)))
  have zw12 := Below.size hb12
  try simp only [World.size_alloc, World.size_drew, World.size_setCell] at zw12
  clear c11x0 f11x0 l11x0 l11x0d0 l11x0d1 c11x1 f11x1 l11x1 l11x1d0 l11x1d1 c11x2 f11x2 l11x2 l11x2d0 l11x2d1 c11x3 f11x3 l11x3 l11x3d0 l11x3d1 c11x4 f11x4 l11x4 l11x4d0 l11x4d1 c11x5 f11x5 l11x5 l11x5d0 l11x5d1 c11x6 f11x6 l11x6 l11x6d0 l11x6d1 c11x7 f11x7 l11x7 l11x7d0 l11x7d1 c11x8 f11x8 l11x8 l11x8d0 l11x8d1 c11x9 f11x9 l11x9 l11x9d0 l11x9d1 c11x10 f11x10 l11x10 l11x10d0 l11x10d1 c11x11 f11x11 l11x11 l11x11d0 l11x11d1
  have c12x0 := O12.cell 0 rfl
  have f12x0 := O12.free 0 rfl
  have l12x0 := O12.lt 0 rfl
  have l12x0d0 := le_up 0 l12x0
  have l12x0d1 := le_up 1 l12x0
  simp only [upN] at l12x0d0 l12x0d1
  have c12x1 := O12.cell 1 rfl
  have f12x1 := O12.free 1 rfl
  have l12x1 := O12.lt 1 rfl
  have l12x1d0 := le_up 0 l12x1
  have l12x1d1 := le_up 1 l12x1
  simp only [upN] at l12x1d0 l12x1d1
  have c12x2 := O12.cell 2 rfl
  have f12x2 := O12.free 2 rfl
  have l12x2 := O12.lt 2 rfl
  have l12x2d0 := le_up 0 l12x2
  have l12x2d1 := le_up 1 l12x2
  simp only [upN] at l12x2d0 l12x2d1
  have c12x3 := O12.cell 3 rfl
  have f12x3 := O12.free 3 rfl
  have l12x3 := O12.lt 3 rfl
  have l12x3d0 := le_up 0 l12x3
  have l12x3d1 := le_up 1 l12x3
  simp only [upN] at l12x3d0 l12x3d1
  have c12x4 := O12.cell 4 rfl
  have f12x4 := O12.free 4 rfl
  have l12x4 := O12.lt 4 rfl
  have l12x4d0 := le_up 0 l12x4
  have l12x4d1 := le_up 1 l12x4
  simp only [upN] at l12x4d0 l12x4d1
  have c12x5 := O12.cell 5 rfl
  have f12x5 := O12.free 5 rfl
  have l12x5 := O12.lt 5 rfl
  have l12x5d0 := le_up 0 l12x5
  have l12x5d1 := le_up 1 l12x5
  simp only [upN] at l12x5d0 l12x5d1
  have c12x6 := O12.cell 6 rfl
  have f12x6 := O12.free 6 rfl
  have l12x6 := O12.lt 6 rfl
  have l12x6d0 := le_up 0 l12x6
  have l12x6d1 := le_up 1 l12x6
  simp only [upN] at l12x6d0 l12x6d1
  have c12x7 := O12.cell 7 rfl
  have f12x7 := O12.free 7 rfl
  have l12x7 := O12.lt 7 rfl
  have l12x7d0 := le_up 0 l12x7
  have l12x7d1 := le_up 1 l12x7
  simp only [upN] at l12x7d0 l12x7d1
  have c12x8 := O12.cell 8 rfl
  have f12x8 := O12.free 8 rfl
  have l12x8 := O12.lt 8 rfl
  have l12x8d0 := le_up 0 l12x8
  have l12x8d1 := le_up 1 l12x8
  simp only [upN] at l12x8d0 l12x8d1
  have c12x9 := O12.cell 9 rfl
  have f12x9 := O12.free 9 rfl
  have l12x9 := O12.lt 9 rfl
  have l12x9d0 := le_up 0 l12x9
  have l12x9d1 := le_up 1 l12x9
  simp only [upN] at l12x9d0 l12x9d1
  have c12x10 := O12.cell 10 rfl
  have f12x10 := O12.free 10 rfl
  have l12x10 := O12.lt 10 rfl
  have l12x10d0 := le_up 0 l12x10
  have l12x10d1 := le_up 1 l12x10
  simp only [upN] at l12x10d0 l12x10d1
  have c12x11 := O12.cell 11 rfl
  have f12x11 := O12.free 11 rfl
  have l12x11 := O12.lt 11 rfl
  have l12x11d0 := le_up 0 l12x11
  have l12x11d1 := le_up 1 l12x11
  simp only [upN] at l12x11d0 l12x11d1
  have HO12 := Lib.hid O12
  clear O12 hb12
  go_wp2_with fail
  refine (num_any _ _).mono ?_
  rintro e w' ⟨rfl, rfl⟩
  go_wp2_with fail
  refine (num_any _ _).mono ?_
  rintro e w' ⟨rfl, rfl⟩
  go_wp2_with fail
  refine (works_any _).mono ?_
  rintro e w13 ⟨rfl, hb13⟩
  have O13 := Own.grow' hb13 HO12.out
  try simp only [List.setIfInBounds_toArray, List.set_cons_zero, List.set_cons_succ] at O13
  have bw13 : Below w.heap.size w w13 := Below.trans (by go_grown) (Below.mono hb13 (by first | omega | (simp; done) | (simp; omega)))
  have zw13 := Below.size hb13
  try simp only [World.size_alloc, World.size_drew, World.size_setCell] at zw13
  clear c12x0 f12x0 l12x0 l12x0d0 l12x0d1 c12x1 f12x1 l12x1 l12x1d0 l12x1d1 c12x2 f12x2 l12x2 l12x2d0 l12x2d1 c12x3 f12x3 l12x3 l12x3d0 l12x3d1 c12x4 f12x4 l12x4 l12x4d0 l12x4d1 c12x5 f12x5 l12x5 l12x5d0 l12x5d1 c12x6 f12x6 l12x6 l12x6d0 l12x6d1 c12x7 f12x7 l12x7 l12x7d0 l12x7d1 c12x8 f12x8 l12x8 l12x8d0 l12x8d1 c12x9 f12x9 l12x9 l12x9d0 l12x9d1 c12x10 f12x10 l12x10 l12x10d0 l12x10d1 c12x11 f12x11 l12x11 l12x11d0 l12x11d1
  have c13x0 := O13.cell 0 rfl
  have f13x0 := O13.free 0 rfl
  have l13x0 := O13.lt 0 rfl
  have l13x0d0 := le_up 0 l13x0
  have l13x0d1 := le_up 1 l13x0
  simp only [upN] at l13x0d0 l13x0d1
  have c13x1 := O13.cell 1 rfl
  have f13x1 := O13.free 1 rfl
  have l13x1 := O13.lt 1 rfl
  have l13x1d0 := le_up 0 l13x1
  have l13x1d1 := le_up 1 l13x1
  simp only [upN] at l13x1d0 l13x1d1
  have c13x2 := O13.cell 2 rfl
  have f13x2 := O13.free 2 rfl
  have l13x2 := O13.lt 2 rfl
  have l13x2d0 := le_up 0 l13x2
  have l13x2d1 := le_up 1 l13x2
  simp only [upN] at l13x2d0 l13x2d1
  have c13x3 := O13.cell 3 rfl
  have f13x3 := O13.free 3 rfl
  have l13x3 := O13.lt 3 rfl
  have l13x3d0 := le_up 0 l13x3
  have l13x3d1 := le_up 1 l13x3
  simp only [upN] at l13x3d0 l13x3d1
  have c13x4 := O13.cell 4 rfl
  have f13x4 := O13.free 4 rfl
  have l13x4 := O13.lt 4 rfl
  have l13x4d0 := le_up 0 l13x4
  have l13x4d1 := le_up 1 l13x4
  simp only [upN] at l13x4d0 l13x4d1
  have c13x5 := O13.cell 5 rfl
  have f13x5 := O13.free 5 rfl
  have l13x5 := O13.lt 5 rfl
  have l13x5d0 := le_up 0 l13x5
  have l13x5d1 := le_up 1 l13x5
  simp only [upN] at l13x5d0 l13x5d1
  have c13x6 := O13.cell 6 rfl
  have f13x6 := O13.free 6 rfl
  have l13x6 := O13.lt 6 rfl
  have l13x6d0 := le_up 0 l13x6
  have l13x6d1 := le_up 1 l13x6
  simp only [upN] at l13x6d0 l13x6d1
  have c13x7 := O13.cell 7 rfl
  have f13x7 := O13.free 7 rfl
  have l13x7 := O13.lt 7 rfl
  have l13x7d0 := le_up 0 l13x7
  have l13x7d1 := le_up 1 l13x7
  simp only [upN] at l13x7d0 l13x7d1
  have c13x8 := O13.cell 8 rfl
  have f13x8 := O13.free 8 rfl
  have l13x8 := O13.lt 8 rfl
  have l13x8d0 := le_up 0 l13x8
  have l13x8d1 := le_up 1 l13x8
  simp only [upN] at l13x8d0 l13x8d1
  have c13x9 := O13.cell 9 rfl
  have f13x9 := O13.free 9 rfl
  have l13x9 := O13.lt 9 rfl
  have l13x9d0 := le_up 0 l13x9
  have l13x9d1 := le_up 1 l13x9
  simp only [upN] at l13x9d0 l13x9d1
  have c13x10 := O13.cell 10 rfl
  have f13x10 := O13.free 10 rfl
  have l13x10 := O13.lt 10 rfl
  have l13x10d0 := le_up 0 l13x10
  have l13x10d1 := le_up 1 l13x10
  simp only [upN] at l13x10d0 l13x10d1
  have c13x11 := O13.cell 11 rfl
  have f13x11 := O13.free 11 rfl
  have l13x11 := O13.lt 11 rfl
  have l13x11d0 := le_up 0 l13x11
  have l13x11d1 := le_up 1 l13x11
  simp only [upN] at l13x11d0 l13x11d1
  have HO13 := Lib.hid O13
  clear O13 hb13
  go_wp2_with fail
  go_ret
  exact ⟨rfl, by go_grown⟩

end Go.Proofs.Ytjmplababaejaaa
