/- Walks of package gauge: Split. -/
import Derived.Test.YtjmplababaejaaaGaugeL
import Derived.Test.YtjmplababaejaaaReg
set_option linter.unusedVariables false
set_option linter.unusedSimpArgs false
namespace Go.Proofs.Ytjmplababaejaaa
open Go.RowKit

set_option maxHeartbeats 4000000 in
theorem split_in (g : Kn) (m : Int) (w : World) (hg : g.ok = true) (hlo : 0 ≤ g.lo) (hm : 0 ≤ m) (hm' : m ≤ 1099511627776) :
    Calls Try.prog 7 #[.agg #[.int .u64 g.l, .int .u64 g.lo, .int .u64 g.hi, .int .u64 g.a], .int .u64 m] w
      fun e w' => e = .returned (.tuple #[.agg #[.int .u64 (pt g.l m), .int .u64 (pt g.lo m), .int .u64 (pt g.hi m), .int .u64 (madeA (pt g.lo m) (pt g.hi m) g.a)], .agg #[.int .u64 (g.l - pt g.l m), .int .u64 (g.lo - pt g.lo m), .int .u64 (g.hi - pt g.hi m), .int .u64 (madeA (g.lo - pt g.lo m) (g.hi - pt g.hi m) g.a)], .int .i64 0]) ∧ Below w.heap.size w w' := by
  have gr := (oG_right _ _ _ _).1 hg
  have p0 := pt_bd (n := g.l) (m := m) (by omega) hm
  have p1 := pt_bd (n := g.lo) (m := m) (by omega) hm
  have p2 := pt_bd (n := g.hi) (m := m) (by omega) hm
  have HE := Lib.hid fun (W : World) (hc : W.cell? ⟨w.heap.size + 1, 0, none⟩ = some (.int .u64 m)) => splitEach_any g.l g.lo g.hi m (w.heap.size + 1) W hc ⟨by omega, by omega⟩ ⟨by omega, by omega⟩ ⟨by omega, by omega⟩
  have HF := Lib.hid fun (W : World) => splitRest_any g.l g.lo g.hi (pt g.l m) (pt g.lo m) (pt g.hi m) W ⟨by omega, by omega, by omega⟩ ⟨by omega, by omega, by omega⟩ ⟨by omega, by omega, by omega⟩
  have hR := fun W : World => right_any g.l g.lo g.hi g.a W
  rw [show rightB g.l g.lo g.hi g.a = true from hg] at hR
  have HR := Lib.hid hR
  clear hR
  clear gr p0 p1 p2 hg hm
  go_enter Try.func7, Try.ntmps7
  go_wp2_with fail
  refine (ofGauge_any _ _ _ _ _).mono ?_
  rintro e w1 ⟨rfl, hb1⟩
  have O1 := Own.grow' hb1 (Own.new (Own.new (Own.new (Own.new (Own.nil w) (w.heap.size) rfl) (w.heap.size + 1) (by simp)) (w.heap.size + 1 + 1) (by simp)) (w.heap.size + 1 + 1 + 1) (by simp))
  try simp only [List.setIfInBounds_toArray, List.set_cons_zero, List.set_cons_succ] at O1
  have bw1 : Below w.heap.size w w1 := Below.trans (by go_grown) (Below.mono hb1 (by first | omega | (simp; done) | (simp; omega)))
  have zw1 := Below.size hb1
  try simp only [World.size_alloc, World.size_drew, World.size_setCell] at zw1
  have c1x0 := O1.cell 0 rfl
  have f1x0 := O1.free 0 rfl
  have l1x0 := O1.lt 0 rfl
  have l1x0d0 := le_up 0 l1x0
  have l1x0d1 := le_up 1 l1x0
  simp only [upN] at l1x0d0 l1x0d1
  have c1x1 := O1.cell 1 rfl
  have f1x1 := O1.free 1 rfl
  have l1x1 := O1.lt 1 rfl
  have l1x1d0 := le_up 0 l1x1
  have l1x1d1 := le_up 1 l1x1
  simp only [upN] at l1x1d0 l1x1d1
  have c1x2 := O1.cell 2 rfl
  have f1x2 := O1.free 2 rfl
  have l1x2 := O1.lt 2 rfl
  have l1x2d0 := le_up 0 l1x2
  have l1x2d1 := le_up 1 l1x2
  simp only [upN] at l1x2d0 l1x2d1
  have c1x3 := O1.cell 3 rfl
  have f1x3 := O1.free 3 rfl
  have l1x3 := O1.lt 3 rfl
  have l1x3d0 := le_up 0 l1x3
  have l1x3d1 := le_up 1 l1x3
  simp only [upN] at l1x3d0 l1x3d1
  have HO1 := Lib.hid O1
  clear O1 hb1
  go_wp2_with fail
  refine (HR.out _).mono ?_
  rintro e w2 ⟨rfl, hb2⟩
  have O2 := Own.grow' hb2 (Own.new HO1.out (w1.heap.size) rfl)
  try simp only [List.setIfInBounds_toArray, List.set_cons_zero, List.set_cons_succ] at O2
  have bw2 : Below w.heap.size w w2 := Below.trans (by go_grown) (Below.mono hb2 (by first | omega | (simp; done) | (simp; omega)))
  have zw2 := Below.size hb2
  try simp only [World.size_alloc, World.size_drew, World.size_setCell] at zw2
  clear c1x0 f1x0 l1x0 l1x0d0 l1x0d1 c1x1 f1x1 l1x1 l1x1d0 l1x1d1 c1x2 f1x2 l1x2 l1x2d0 l1x2d1 c1x3 f1x3 l1x3 l1x3d0 l1x3d1
  have c2x0 := O2.cell 0 rfl
  have f2x0 := O2.free 0 rfl
  have l2x0 := O2.lt 0 rfl
  have l2x0d0 := le_up 0 l2x0
  have l2x0d1 := le_up 1 l2x0
  simp only [upN] at l2x0d0 l2x0d1
  have c2x1 := O2.cell 1 rfl
  have f2x1 := O2.free 1 rfl
  have l2x1 := O2.lt 1 rfl
  have l2x1d0 := le_up 0 l2x1
  have l2x1d1 := le_up 1 l2x1
  simp only [upN] at l2x1d0 l2x1d1
  have c2x2 := O2.cell 2 rfl
  have f2x2 := O2.free 2 rfl
  have l2x2 := O2.lt 2 rfl
  have l2x2d0 := le_up 0 l2x2
  have l2x2d1 := le_up 1 l2x2
  simp only [upN] at l2x2d0 l2x2d1
  have c2x3 := O2.cell 3 rfl
  have f2x3 := O2.free 3 rfl
  have l2x3 := O2.lt 3 rfl
  have l2x3d0 := le_up 0 l2x3
  have l2x3d1 := le_up 1 l2x3
  simp only [upN] at l2x3d0 l2x3d1
  have c2x4 := O2.cell 4 rfl
  have f2x4 := O2.free 4 rfl
  have l2x4 := O2.lt 4 rfl
  have l2x4d0 := le_up 0 l2x4
  have l2x4d1 := le_up 1 l2x4
  simp only [upN] at l2x4d0 l2x4d1
  have HO2 := Lib.hid O2
  clear O2 hb2
  go_wp2_with fail
  refine (HE.out _ (by first | assumption | (simp [*]; done) | go_cell)).mono ?_
  rintro e w3 ⟨rfl, hb3⟩
  have O3 := Own.grow' hb3 HO2.out
  try simp only [List.setIfInBounds_toArray, List.set_cons_zero, List.set_cons_succ] at O3
  have bw3 : Below w.heap.size w w3 := Below.trans (by go_grown) (Below.mono hb3 (by first | omega | (simp; done) | (simp; omega)))
  have zw3 := Below.size hb3
  try simp only [World.size_alloc, World.size_drew, World.size_setCell] at zw3
  clear c2x0 f2x0 l2x0 l2x0d0 l2x0d1 c2x1 f2x1 l2x1 l2x1d0 l2x1d1 c2x2 f2x2 l2x2 l2x2d0 l2x2d1 c2x3 f2x3 l2x3 l2x3d0 l2x3d1 c2x4 f2x4 l2x4 l2x4d0 l2x4d1
  have c3x0 := O3.cell 0 rfl
  have f3x0 := O3.free 0 rfl
  have l3x0 := O3.lt 0 rfl
  have l3x0d0 := le_up 0 l3x0
  have l3x0d1 := le_up 1 l3x0
  simp only [upN] at l3x0d0 l3x0d1
  have c3x1 := O3.cell 1 rfl
  have f3x1 := O3.free 1 rfl
  have l3x1 := O3.lt 1 rfl
  have l3x1d0 := le_up 0 l3x1
  have l3x1d1 := le_up 1 l3x1
  simp only [upN] at l3x1d0 l3x1d1
  have c3x2 := O3.cell 2 rfl
  have f3x2 := O3.free 2 rfl
  have l3x2 := O3.lt 2 rfl
  have l3x2d0 := le_up 0 l3x2
  have l3x2d1 := le_up 1 l3x2
  simp only [upN] at l3x2d0 l3x2d1
  have c3x3 := O3.cell 3 rfl
  have f3x3 := O3.free 3 rfl
  have l3x3 := O3.lt 3 rfl
  have l3x3d0 := le_up 0 l3x3
  have l3x3d1 := le_up 1 l3x3
  simp only [upN] at l3x3d0 l3x3d1
  have c3x4 := O3.cell 4 rfl
  have f3x4 := O3.free 4 rfl
  have l3x4 := O3.lt 4 rfl
  have l3x4d0 := le_up 0 l3x4
  have l3x4d1 := le_up 1 l3x4
  simp only [upN] at l3x4d0 l3x4d1
  have HO3 := Lib.hid O3
  clear O3 hb3
  go_wp2_with fail
  refine (HF.out _).mono ?_
  rintro e w4 ⟨rfl, hb4⟩
  have O4 := Own.grow' hb4 (Own.new HO3.out (w3.heap.size) rfl)
  try simp only [List.setIfInBounds_toArray, List.set_cons_zero, List.set_cons_succ] at O4
  have bw4 : Below w.heap.size w w4 := Below.trans (by go_grown) (Below.mono hb4 (by first | omega | (simp; done) | (simp; omega)))
  have zw4 := Below.size hb4
  try simp only [World.size_alloc, World.size_drew, World.size_setCell] at zw4
  clear c3x0 f3x0 l3x0 l3x0d0 l3x0d1 c3x1 f3x1 l3x1 l3x1d0 l3x1d1 c3x2 f3x2 l3x2 l3x2d0 l3x2d1 c3x3 f3x3 l3x3 l3x3d0 l3x3d1 c3x4 f3x4 l3x4 l3x4d0 l3x4d1
  have c4x0 := O4.cell 0 rfl
  have f4x0 := O4.free 0 rfl
  have l4x0 := O4.lt 0 rfl
  have l4x0d0 := le_up 0 l4x0
  have l4x0d1 := le_up 1 l4x0
  simp only [upN] at l4x0d0 l4x0d1
  have c4x1 := O4.cell 1 rfl
  have f4x1 := O4.free 1 rfl
  have l4x1 := O4.lt 1 rfl
  have l4x1d0 := le_up 0 l4x1
  have l4x1d1 := le_up 1 l4x1
  simp only [upN] at l4x1d0 l4x1d1
  have c4x2 := O4.cell 2 rfl
  have f4x2 := O4.free 2 rfl
  have l4x2 := O4.lt 2 rfl
  have l4x2d0 := le_up 0 l4x2
  have l4x2d1 := le_up 1 l4x2
  simp only [upN] at l4x2d0 l4x2d1
  have c4x3 := O4.cell 3 rfl
  have f4x3 := O4.free 3 rfl
  have l4x3 := O4.lt 3 rfl
  have l4x3d0 := le_up 0 l4x3
  have l4x3d1 := le_up 1 l4x3
  simp only [upN] at l4x3d0 l4x3d1
  have c4x4 := O4.cell 4 rfl
  have f4x4 := O4.free 4 rfl
  have l4x4 := O4.lt 4 rfl
  have l4x4d0 := le_up 0 l4x4
  have l4x4d1 := le_up 1 l4x4
  simp only [upN] at l4x4d0 l4x4d1
  have c4x5 := O4.cell 5 rfl
  have f4x5 := O4.free 5 rfl
  have l4x5 := O4.lt 5 rfl
  have l4x5d0 := le_up 0 l4x5
  have l4x5d1 := le_up 1 l4x5
  simp only [upN] at l4x5d0 l4x5d1
  have HO4 := Lib.hid O4
  clear O4 hb4
  go_wp2_with fail
  refine wp_region_grow w.heap.size 10 0 0 [(0, 0, 536870912, 256), (1, 0, 1073741824, 128), (2, 2, 2147483648, 1073741824), (3, 5, 4294967296, 2684354560), (4, 8, 8589934592, 4294967296), (5, 0, 17179869184, 512), (6, 0, 34359738368, 128), (7, 64, 68719476736, 34359738368), (8, 160, 137438953472, 85899345920), (9, 272, 274877906944, 137438953472), (10, 543, 0, 8589934608), (11, 2047, 0, 274877906976), (12, 4095, 64, 0)] [(.p 0, 1), (.p 1, 3), (.p 2, 7), (.p 3, 15), (.p 4, 31), (.p 5, 63), (.p 6, 127), (.p 7, 255), (.p 8, 511), (.p 9, 1023)] [(10, 2047), (11, 4095), (12, 8191)] _ (fun p hp => hp) (by first | omega | (simp; done) | (simp; omega)) (by kernel_rfl) (by kernel_rfl) (Own.new HO4.out (w4.heap.size) rfl) ?_
  refine wpG_pure (i := 0) (v := ?v5x0) rfl rfl (by rfl) (fun w hB hG K hK => ?h5x0) ?_
  case h5x0 =>
    have cx := hG.cell 1 rfl
    go_wp2_with fail
    exact hK _ (Below.refl _ _)
  simp only [List.set_cons_zero, List.set_cons_succ]
  refine wpG_pure (i := 1) (v := ?v5x1) rfl rfl (by rfl) (fun w hB hG K hK => ?h5x1) ?_
  case h5x1 =>
    go_wp2_with fail
    exact hK _ (Below.refl _ _)
  simp only [List.set_cons_zero, List.set_cons_succ]
  refine wpG_pure (i := 2) (v := ?v5x2) rfl rfl (by rfl) (fun w hB hG K hK => ?h5x2) ?_
  case h5x2 =>
    have cx := hG.cell 2 rfl
    go_wp2_with fail
    exact hK _ (Below.refl _ _)
  simp only [List.set_cons_zero, List.set_cons_succ]
  refine wpG_pure (i := 3) (v := ?v5x3) rfl rfl (by rfl) (fun w hB hG K hK => ?h5x3) ?_
  case h5x3 =>
    go_wp2_with fail
    exact hK _ (Below.refl _ _)
  simp only [List.set_cons_zero, List.set_cons_succ]
  refine wpG_pure (i := 4) (v := ?v5x4) rfl rfl (by rfl) (fun w hB hG K hK => ?h5x4) ?_
  case h5x4 =>
    go_wp2_with fail
    refine (gauge_any _ _ _ _ _).mono ?_
    rintro e wx ⟨rfl, hbx⟩
    exact hK _ hbx
  simp only [List.set_cons_zero, List.set_cons_succ]
  refine wpG_pure (i := 5) (v := ?v5x5) rfl rfl (by rfl) (fun w hB hG K hK => ?h5x5) ?_
  case h5x5 =>
    have cx := hG.cell 0 rfl
    go_wp2_with fail
    exact hK _ (Below.refl _ _)
  simp only [List.set_cons_zero, List.set_cons_succ]
  refine wpG_pure (i := 6) (v := ?v5x6) rfl rfl (by rfl) (fun w hB hG K hK => ?h5x6) ?_
  case h5x6 =>
    go_wp2_with fail
    exact hK _ (Below.refl _ _)
  simp only [List.set_cons_zero, List.set_cons_succ]
  refine wpG_pure (i := 7) (v := ?v5x7) rfl rfl (by rfl) (fun w hB hG K hK => ?h5x7) ?_
  case h5x7 =>
    have cx := hG.cell 2 rfl
    go_wp2_with fail
    exact hK _ (Below.refl _ _)
  simp only [List.set_cons_zero, List.set_cons_succ]
  refine wpG_pure (i := 8) (v := ?v5x8) rfl rfl (by rfl) (fun w hB hG K hK => ?h5x8) ?_
  case h5x8 =>
    go_wp2_with fail
    exact hK _ (Below.refl _ _)
  simp only [List.set_cons_zero, List.set_cons_succ]
  refine wpG_pure (i := 9) (v := ?v5x9) rfl rfl (by rfl) (fun w hB hG K hK => ?h5x9) ?_
  case h5x9 =>
    go_wp2_with fail
    refine (gauge_any _ _ _ _ _).mono ?_
    rintro e wx ⟨rfl, hbx⟩
    exact hK _ hbx
  simp only [List.set_cons_zero, List.set_cons_succ]
  refine wpG_nil (fun w5 hb5 hG5 => ?_)
  simp only [List.append_eq, List.cons_append, List.nil_append, List.drop_succ_cons, List.drop_zero, List.drop_nil]
  have O5 := Own.of hG5
  try simp only [List.setIfInBounds_toArray, List.set_cons_zero, List.set_cons_succ] at O5
  have bw5 : Below w.heap.size w w5 := Below.trans (by go_grown) (Below.mono hb5 (by first | omega | (simp; done) | (simp; omega)))
  have zw5 := Below.size hb5
  try simp only [World.size_alloc, World.size_drew, World.size_setCell] at zw5
  clear c4x0 f4x0 l4x0 l4x0d0 l4x0d1 c4x1 f4x1 l4x1 l4x1d0 l4x1d1 c4x2 f4x2 l4x2 l4x2d0 l4x2d1 c4x3 f4x3 l4x3 l4x3d0 l4x3d1 c4x4 f4x4 l4x4 l4x4d0 l4x4d1 c4x5 f4x5 l4x5 l4x5d0 l4x5d1
  have c5x0 := O5.cell 0 rfl
  have f5x0 := O5.free 0 rfl
  have l5x0 := O5.lt 0 rfl
  have l5x0d0 := le_up 0 l5x0
  have l5x0d1 := le_up 1 l5x0
  simp only [upN] at l5x0d0 l5x0d1
  have c5x1 := O5.cell 1 rfl
  have f5x1 := O5.free 1 rfl
  have l5x1 := O5.lt 1 rfl
  have l5x1d0 := le_up 0 l5x1
  have l5x1d1 := le_up 1 l5x1
  simp only [upN] at l5x1d0 l5x1d1
  have c5x2 := O5.cell 2 rfl
  have f5x2 := O5.free 2 rfl
  have l5x2 := O5.lt 2 rfl
  have l5x2d0 := le_up 0 l5x2
  have l5x2d1 := le_up 1 l5x2
  simp only [upN] at l5x2d0 l5x2d1
  have c5x3 := O5.cell 3 rfl
  have f5x3 := O5.free 3 rfl
  have l5x3 := O5.lt 3 rfl
  have l5x3d0 := le_up 0 l5x3
  have l5x3d1 := le_up 1 l5x3
  simp only [upN] at l5x3d0 l5x3d1
  have c5x4 := O5.cell 4 rfl
  have f5x4 := O5.free 4 rfl
  have l5x4 := O5.lt 4 rfl
  have l5x4d0 := le_up 0 l5x4
  have l5x4d1 := le_up 1 l5x4
  simp only [upN] at l5x4d0 l5x4d1
  have c5x5 := O5.cell 5 rfl
  have f5x5 := O5.free 5 rfl
  have l5x5 := O5.lt 5 rfl
  have l5x5d0 := le_up 0 l5x5
  have l5x5d1 := le_up 1 l5x5
  simp only [upN] at l5x5d0 l5x5d1
  have c5x6 := O5.cell 6 rfl
  have f5x6 := O5.free 6 rfl
  have l5x6 := O5.lt 6 rfl
  have l5x6d0 := le_up 0 l5x6
  have l5x6d1 := le_up 1 l5x6
  simp only [upN] at l5x6d0 l5x6d1
  have HO5 := Lib.hid O5
  clear O5 hb5
  go_wp2_with fail
  refine bodyPost_ret (v := .tuple #[.agg #[.int .u64 (pt g.l m), .int .u64 (pt g.lo m), .int .u64 (pt g.hi m), .int .u64 (madeA (pt g.lo m) (pt g.hi m) g.a)], .agg #[.int .u64 (g.l - pt g.l m), .int .u64 (g.lo - pt g.lo m), .int .u64 (g.hi - pt g.hi m), .int .u64 (madeA (g.lo - pt g.lo m) (g.hi - pt g.hi m) g.a)], .int .i64 0]) (by simp [results, Try.results7, go_sem, *]) rfl ?_
  exact ⟨rfl, by go_grown⟩

set_option maxHeartbeats 4000000 in
theorem split_bad (g : Kn) (m : Int) (w : World) (hg : g.ok = false) :
    Calls Try.prog 7 #[.agg #[.int .u64 g.l, .int .u64 g.lo, .int .u64 g.hi, .int .u64 g.a], .int .u64 m] w
      fun e w' => e = .returned (.tuple #[.agg #[.int .u64 0, .int .u64 0, .int .u64 0, .int .u64 0], .agg #[.int .u64 0, .int .u64 0, .int .u64 0, .int .u64 0], .int .i64 2]) ∧ Below w.heap.size w w' := by
  have hR := fun W : World => right_any g.l g.lo g.hi g.a W
  rw [show rightB g.l g.lo g.hi g.a = false from hg] at hR
  have HR := Lib.hid hR
  clear hR
  clear hg
  go_enter Try.func7, Try.ntmps7
  go_wp2_with fail
  refine (ofGauge_any _ _ _ _ _).mono ?_
  rintro e w1 ⟨rfl, hb1⟩
  have O1 := Own.grow' hb1 (Own.new (Own.new (Own.new (Own.new (Own.nil w) (w.heap.size) rfl) (w.heap.size + 1) (by simp)) (w.heap.size + 1 + 1) (by simp)) (w.heap.size + 1 + 1 + 1) (by simp))
  try simp only [List.setIfInBounds_toArray, List.set_cons_zero, List.set_cons_succ] at O1
  have bw1 : Below w.heap.size w w1 := Below.trans (by go_grown) (Below.mono hb1 (by first | omega | (simp; done) | (simp; omega)))
  have zw1 := Below.size hb1
  try simp only [World.size_alloc, World.size_drew, World.size_setCell] at zw1
  have c1x0 := O1.cell 0 rfl
  have f1x0 := O1.free 0 rfl
  have l1x0 := O1.lt 0 rfl
  have l1x0d0 := le_up 0 l1x0
  have l1x0d1 := le_up 1 l1x0
  simp only [upN] at l1x0d0 l1x0d1
  have c1x1 := O1.cell 1 rfl
  have f1x1 := O1.free 1 rfl
  have l1x1 := O1.lt 1 rfl
  have l1x1d0 := le_up 0 l1x1
  have l1x1d1 := le_up 1 l1x1
  simp only [upN] at l1x1d0 l1x1d1
  have c1x2 := O1.cell 2 rfl
  have f1x2 := O1.free 2 rfl
  have l1x2 := O1.lt 2 rfl
  have l1x2d0 := le_up 0 l1x2
  have l1x2d1 := le_up 1 l1x2
  simp only [upN] at l1x2d0 l1x2d1
  have c1x3 := O1.cell 3 rfl
  have f1x3 := O1.free 3 rfl
  have l1x3 := O1.lt 3 rfl
  have l1x3d0 := le_up 0 l1x3
  have l1x3d1 := le_up 1 l1x3
  simp only [upN] at l1x3d0 l1x3d1
  have HO1 := Lib.hid O1
  clear O1 hb1
  go_wp2_with fail
  refine (HR.out _).mono ?_
  rintro e w2 ⟨rfl, hb2⟩
  have O2 := Own.grow' hb2 (Own.new HO1.out (w1.heap.size) rfl)
  try simp only [List.setIfInBounds_toArray, List.set_cons_zero, List.set_cons_succ] at O2
  have bw2 : Below w.heap.size w w2 := Below.trans (by go_grown) (Below.mono hb2 (by first | omega | (simp; done) | (simp; omega)))
  have zw2 := Below.size hb2
  try simp only [World.size_alloc, World.size_drew, World.size_setCell] at zw2
  clear c1x0 f1x0 l1x0 l1x0d0 l1x0d1 c1x1 f1x1 l1x1 l1x1d0 l1x1d1 c1x2 f1x2 l1x2 l1x2d0 l1x2d1 c1x3 f1x3 l1x3 l1x3d0 l1x3d1
  have c2x0 := O2.cell 0 rfl
  have f2x0 := O2.free 0 rfl
  have l2x0 := O2.lt 0 rfl
  have l2x0d0 := le_up 0 l2x0
  have l2x0d1 := le_up 1 l2x0
  simp only [upN] at l2x0d0 l2x0d1
  have c2x1 := O2.cell 1 rfl
  have f2x1 := O2.free 1 rfl
  have l2x1 := O2.lt 1 rfl
  have l2x1d0 := le_up 0 l2x1
  have l2x1d1 := le_up 1 l2x1
  simp only [upN] at l2x1d0 l2x1d1
  have c2x2 := O2.cell 2 rfl
  have f2x2 := O2.free 2 rfl
  have l2x2 := O2.lt 2 rfl
  have l2x2d0 := le_up 0 l2x2
  have l2x2d1 := le_up 1 l2x2
  simp only [upN] at l2x2d0 l2x2d1
  have c2x3 := O2.cell 3 rfl
  have f2x3 := O2.free 3 rfl
  have l2x3 := O2.lt 3 rfl
  have l2x3d0 := le_up 0 l2x3
  have l2x3d1 := le_up 1 l2x3
  simp only [upN] at l2x3d0 l2x3d1
  have c2x4 := O2.cell 4 rfl
  have f2x4 := O2.free 4 rfl
  have l2x4 := O2.lt 4 rfl
  have l2x4d0 := le_up 0 l2x4
  have l2x4d1 := le_up 1 l2x4
  simp only [upN] at l2x4d0 l2x4d1
  have HO2 := Lib.hid O2
  clear O2 hb2
  go_wp2_with fail
  go_region
  all_goals (go_wp2_with fail)
  all_goals (refine bodyPost_ret (v := .tuple #[.agg #[.int .u64 0, .int .u64 0, .int .u64 0, .int .u64 0], .agg #[.int .u64 0, .int .u64 0, .int .u64 0, .int .u64 0], .int .i64 2]) (by simp [results, Try.results7, go_sem, *]) rfl ?_)
  all_goals (exact ⟨rfl, by go_grown⟩)

set_option maxHeartbeats 4000000 in
theorem split_over (g : Kn) (m : Int) (w : World) (hg : g.ok = true) (hs : 1099511627776 < m) :
    Calls Try.prog 7 #[.agg #[.int .u64 g.l, .int .u64 g.lo, .int .u64 g.hi, .int .u64 g.a], .int .u64 m] w
      fun e w' => e = .returned (.tuple #[.agg #[.int .u64 0, .int .u64 0, .int .u64 0, .int .u64 0], .agg #[.int .u64 0, .int .u64 0, .int .u64 0, .int .u64 0], .int .i64 2]) ∧ Below w.heap.size w w' := by
  have hR := fun W : World => right_any g.l g.lo g.hi g.a W
  rw [show rightB g.l g.lo g.hi g.a = true from hg] at hR
  have HR := Lib.hid hR
  clear hR
  clear hg
  go_enter Try.func7, Try.ntmps7
  go_wp2_with fail
  refine (ofGauge_any _ _ _ _ _).mono ?_
  rintro e w1 ⟨rfl, hb1⟩
  have O1 := Own.grow' hb1 (Own.new (Own.new (Own.new (Own.new (Own.nil w) (w.heap.size) rfl) (w.heap.size + 1) (by simp)) (w.heap.size + 1 + 1) (by simp)) (w.heap.size + 1 + 1 + 1) (by simp))
  try simp only [List.setIfInBounds_toArray, List.set_cons_zero, List.set_cons_succ] at O1
  have bw1 : Below w.heap.size w w1 := Below.trans (by go_grown) (Below.mono hb1 (by first | omega | (simp; done) | (simp; omega)))
  have zw1 := Below.size hb1
  try simp only [World.size_alloc, World.size_drew, World.size_setCell] at zw1
  have c1x0 := O1.cell 0 rfl
  have f1x0 := O1.free 0 rfl
  have l1x0 := O1.lt 0 rfl
  have l1x0d0 := le_up 0 l1x0
  have l1x0d1 := le_up 1 l1x0
  simp only [upN] at l1x0d0 l1x0d1
  have c1x1 := O1.cell 1 rfl
  have f1x1 := O1.free 1 rfl
  have l1x1 := O1.lt 1 rfl
  have l1x1d0 := le_up 0 l1x1
  have l1x1d1 := le_up 1 l1x1
  simp only [upN] at l1x1d0 l1x1d1
  have c1x2 := O1.cell 2 rfl
  have f1x2 := O1.free 2 rfl
  have l1x2 := O1.lt 2 rfl
  have l1x2d0 := le_up 0 l1x2
  have l1x2d1 := le_up 1 l1x2
  simp only [upN] at l1x2d0 l1x2d1
  have c1x3 := O1.cell 3 rfl
  have f1x3 := O1.free 3 rfl
  have l1x3 := O1.lt 3 rfl
  have l1x3d0 := le_up 0 l1x3
  have l1x3d1 := le_up 1 l1x3
  simp only [upN] at l1x3d0 l1x3d1
  have HO1 := Lib.hid O1
  clear O1 hb1
  go_wp2_with fail
  refine (HR.out _).mono ?_
  rintro e w2 ⟨rfl, hb2⟩
  have O2 := Own.grow' hb2 (Own.new HO1.out (w1.heap.size) rfl)
  try simp only [List.setIfInBounds_toArray, List.set_cons_zero, List.set_cons_succ] at O2
  have bw2 : Below w.heap.size w w2 := Below.trans (by go_grown) (Below.mono hb2 (by first | omega | (simp; done) | (simp; omega)))
  have zw2 := Below.size hb2
  try simp only [World.size_alloc, World.size_drew, World.size_setCell] at zw2
  clear c1x0 f1x0 l1x0 l1x0d0 l1x0d1 c1x1 f1x1 l1x1 l1x1d0 l1x1d1 c1x2 f1x2 l1x2 l1x2d0 l1x2d1 c1x3 f1x3 l1x3 l1x3d0 l1x3d1
  have c2x0 := O2.cell 0 rfl
  have f2x0 := O2.free 0 rfl
  have l2x0 := O2.lt 0 rfl
  have l2x0d0 := le_up 0 l2x0
  have l2x0d1 := le_up 1 l2x0
  simp only [upN] at l2x0d0 l2x0d1
  have c2x1 := O2.cell 1 rfl
  have f2x1 := O2.free 1 rfl
  have l2x1 := O2.lt 1 rfl
  have l2x1d0 := le_up 0 l2x1
  have l2x1d1 := le_up 1 l2x1
  simp only [upN] at l2x1d0 l2x1d1
  have c2x2 := O2.cell 2 rfl
  have f2x2 := O2.free 2 rfl
  have l2x2 := O2.lt 2 rfl
  have l2x2d0 := le_up 0 l2x2
  have l2x2d1 := le_up 1 l2x2
  simp only [upN] at l2x2d0 l2x2d1
  have c2x3 := O2.cell 3 rfl
  have f2x3 := O2.free 3 rfl
  have l2x3 := O2.lt 3 rfl
  have l2x3d0 := le_up 0 l2x3
  have l2x3d1 := le_up 1 l2x3
  simp only [upN] at l2x3d0 l2x3d1
  have c2x4 := O2.cell 4 rfl
  have f2x4 := O2.free 4 rfl
  have l2x4 := O2.lt 4 rfl
  have l2x4d0 := le_up 0 l2x4
  have l2x4d1 := le_up 1 l2x4
  simp only [upN] at l2x4d0 l2x4d1
  have HO2 := Lib.hid O2
  clear O2 hb2
  go_wp2_with fail
  go_region
  all_goals (go_wp2_with fail)
  all_goals (refine bodyPost_ret (v := .tuple #[.agg #[.int .u64 0, .int .u64 0, .int .u64 0, .int .u64 0], .agg #[.int .u64 0, .int .u64 0, .int .u64 0, .int .u64 0], .int .i64 2]) (by simp [results, Try.results7, go_sem, *]) rfl ?_)
  all_goals (exact ⟨rfl, by go_grown⟩)

end Go.Proofs.Ytjmplababaejaaa
