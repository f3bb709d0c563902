/- Walks of the reference's Split and Back. -/
import Derived.Test.YtjmplababaejaaaGaugeL
import Derived.Test.YtjmplababaejaaaGaugeH
import Derived.Test.YtjmplababaejaaaReg
set_option linter.unusedVariables false
set_option linter.unusedSimpArgs false
namespace Go.Proofs.Ytjmplababaejaaa
open Go.RowKit

theorem part_pt (n by_ : Int) (w : World) (hn : 0 ≤ n ∧ n ≤ 1099511627776) :
    Calls Try.prog 39 #[.int .u64 n, .int .u64 by_] w fun e w' => e = .returned (.int .u64 (pt n by_)) ∧ w = w' := part_any n by_ w hn

set_option maxHeartbeats 4000000 in
set_option maxRecDepth 20000 in
theorem refSplit_in (g : Kn) (m : Int) (w : World) (hg : g.ok = true) (hlo : 0 ≤ g.lo) (hm : 0 ≤ m) (hm' : m ≤ 1099511627776) :
    Calls Try.prog 8 #[.agg #[.int .u64 g.l, .int .u64 g.lo, .int .u64 g.hi, .int .u64 g.a], .int .u64 m] w
      fun e w' => e = .returned (.tuple #[.agg #[.int .u64 (pt g.l m), .int .u64 (pt g.lo m), .int .u64 (pt g.hi m), .int .u64 (madeA (pt g.lo m) (pt g.hi m) g.a)], .agg #[.int .u64 (g.l - pt g.l m), .int .u64 (g.lo - pt g.lo m), .int .u64 (g.hi - pt g.hi m), .int .u64 (madeA (g.lo - pt g.lo m) (g.hi - pt g.hi m) g.a)], .int .i64 0]) ∧ Below w.heap.size w w' := by
  have gr := (oG_right _ _ _ _).1 hg
  have p0 := pt_bd (n := g.l) (m := m) (by omega) hm
  have p1 := pt_bd (n := g.lo) (m := m) (by omega) hm
  have p2 := pt_bd (n := g.hi) (m := m) (by omega) hm
  have hR := fun W : World => refRight_any g.l g.lo g.hi g.a W
  rw [show rightB g.l g.lo g.hi g.a = true from hg] at hR
  have HR := Lib.hid hR
  clear hR
  obtain ⟨g0, g1, g2, g3⟩ := gr
  obtain ⟨p00, p01⟩ := p0
  obtain ⟨p10, p11⟩ := p1
  obtain ⟨p20, p21⟩ := p2
  clear hg g3 hm
  have hd : decide (1099511627776 < m) = false := decide_eq_false (by omega)
  go_enter Try.func8, Try.ntmps8
  go_wp2_with fail
  refine (HR.out _).mono ?_
  rintro e w1 ⟨rfl, hb1⟩
  have O1 := Own.grow' hb1 (Own.new (Own.new (Own.new (Own.nil w) (w.heap.size) rfl) (w.heap.size + 1) (by simp)) (w.heap.size + 1 + 1) (by simp))
  try simp only [List.setIfInBounds_toArray, List.set_cons_zero, List.set_cons_succ] at O1
  have bw1 : Below w.heap.size w w1 := Below.trans (by go_grown) (Below.mono hb1 (by first | omega | (simp; done) | (simp; omega)))
  have zw1 := Below.size hb1
  try simp only [World.size_alloc, World.size_drew, World.size_setCell] at zw1
  have c1x0 := O1.cell 0 rfl
  have f1x0 := O1.free 0 rfl
  have l1x0 := O1.lt 0 rfl
  have l1x0d0 := le_up 0 l1x0
  have l1x0d1 := le_up 1 l1x0
  simp only [upN] at l1x0d0 l1x0d1
  have c1x1 := O1.cell 1 rfl
  have f1x1 := O1.free 1 rfl
  have l1x1 := O1.lt 1 rfl
  have l1x1d0 := le_up 0 l1x1
  have l1x1d1 := le_up 1 l1x1
  simp only [upN] at l1x1d0 l1x1d1
  have c1x2 := O1.cell 2 rfl
  have f1x2 := O1.free 2 rfl
  have l1x2 := O1.lt 2 rfl
  have l1x2d0 := le_up 0 l1x2
  have l1x2d1 := le_up 1 l1x2
  simp only [upN] at l1x2d0 l1x2d1
  have HO1 := Lib.hid O1
  clear O1 hb1
  go_wp2_with fail
  refine wp_region_grow w.heap.size 12 0 0 [(0, 0, 524288, 4), (1, 1, 1048576, 524288), (2, 0, 2097152, 2), (3, 6, 4194304, 3145728), (4, 0, 8388608, 4), (5, 16, 16777216, 8388608), (6, 0, 33554432, 2), (7, 104, 67108864, 50331648), (8, 0, 134217728, 4), (9, 256, 268435456, 134217728), (10, 0, 536870912, 2), (11, 1664, 1073741824, 805306368), (12, 2063, 128, 4194304), (13, 4351, 256, 67108864), (14, 16383, 512, 1073741824)] [(.p 0, 1), (.p 1, 3), (.p 2, 7), (.p 3, 15), (.p 4, 31), (.p 5, 63), (.p 6, 127), (.p 7, 255), (.p 8, 511), (.p 9, 1023), (.p 10, 2047), (.p 11, 4095)] [(12, 8191), (13, 16383), (14, 32767)] _ (fun p hp => hp) (by first | omega | (simp; done) | (simp; omega)) (by kernel_rfl) (by kernel_rfl) HO1.out ?_
  refine wpG_pure (i := 0) (v := ?v2x0) rfl rfl (by rfl) (fun w hB hG K hK => ?h2x0) ?_
  case h2x0 =>
    go_wp2_with fail
    exact hK _ (Below.refl _ _)
  simp only [List.set_cons_zero, List.set_cons_succ]
  refine wpG_pure (i := 1) (v := ?v2x1) rfl rfl (by rfl) (fun w hB hG K hK => ?h2x1) ?_
  case h2x1 =>
    have cx := hG.cell 2 rfl
    go_wp2_with fail
    exact hK _ (Below.refl _ _)
  simp only [List.set_cons_zero, List.set_cons_succ]
  refine wpG_move (i := 2) rfl rfl rfl (by rfl) rfl ?_
  simp only [List.set_cons_zero, List.set_cons_succ]
  refine wpG_pure (i := 3) (v := ?v2x3) rfl rfl (by rfl) (fun w hB hG K hK => ?h2x3) ?_
  case h2x3 =>
    go_wp2_with fail
    refine (part_pt _ _ _ ⟨by omega, by omega⟩).mono ?_
    rintro e wx ⟨rfl, rfl⟩
    exact hK _ (Below.refl _ _)
  simp only [List.set_cons_zero, List.set_cons_succ]
  refine wpG_pure (i := 4) (v := ?v2x4) rfl rfl (by rfl) (fun w hB hG K hK => ?h2x4) ?_
  case h2x4 =>
    go_wp2_with fail
    exact hK _ (Below.refl _ _)
  simp only [List.set_cons_zero, List.set_cons_succ]
  refine wpG_pure (i := 5) (v := ?v2x5) rfl rfl (by rfl) (fun w hB hG K hK => ?h2x5) ?_
  case h2x5 =>
    have cx := hG.cell 2 rfl
    go_wp2_with fail
    exact hK _ (Below.refl _ _)
  simp only [List.set_cons_zero, List.set_cons_succ]
  refine wpG_move (i := 6) rfl rfl rfl (by rfl) rfl ?_
  simp only [List.set_cons_zero, List.set_cons_succ]
  refine wpG_pure (i := 7) (v := ?v2x7) rfl rfl (by rfl) (fun w hB hG K hK => ?h2x7) ?_
  case h2x7 =>
    go_wp2_with fail
    refine (part_pt _ _ _ ⟨by omega, by omega⟩).mono ?_
    rintro e wx ⟨rfl, rfl⟩
    exact hK _ (Below.refl _ _)
  simp only [List.set_cons_zero, List.set_cons_succ]
  refine wpG_pure (i := 8) (v := ?v2x8) rfl rfl (by rfl) (fun w hB hG K hK => ?h2x8) ?_
  case h2x8 =>
    go_wp2_with fail
    exact hK _ (Below.refl _ _)
  simp only [List.set_cons_zero, List.set_cons_succ]
  refine wpG_pure (i := 9) (v := ?v2x9) rfl rfl (by rfl) (fun w hB hG K hK => ?h2x9) ?_
  case h2x9 =>
    have cx := hG.cell 2 rfl
    go_wp2_with fail
    exact hK _ (Below.refl _ _)
  simp only [List.set_cons_zero, List.set_cons_succ]
  refine wpG_move (i := 10) rfl rfl rfl (by rfl) rfl ?_
  simp only [List.set_cons_zero, List.set_cons_succ]
  refine wpG_pure (i := 11) (v := ?v2x11) rfl rfl (by rfl) (fun w hB hG K hK => ?h2x11) ?_
  case h2x11 =>
    go_wp2_with fail
    refine (part_pt _ _ _ ⟨by omega, by omega⟩).mono ?_
    rintro e wx ⟨rfl, rfl⟩
    exact hK _ (Below.refl _ _)
  simp only [List.set_cons_zero, List.set_cons_succ]
  refine wpG_nil (fun w2 hb2 hG2 => ?_)
  simp only [List.append_eq, List.cons_append, List.nil_append, List.drop_succ_cons, List.drop_zero, List.drop_nil]
  have O2 := Own.of hG2
  try simp only [List.setIfInBounds_toArray, List.set_cons_zero, List.set_cons_succ] at O2
  have bw2 : Below w.heap.size w w2 := Below.trans (by go_grown) (Below.mono hb2 (by first | omega | (simp; done) | (simp; omega)))
  have zw2 := Below.size hb2
  try simp only [World.size_alloc, World.size_drew, World.size_setCell] at zw2
  clear c1x0 f1x0 l1x0 l1x0d0 l1x0d1 c1x1 f1x1 l1x1 l1x1d0 l1x1d1 c1x2 f1x2 l1x2 l1x2d0 l1x2d1
  have c2x0 := O2.cell 0 rfl
  have f2x0 := O2.free 0 rfl
  have l2x0 := O2.lt 0 rfl
  have l2x0d0 := le_up 0 l2x0
  have l2x0d1 := le_up 1 l2x0
  simp only [upN] at l2x0d0 l2x0d1
  have c2x1 := O2.cell 1 rfl
  have f2x1 := O2.free 1 rfl
  have l2x1 := O2.lt 1 rfl
  have l2x1d0 := le_up 0 l2x1
  have l2x1d1 := le_up 1 l2x1
  simp only [upN] at l2x1d0 l2x1d1
  have c2x2 := O2.cell 2 rfl
  have f2x2 := O2.free 2 rfl
  have l2x2 := O2.lt 2 rfl
  have l2x2d0 := le_up 0 l2x2
  have l2x2d1 := le_up 1 l2x2
  simp only [upN] at l2x2d0 l2x2d1
  have HO2 := Lib.hid O2
  clear O2 hb2
  go_wp2_with fail
  refine wp_region_grow w.heap.size 21 0 0 [(0, 0, 2147483648, 128), (1, 0, 4294967296, 256), (2, 0, 8589934592, 512), (3, 0, 17179869184, 4), (4, 8, 34359738368, 17179869184), (5, 23, 68719476736, 49392123904), (6, 0, 137438953472, 4), (7, 64, 274877906944, 137438953472), (8, 0, 549755813888, 128), (9, 384, 1099511627776, 824633720832), (10, 0, 2199023255552, 4), (11, 1024, 4398046511104, 2199023255552), (12, 0, 8796093022208, 256), (13, 6144, 17592186044416, 13194139533312), (14, 0, 35184372088832, 4), (15, 16384, 70368744177664, 35184372088832), (16, 0, 140737488355328, 512), (17, 98304, 281474976710656, 211106232532992), (18, 0, 562949953421312, 4), (19, 262144, 1125899906842624, 562949953421312), (20, 664096, 2251799813685248, 1426066581225472), (21, 1048639, 0, 68719476752), (22, 4194303, 0, 2251799813685280), (23, 8388607, 64, 0)] [(.p 0, 1), (.p 1, 3), (.p 2, 7), (.p 3, 15), (.p 4, 31), (.p 5, 63), (.p 6, 127), (.p 7, 255), (.p 8, 511), (.p 9, 1023), (.p 10, 2047), (.p 11, 4095), (.p 12, 8191), (.p 13, 16383), (.p 14, 32767), (.p 15, 65535), (.p 16, 131071), (.p 17, 262143), (.p 18, 524287), (.p 19, 1048575), (.p 20, 2097151)] [(21, 4194303), (22, 8388607), (23, 16777215)] _ (fun p hp => hp) (by first | omega | (simp; done) | (simp; omega)) (by kernel_rfl) (by kernel_rfl) HO2.out ?_
  refine wpG_move (i := 0) rfl rfl rfl (by rfl) rfl ?_
  simp only [List.set_cons_zero, List.set_cons_succ]
  refine wpG_move (i := 1) rfl rfl rfl (by rfl) rfl ?_
  simp only [List.set_cons_zero, List.set_cons_succ]
  refine wpG_move (i := 2) rfl rfl rfl (by rfl) rfl ?_
  simp only [List.set_cons_zero, List.set_cons_succ]
  refine wpG_pure (i := 3) (v := ?v3x3) rfl rfl (by rfl) (fun w hB hG K hK => ?h3x3) ?_
  case h3x3 =>
    go_wp2_with fail
    exact hK _ (Below.refl _ _)
  simp only [List.set_cons_zero, List.set_cons_succ]
  refine wpG_pure (i := 4) (v := ?v3x4) rfl rfl (by rfl) (fun w hB hG K hK => ?h3x4) ?_
  case h3x4 =>
    have cx := hG.cell 2 rfl
    go_wp2_with fail
    exact hK _ (Below.refl _ _)
  simp only [List.set_cons_zero, List.set_cons_succ]
  refine wpG_pure (i := 5) (v := ?v3x5) rfl rfl (by rfl) (fun w hB hG K hK => ?h3x5) ?_
  case h3x5 =>
    go_wp2_with fail
    refine (refMade_any _ _ _ _ _).mono ?_
    rintro e wx ⟨rfl, hbx⟩
    exact hK _ hbx
  simp only [List.set_cons_zero, List.set_cons_succ]
  refine wpG_pure (i := 6) (v := ?v3x6) rfl rfl (by rfl) (fun w hB hG K hK => ?h3x6) ?_
  case h3x6 =>
    go_wp2_with fail
    exact hK _ (Below.refl _ _)
  simp only [List.set_cons_zero, List.set_cons_succ]
  refine wpG_pure (i := 7) (v := ?v3x7) rfl rfl (by rfl) (fun w hB hG K hK => ?h3x7) ?_
  case h3x7 =>
    have cx := hG.cell 2 rfl
    go_wp2_with fail
    exact hK _ (Below.refl _ _)
  simp only [List.set_cons_zero, List.set_cons_succ]
  refine wpG_move (i := 8) rfl rfl rfl (by rfl) rfl ?_
  simp only [List.set_cons_zero, List.set_cons_succ]
  refine wpG_pure (i := 9) (v := ?v3x9) rfl rfl (by rfl) (fun w hB hG K hK => ?h3x9) ?_
  case h3x9 =>
    go_wp2_with fail
    exact hK _ (Below.refl _ _)
  simp only [List.set_cons_zero, List.set_cons_succ]
  refine wpG_pure (i := 10) (v := ?v3x10) rfl rfl (by rfl) (fun w hB hG K hK => ?h3x10) ?_
  case h3x10 =>
    go_wp2_with fail
    exact hK _ (Below.refl _ _)
  simp only [List.set_cons_zero, List.set_cons_succ]
  refine wpG_pure (i := 11) (v := ?v3x11) rfl rfl (by rfl) (fun w hB hG K hK => ?h3x11) ?_
  case h3x11 =>
    have cx := hG.cell 2 rfl
    go_wp2_with fail
    exact hK _ (Below.refl _ _)
  simp only [List.set_cons_zero, List.set_cons_succ]
  refine wpG_move (i := 12) rfl rfl rfl (by rfl) rfl ?_
  simp only [List.set_cons_zero, List.set_cons_succ]
  refine wpG_pure (i := 13) (v := ?v3x13) rfl rfl (by rfl) (fun w hB hG K hK => ?h3x13) ?_
  case h3x13 =>
    go_wp2_with fail
    exact hK _ (Below.refl _ _)
  simp only [List.set_cons_zero, List.set_cons_succ]
  refine wpG_pure (i := 14) (v := ?v3x14) rfl rfl (by rfl) (fun w hB hG K hK => ?h3x14) ?_
  case h3x14 =>
    go_wp2_with fail
    exact hK _ (Below.refl _ _)
  simp only [List.set_cons_zero, List.set_cons_succ]
  refine wpG_pure (i := 15) (v := ?v3x15) rfl rfl (by rfl) (fun w hB hG K hK => ?h3x15) ?_
  case h3x15 =>
    have cx := hG.cell 2 rfl
    go_wp2_with fail
    exact hK _ (Below.refl _ _)
  simp only [List.set_cons_zero, List.set_cons_succ]
  refine wpG_move (i := 16) rfl rfl rfl (by rfl) rfl ?_
  simp only [List.set_cons_zero, List.set_cons_succ]
  refine wpG_pure (i := 17) (v := ?v3x17) rfl rfl (by rfl) (fun w hB hG K hK => ?h3x17) ?_
  case h3x17 =>
    go_wp2_with fail
    exact hK _ (Below.refl _ _)
  simp only [List.set_cons_zero, List.set_cons_succ]
  refine wpG_pure (i := 18) (v := ?v3x18) rfl rfl (by rfl) (fun w hB hG K hK => ?h3x18) ?_
  case h3x18 =>
    go_wp2_with fail
    exact hK _ (Below.refl _ _)
  simp only [List.set_cons_zero, List.set_cons_succ]
  refine wpG_pure (i := 19) (v := ?v3x19) rfl rfl (by rfl) (fun w hB hG K hK => ?h3x19) ?_
  case h3x19 =>
    have cx := hG.cell 2 rfl
    go_wp2_with fail
    exact hK _ (Below.refl _ _)
  simp only [List.set_cons_zero, List.set_cons_succ]
  refine wpG_pure (i := 20) (v := ?v3x20) rfl rfl (by rfl) (fun w hB hG K hK => ?h3x20) ?_
  case h3x20 =>
    go_wp2_with fail
    refine (refMade_any _ _ _ _ _).mono ?_
    rintro e wx ⟨rfl, hbx⟩
    exact hK _ hbx
  simp only [List.set_cons_zero, List.set_cons_succ]
  refine wpG_nil (fun w3 hb3 hG3 => ?_)
  simp only [List.append_eq, List.cons_append, List.nil_append, List.drop_succ_cons, List.drop_zero, List.drop_nil]
  have O3 := Own.of hG3
  try simp only [List.setIfInBounds_toArray, List.set_cons_zero, List.set_cons_succ] at O3
  have bw3 : Below w.heap.size w w3 := Below.trans (by go_grown) (Below.mono hb3 (by first | omega | (simp; done) | (simp; omega)))
  have zw3 := Below.size hb3
  try simp only [World.size_alloc, World.size_drew, World.size_setCell] at zw3
  clear c2x0 f2x0 l2x0 l2x0d0 l2x0d1 c2x1 f2x1 l2x1 l2x1d0 l2x1d1 c2x2 f2x2 l2x2 l2x2d0 l2x2d1
  have c3x0 := O3.cell 0 rfl
  have f3x0 := O3.free 0 rfl
  have l3x0 := O3.lt 0 rfl
  have l3x0d0 := le_up 0 l3x0
  have l3x0d1 := le_up 1 l3x0
  simp only [upN] at l3x0d0 l3x0d1
  have c3x1 := O3.cell 1 rfl
  have f3x1 := O3.free 1 rfl
  have l3x1 := O3.lt 1 rfl
  have l3x1d0 := le_up 0 l3x1
  have l3x1d1 := le_up 1 l3x1
  simp only [upN] at l3x1d0 l3x1d1
  have c3x2 := O3.cell 2 rfl
  have f3x2 := O3.free 2 rfl
  have l3x2 := O3.lt 2 rfl
  have l3x2d0 := le_up 0 l3x2
  have l3x2d1 := le_up 1 l3x2
  simp only [upN] at l3x2d0 l3x2d1
  have HO3 := Lib.hid O3
  clear O3 hb3
  go_wp2_with fail
  refine bodyPost_ret (v := .tuple #[.agg #[.int .u64 (pt g.l m), .int .u64 (pt g.lo m), .int .u64 (pt g.hi m), .int .u64 (madeA (pt g.lo m) (pt g.hi m) g.a)], .agg #[.int .u64 (g.l - pt g.l m), .int .u64 (g.lo - pt g.lo m), .int .u64 (g.hi - pt g.hi m), .int .u64 (madeA (g.lo - pt g.lo m) (g.hi - pt g.hi m) g.a)], .int .i64 0]) (by simp [results, Try.results8, go_sem, *]) rfl ?_
  exact ⟨rfl, by go_grown⟩

set_option maxHeartbeats 4000000 in
set_option maxRecDepth 20000 in
theorem refSplit_bad (g : Kn) (m : Int) (w : World) (hg : g.ok = false) :
    Calls Try.prog 8 #[.agg #[.int .u64 g.l, .int .u64 g.lo, .int .u64 g.hi, .int .u64 g.a], .int .u64 m] w
      fun e w' => e = .returned (.tuple #[.agg #[.int .u64 0, .int .u64 0, .int .u64 0, .int .u64 0], .agg #[.int .u64 0, .int .u64 0, .int .u64 0, .int .u64 0], .int .i64 2]) ∧ Below w.heap.size w w' := by
  have hR := fun W : World => refRight_any g.l g.lo g.hi g.a W
  rw [show rightB g.l g.lo g.hi g.a = false from hg] at hR
  have HR := Lib.hid hR
  clear hR
  clear hg
  go_enter Try.func8, Try.ntmps8
  go_wp2_with fail
  refine (HR.out _).mono ?_
  rintro e w1 ⟨rfl, hb1⟩
  have O1 := Own.grow' hb1 (Own.new (Own.new (Own.new (Own.nil w) (w.heap.size) rfl) (w.heap.size + 1) (by simp)) (w.heap.size + 1 + 1) (by simp))
  try simp only [List.setIfInBounds_toArray, List.set_cons_zero, List.set_cons_succ] at O1
  have bw1 : Below w.heap.size w w1 := Below.trans (by go_grown) (Below.mono hb1 (by first | omega | (simp; done) | (simp; omega)))
  have zw1 := Below.size hb1
  try simp only [World.size_alloc, World.size_drew, World.size_setCell] at zw1
  have c1x0 := O1.cell 0 rfl
  have f1x0 := O1.free 0 rfl
  have l1x0 := O1.lt 0 rfl
  have l1x0d0 := le_up 0 l1x0
  have l1x0d1 := le_up 1 l1x0
  simp only [upN] at l1x0d0 l1x0d1
  have c1x1 := O1.cell 1 rfl
  have f1x1 := O1.free 1 rfl
  have l1x1 := O1.lt 1 rfl
  have l1x1d0 := le_up 0 l1x1
  have l1x1d1 := le_up 1 l1x1
  simp only [upN] at l1x1d0 l1x1d1
  have c1x2 := O1.cell 2 rfl
  have f1x2 := O1.free 2 rfl
  have l1x2 := O1.lt 2 rfl
  have l1x2d0 := le_up 0 l1x2
  have l1x2d1 := le_up 1 l1x2
  simp only [upN] at l1x2d0 l1x2d1
  have HO1 := Lib.hid O1
  clear O1 hb1
  go_wp2_with fail
  refine bodyPost_ret (v := .tuple #[.agg #[.int .u64 0, .int .u64 0, .int .u64 0, .int .u64 0], .agg #[.int .u64 0, .int .u64 0, .int .u64 0, .int .u64 0], .int .i64 2]) (by simp [results, Try.results8, go_sem, *]) rfl ?_
  exact ⟨rfl, by go_grown⟩

set_option maxHeartbeats 4000000 in
set_option maxRecDepth 20000 in
theorem refSplit_over (g : Kn) (m : Int) (w : World) (hg : g.ok = true) (hs : 1099511627776 < m) :
    Calls Try.prog 8 #[.agg #[.int .u64 g.l, .int .u64 g.lo, .int .u64 g.hi, .int .u64 g.a], .int .u64 m] w
      fun e w' => e = .returned (.tuple #[.agg #[.int .u64 0, .int .u64 0, .int .u64 0, .int .u64 0], .agg #[.int .u64 0, .int .u64 0, .int .u64 0, .int .u64 0], .int .i64 2]) ∧ Below w.heap.size w w' := by
  have hR := fun W : World => refRight_any g.l g.lo g.hi g.a W
  rw [show rightB g.l g.lo g.hi g.a = true from hg] at hR
  have HR := Lib.hid hR
  clear hR
  clear hg
  have hd : decide (1099511627776 < m) = true := decide_eq_true hs
  go_enter Try.func8, Try.ntmps8
  go_wp2_with fail
  refine (HR.out _).mono ?_
  rintro e w1 ⟨rfl, hb1⟩
  have O1 := Own.grow' hb1 (Own.new (Own.new (Own.new (Own.nil w) (w.heap.size) rfl) (w.heap.size + 1) (by simp)) (w.heap.size + 1 + 1) (by simp))
  try simp only [List.setIfInBounds_toArray, List.set_cons_zero, List.set_cons_succ] at O1
  have bw1 : Below w.heap.size w w1 := Below.trans (by go_grown) (Below.mono hb1 (by first | omega | (simp; done) | (simp; omega)))
  have zw1 := Below.size hb1
  try simp only [World.size_alloc, World.size_drew, World.size_setCell] at zw1
  have c1x0 := O1.cell 0 rfl
  have f1x0 := O1.free 0 rfl
  have l1x0 := O1.lt 0 rfl
  have l1x0d0 := le_up 0 l1x0
  have l1x0d1 := le_up 1 l1x0
  simp only [upN] at l1x0d0 l1x0d1
  have c1x1 := O1.cell 1 rfl
  have f1x1 := O1.free 1 rfl
  have l1x1 := O1.lt 1 rfl
  have l1x1d0 := le_up 0 l1x1
  have l1x1d1 := le_up 1 l1x1
  simp only [upN] at l1x1d0 l1x1d1
  have c1x2 := O1.cell 2 rfl
  have f1x2 := O1.free 2 rfl
  have l1x2 := O1.lt 2 rfl
  have l1x2d0 := le_up 0 l1x2
  have l1x2d1 := le_up 1 l1x2
  simp only [upN] at l1x2d0 l1x2d1
  have HO1 := Lib.hid O1
  clear O1 hb1
  go_wp2_with fail
  refine bodyPost_ret (v := .tuple #[.agg #[.int .u64 0, .int .u64 0, .int .u64 0, .int .u64 0], .agg #[.int .u64 0, .int .u64 0, .int .u64 0, .int .u64 0], .int .i64 2]) (by simp [results, Try.results8, go_sem, *]) rfl ?_
  exact ⟨rfl, by go_grown⟩

set_option maxHeartbeats 4000000 in
set_option maxRecDepth 20000 in
theorem refBack_in (g h : Kn) (m : Int) (w : World) (hg : g.ok = true) (hh : h.ok = true) (hlo : 0 ≤ g.lo) (hm : m ≤ 1099511627776) (hm2 : g.hi ≤ m) :
    Calls Try.prog 10 #[.int .u64 m, .agg #[.int .u64 g.l, .int .u64 g.lo, .int .u64 g.hi, .int .u64 g.a], .agg #[.int .u64 h.l, .int .u64 h.lo, .int .u64 h.hi, .int .u64 h.a]] w
      fun e w' => e = .returned (.tuple #[.agg #[.int .u64 (m - g.l), .int .u64 (m - g.hi), .int .u64 (m - g.lo), .int .u64 (madeA (m - g.hi) (m - g.lo) g.a)], .agg #[.int .u64 (min h.l ((m - g.l) / 5)), .int .u64 (min h.lo ((m - g.hi) / 5)), .int .u64 (min h.hi ((m - g.lo) / 5)), .int .u64 (madeA (min h.lo ((m - g.hi) / 5)) (min h.hi ((m - g.lo) / 5)) (orI g.a h.a))], .int .i64 0]) ∧ Below w.heap.size w w' := by
  have gr := (oG_right _ _ _ _).1 hg
  have hR1 := fun W : World => refRight_any g.l g.lo g.hi g.a W
  rw [show rightB g.l g.lo g.hi g.a = true from hg] at hR1
  have HR1 := Lib.hid hR1
  clear hR1
  have hR2 := fun W : World => refRight_any h.l h.lo h.hi h.a W
  rw [show rightB h.l h.lo h.hi h.a = true from hh] at hR2
  have HR2 := Lib.hid hR2
  clear hR2
  obtain ⟨g0, g1, g2, g3⟩ := gr
  clear hg hh g3
  have hd : decide (1099511627776 < m) = false := decide_eq_false (by omega)
  have hd2 : decide (m < g.hi) = false := decide_eq_false (by omega)
  go_enter Try.func10, Try.ntmps10
  go_wp2_with fail
  refine (HR1.out _).mono ?_
  rintro e w1 ⟨rfl, hb1⟩
  have O1 := Own.grow' hb1 (Own.new (Own.new (Own.new (Own.new (Own.nil w) (w.heap.size) rfl) (w.heap.size + 1) (by simp)) (w.heap.size + 1 + 1) (by simp)) (w.heap.size + 1 + 1 + 1) (by simp))
  try simp only [List.setIfInBounds_toArray, List.set_cons_zero, List.set_cons_succ] at O1
  have bw1 : Below w.heap.size w w1 := Below.trans (by go_grown) (Below.mono hb1 (by first | omega | (simp; done) | (simp; omega)))
  have zw1 := Below.size hb1
  try simp only [World.size_alloc, World.size_drew, World.size_setCell] at zw1
  have c1x0 := O1.cell 0 rfl
  have f1x0 := O1.free 0 rfl
  have l1x0 := O1.lt 0 rfl
  have l1x0d0 := le_up 0 l1x0
  have l1x0d1 := le_up 1 l1x0
  simp only [upN] at l1x0d0 l1x0d1
  have c1x1 := O1.cell 1 rfl
  have f1x1 := O1.free 1 rfl
  have l1x1 := O1.lt 1 rfl
  have l1x1d0 := le_up 0 l1x1
  have l1x1d1 := le_up 1 l1x1
  simp only [upN] at l1x1d0 l1x1d1
  have c1x2 := O1.cell 2 rfl
  have f1x2 := O1.free 2 rfl
  have l1x2 := O1.lt 2 rfl
  have l1x2d0 := le_up 0 l1x2
  have l1x2d1 := le_up 1 l1x2
  simp only [upN] at l1x2d0 l1x2d1
  have c1x3 := O1.cell 3 rfl
  have f1x3 := O1.free 3 rfl
  have l1x3 := O1.lt 3 rfl
  have l1x3d0 := le_up 0 l1x3
  have l1x3d1 := le_up 1 l1x3
  simp only [upN] at l1x3d0 l1x3d1
  have HO1 := Lib.hid O1
  clear O1 hb1
  go_wp2_with fail
  refine (HR2.out _).mono ?_
  rintro e w2 ⟨rfl, hb2⟩
  have O2 := Own.grow' hb2 HO1.out
  try simp only [List.setIfInBounds_toArray, List.set_cons_zero, List.set_cons_succ] at O2
  have bw2 : Below w.heap.size w w2 := Below.trans (by go_grown) (Below.mono hb2 (by first | omega | (simp; done) | (simp; omega)))
  have zw2 := Below.size hb2
  try simp only [World.size_alloc, World.size_drew, World.size_setCell] at zw2
  clear c1x0 f1x0 l1x0 l1x0d0 l1x0d1 c1x1 f1x1 l1x1 l1x1d0 l1x1d1 c1x2 f1x2 l1x2 l1x2d0 l1x2d1 c1x3 f1x3 l1x3 l1x3d0 l1x3d1
  have c2x0 := O2.cell 0 rfl
  have f2x0 := O2.free 0 rfl
  have l2x0 := O2.lt 0 rfl
  have l2x0d0 := le_up 0 l2x0
  have l2x0d1 := le_up 1 l2x0
  simp only [upN] at l2x0d0 l2x0d1
  have c2x1 := O2.cell 1 rfl
  have f2x1 := O2.free 1 rfl
  have l2x1 := O2.lt 1 rfl
  have l2x1d0 := le_up 0 l2x1
  have l2x1d1 := le_up 1 l2x1
  simp only [upN] at l2x1d0 l2x1d1
  have c2x2 := O2.cell 2 rfl
  have f2x2 := O2.free 2 rfl
  have l2x2 := O2.lt 2 rfl
  have l2x2d0 := le_up 0 l2x2
  have l2x2d1 := le_up 1 l2x2
  simp only [upN] at l2x2d0 l2x2d1
  have c2x3 := O2.cell 3 rfl
  have f2x3 := O2.free 3 rfl
  have l2x3 := O2.lt 3 rfl
  have l2x3d0 := le_up 0 l2x3
  have l2x3d1 := le_up 1 l2x3
  simp only [upN] at l2x3d0 l2x3d1
  have HO2 := Lib.hid O2
  clear O2 hb2
  go_wp2_with fail
  refine (refMade_any _ _ _ _ _).mono ?_
  rintro e w3 ⟨rfl, hb3⟩
  have O3 := Own.grow' hb3 HO2.out
  try simp only [List.setIfInBounds_toArray, List.set_cons_zero, List.set_cons_succ] at O3
  have bw3 : Below w.heap.size w w3 := Below.trans (by go_grown) (Below.mono hb3 (by first | omega | (simp; done) | (simp; omega)))
  have zw3 := Below.size hb3
  try simp only [World.size_alloc, World.size_drew, World.size_setCell] at zw3
  clear c2x0 f2x0 l2x0 l2x0d0 l2x0d1 c2x1 f2x1 l2x1 l2x1d0 l2x1d1 c2x2 f2x2 l2x2 l2x2d0 l2x2d1 c2x3 f2x3 l2x3 l2x3d0 l2x3d1
  have c3x0 := O3.cell 0 rfl
  have f3x0 := O3.free 0 rfl
  have l3x0 := O3.lt 0 rfl
  have l3x0d0 := le_up 0 l3x0
  have l3x0d1 := le_up 1 l3x0
  simp only [upN] at l3x0d0 l3x0d1
  have c3x1 := O3.cell 1 rfl
  have f3x1 := O3.free 1 rfl
  have l3x1 := O3.lt 1 rfl
  have l3x1d0 := le_up 0 l3x1
  have l3x1d1 := le_up 1 l3x1
  simp only [upN] at l3x1d0 l3x1d1
  have c3x2 := O3.cell 2 rfl
  have f3x2 := O3.free 2 rfl
  have l3x2 := O3.lt 2 rfl
  have l3x2d0 := le_up 0 l3x2
  have l3x2d1 := le_up 1 l3x2
  simp only [upN] at l3x2d0 l3x2d1
  have c3x3 := O3.cell 3 rfl
  have f3x3 := O3.free 3 rfl
  have l3x3 := O3.lt 3 rfl
  have l3x3d0 := le_up 0 l3x3
  have l3x3d1 := le_up 1 l3x3
  simp only [upN] at l3x3d0 l3x3d1
  have HO3 := Lib.hid O3
  clear O3 hb3
  go_wp2_with fail
  refine wp_region_grow w.heap.size 25 0 0 [(0, 0, 35184372088832, 512), (1, 0, 70368744177664, 32), (2, 2, 140737488355328, 70368744177664), (3, 0, 281474976710656, 512), (4, 8, 562949953421312, 281474976710656), (5, 16, 1125899906842624, 562949953421312), (6, 36, 2251799813685248, 1266637395197952), (7, 0, 4503599627370496, 32), (8, 128, 9007199254740992, 4503599627370496), (9, 0, 18014398509481984, 512), (10, 512, 36028797018963968, 18014398509481984), (11, 1024, 72057594037927936, 36028797018963968), (12, 2304, 144115188075855872, 81064793292668928), (13, 0, 288230376151711744, 32), (14, 8192, 576460752303423488, 288230376151711744), (15, 0, 1152921504606846976, 512), (16, 32768, 2305843009213693952, 1152921504606846976), (17, 65536, 4611686018427387904, 2305843009213693952), (18, 147456, 9223372036854775808, 5188146770730811392), (19, 0, 18446744073709551616, 16), (20, 524288, 36893488147419103232, 18446744073709551616), (21, 0, 73786976294838206464, 32), (22, 2097152, 147573952589676412928, 73786976294838206464), (23, 5242880, 295147905179352825856, 184467440737095516160), (24, 8654912, 590295810358705651712, 304517644204097142784), (25, 16777217, 0, 35184372088896), (26, 67108863, 0, 590295810358705651840), (27, 134217727, 256, 0)] [(.p 0, 1), (.p 1, 3), (.p 2, 7), (.p 3, 15), (.p 4, 31), (.p 5, 63), (.p 6, 127), (.p 7, 255), (.p 8, 511), (.p 9, 1023), (.p 10, 2047), (.p 11, 4095), (.p 12, 8191), (.p 13, 16383), (.p 14, 32767), (.p 15, 65535), (.p 16, 131071), (.p 17, 262143), (.p 18, 524287), (.p 19, 1048575), (.p 20, 2097151), (.p 21, 4194303), (.p 22, 8388607), (.p 23, 16777215), (.p 24, 33554431)] [(25, 67108863), (26, 134217727), (27, 268435455)] _ (fun p hp => hp) (by first | omega | (simp; done) | (simp; omega)) (by kernel_rfl) (by kernel_rfl) (Own.new HO3.out (w3.heap.size) rfl) ?_
  refine wpG_pure (i := 0) (v := ?v4x0) rfl rfl (by rfl) (fun w hB hG K hK => ?h4x0) ?_
  case h4x0 =>
    have cx := hG.cell 0 rfl
    go_wp2_with fail
    exact hK _ (Below.refl _ _)
  simp only [List.set_cons_zero, List.set_cons_succ]
  refine wpG_pure (i := 1) (v := ?v4x1) rfl rfl (by rfl) (fun w hB hG K hK => ?h4x1) ?_
  case h4x1 =>
    go_wp2_with fail
    exact hK _ (Below.refl _ _)
  simp only [List.set_cons_zero, List.set_cons_succ]
  refine wpG_pure (i := 2) (v := ?v4x2) rfl rfl (by rfl) (fun w hB hG K hK => ?h4x2) ?_
  case h4x2 =>
    have cx := hG.cell 3 rfl
    go_wp2_with fail
    exact hK _ (Below.refl _ _)
  simp only [List.set_cons_zero, List.set_cons_succ]
  refine wpG_pure (i := 3) (v := ?v4x3) rfl rfl (by rfl) (fun w hB hG K hK => ?h4x3) ?_
  case h4x3 =>
    go_wp2_with fail
    exact hK _ (Below.refl _ _)
  simp only [List.set_cons_zero, List.set_cons_succ]
  refine wpG_pure (i := 4) (v := ?v4x4) rfl rfl (by rfl) (fun w hB hG K hK => ?h4x4) ?_
  case h4x4 =>
    have cx := hG.cell 0 rfl
    go_wp2_with fail
    exact hK _ (Below.refl _ _)
  simp only [List.set_cons_zero, List.set_cons_succ]
  refine wpG_pure (i := 5) (v := ?v4x5) rfl rfl (by rfl) (fun w hB hG K hK => ?h4x5) ?_
  case h4x5 =>
    go_wp2_with fail
    exact hK _ (Below.refl _ _)
  simp only [List.set_cons_zero, List.set_cons_succ]
  refine wpG_min (i := 6) rfl rfl rfl (by rfl) rfl rfl ?_
  simp only [List.set_cons_zero, List.set_cons_succ]
  refine wpG_pure (i := 7) (v := ?v4x7) rfl rfl (by rfl) (fun w hB hG K hK => ?h4x7) ?_
  case h4x7 =>
    go_wp2_with fail
    exact hK _ (Below.refl _ _)
  simp only [List.set_cons_zero, List.set_cons_succ]
  refine wpG_pure (i := 8) (v := ?v4x8) rfl rfl (by rfl) (fun w hB hG K hK => ?h4x8) ?_
  case h4x8 =>
    have cx := hG.cell 3 rfl
    go_wp2_with fail
    exact hK _ (Below.refl _ _)
  simp only [List.set_cons_zero, List.set_cons_succ]
  refine wpG_pure (i := 9) (v := ?v4x9) rfl rfl (by rfl) (fun w hB hG K hK => ?h4x9) ?_
  case h4x9 =>
    go_wp2_with fail
    exact hK _ (Below.refl _ _)
  simp only [List.set_cons_zero, List.set_cons_succ]
  refine wpG_pure (i := 10) (v := ?v4x10) rfl rfl (by rfl) (fun w hB hG K hK => ?h4x10) ?_
  case h4x10 =>
    have cx := hG.cell 0 rfl
    go_wp2_with fail
    exact hK _ (Below.refl _ _)
  simp only [List.set_cons_zero, List.set_cons_succ]
  refine wpG_pure (i := 11) (v := ?v4x11) rfl rfl (by rfl) (fun w hB hG K hK => ?h4x11) ?_
  case h4x11 =>
    go_wp2_with fail
    exact hK _ (Below.refl _ _)
  simp only [List.set_cons_zero, List.set_cons_succ]
  refine wpG_min (i := 12) rfl rfl rfl (by rfl) rfl rfl ?_
  simp only [List.set_cons_zero, List.set_cons_succ]
  refine wpG_pure (i := 13) (v := ?v4x13) rfl rfl (by rfl) (fun w hB hG K hK => ?h4x13) ?_
  case h4x13 =>
    go_wp2_with fail
    exact hK _ (Below.refl _ _)
  simp only [List.set_cons_zero, List.set_cons_succ]
  refine wpG_pure (i := 14) (v := ?v4x14) rfl rfl (by rfl) (fun w hB hG K hK => ?h4x14) ?_
  case h4x14 =>
    have cx := hG.cell 3 rfl
    go_wp2_with fail
    exact hK _ (Below.refl _ _)
  simp only [List.set_cons_zero, List.set_cons_succ]
  refine wpG_pure (i := 15) (v := ?v4x15) rfl rfl (by rfl) (fun w hB hG K hK => ?h4x15) ?_
  case h4x15 =>
    go_wp2_with fail
    exact hK _ (Below.refl _ _)
  simp only [List.set_cons_zero, List.set_cons_succ]
  refine wpG_pure (i := 16) (v := ?v4x16) rfl rfl (by rfl) (fun w hB hG K hK => ?h4x16) ?_
  case h4x16 =>
    have cx := hG.cell 0 rfl
    go_wp2_with fail
    exact hK _ (Below.refl _ _)
  simp only [List.set_cons_zero, List.set_cons_succ]
  refine wpG_pure (i := 17) (v := ?v4x17) rfl rfl (by rfl) (fun w hB hG K hK => ?h4x17) ?_
  case h4x17 =>
    go_wp2_with fail
    exact hK _ (Below.refl _ _)
  simp only [List.set_cons_zero, List.set_cons_succ]
  refine wpG_min (i := 18) rfl rfl rfl (by rfl) rfl rfl ?_
  simp only [List.set_cons_zero, List.set_cons_succ]
  refine wpG_pure (i := 19) (v := ?v4x19) rfl rfl (by rfl) (fun w hB hG K hK => ?h4x19) ?_
  case h4x19 =>
    go_wp2_with fail
    exact hK _ (Below.refl _ _)
  simp only [List.set_cons_zero, List.set_cons_succ]
  refine wpG_pure (i := 20) (v := ?v4x20) rfl rfl (by rfl) (fun w hB hG K hK => ?h4x20) ?_
  case h4x20 =>
    have cx := hG.cell 4 rfl
    go_wp2_with fail
    exact hK _ (Below.refl _ _)
  simp only [List.set_cons_zero, List.set_cons_succ]
  refine wpG_pure (i := 21) (v := ?v4x21) rfl rfl (by rfl) (fun w hB hG K hK => ?h4x21) ?_
  case h4x21 =>
    go_wp2_with fail
    exact hK _ (Below.refl _ _)
  simp only [List.set_cons_zero, List.set_cons_succ]
  refine wpG_pure (i := 22) (v := ?v4x22) rfl rfl (by rfl) (fun w hB hG K hK => ?h4x22) ?_
  case h4x22 =>
    have cx := hG.cell 3 rfl
    go_wp2_with fail
    exact hK _ (Below.refl _ _)
  simp only [List.set_cons_zero, List.set_cons_succ]
  refine wpG_pure (i := 23) (v := ?v4x23) rfl rfl (by rfl) (fun w hB hG K hK => ?h4x23) ?_
  case h4x23 =>
    go_wp2_with fail
    refine (refJoin_or _ _ _).mono ?_
    rintro e wx ⟨rfl, rfl⟩
    exact hK _ (Below.refl _ _)
  simp only [List.set_cons_zero, List.set_cons_succ]
  refine wpG_pure (i := 24) (v := ?v4x24) rfl rfl (by rfl) (fun w hB hG K hK => ?h4x24) ?_
  case h4x24 =>
    go_wp2_with fail
    refine (refMade_any _ _ _ _ _).mono ?_
    rintro e wx ⟨rfl, hbx⟩
    exact hK _ hbx
  simp only [List.set_cons_zero, List.set_cons_succ]
  refine wpG_nil (fun w4 hb4 hG4 => ?_)
  simp only [List.append_eq, List.cons_append, List.nil_append, List.drop_succ_cons, List.drop_zero, List.drop_nil]
  have O4 := Own.of hG4
  try simp only [List.setIfInBounds_toArray, List.set_cons_zero, List.set_cons_succ] at O4
  have bw4 : Below w.heap.size w w4 := Below.trans (by go_grown) (Below.mono hb4 (by first | omega | (simp; done) | (simp; omega)))
  have zw4 := Below.size hb4
  try simp only [World.size_alloc, World.size_drew, World.size_setCell] at zw4
  clear c3x0 f3x0 l3x0 l3x0d0 l3x0d1 c3x1 f3x1 l3x1 l3x1d0 l3x1d1 c3x2 f3x2 l3x2 l3x2d0 l3x2d1 c3x3 f3x3 l3x3 l3x3d0 l3x3d1
  have c4x0 := O4.cell 0 rfl
  have f4x0 := O4.free 0 rfl
  have l4x0 := O4.lt 0 rfl
  have l4x0d0 := le_up 0 l4x0
  have l4x0d1 := le_up 1 l4x0
  simp only [upN] at l4x0d0 l4x0d1
  have c4x1 := O4.cell 1 rfl
  have f4x1 := O4.free 1 rfl
  have l4x1 := O4.lt 1 rfl
  have l4x1d0 := le_up 0 l4x1
  have l4x1d1 := le_up 1 l4x1
  simp only [upN] at l4x1d0 l4x1d1
  have c4x2 := O4.cell 2 rfl
  have f4x2 := O4.free 2 rfl
  have l4x2 := O4.lt 2 rfl
  have l4x2d0 := le_up 0 l4x2
  have l4x2d1 := le_up 1 l4x2
  simp only [upN] at l4x2d0 l4x2d1
  have c4x3 := O4.cell 3 rfl
  have f4x3 := O4.free 3 rfl
  have l4x3 := O4.lt 3 rfl
  have l4x3d0 := le_up 0 l4x3
  have l4x3d1 := le_up 1 l4x3
  simp only [upN] at l4x3d0 l4x3d1
  have c4x4 := O4.cell 4 rfl
  have f4x4 := O4.free 4 rfl
  have l4x4 := O4.lt 4 rfl
  have l4x4d0 := le_up 0 l4x4
  have l4x4d1 := le_up 1 l4x4
  simp only [upN] at l4x4d0 l4x4d1
  have HO4 := Lib.hid O4
  clear O4 hb4
  go_wp2_with fail
  refine bodyPost_ret (v := .tuple #[.agg #[.int .u64 (m - g.l), .int .u64 (m - g.hi), .int .u64 (m - g.lo), .int .u64 (madeA (m - g.hi) (m - g.lo) g.a)], .agg #[.int .u64 (min h.l ((m - g.l) / 5)), .int .u64 (min h.lo ((m - g.hi) / 5)), .int .u64 (min h.hi ((m - g.lo) / 5)), .int .u64 (madeA (min h.lo ((m - g.hi) / 5)) (min h.hi ((m - g.lo) / 5)) (orI g.a h.a))], .int .i64 0]) (by simp [results, Try.results10, go_sem, *]) rfl ?_
  exact ⟨rfl, by go_grown⟩

set_option maxHeartbeats 4000000 in
set_option maxRecDepth 20000 in
theorem refBack_bad1 (g h : Kn) (m : Int) (w : World) (hg : g.ok = false) :
    Calls Try.prog 10 #[.int .u64 m, .agg #[.int .u64 g.l, .int .u64 g.lo, .int .u64 g.hi, .int .u64 g.a], .agg #[.int .u64 h.l, .int .u64 h.lo, .int .u64 h.hi, .int .u64 h.a]] w
      fun e w' => e = .returned (.tuple #[.agg #[.int .u64 0, .int .u64 0, .int .u64 0, .int .u64 0], .agg #[.int .u64 0, .int .u64 0, .int .u64 0, .int .u64 0], .int .i64 2]) ∧ Below w.heap.size w w' := by
  have hR1 := fun W : World => refRight_any g.l g.lo g.hi g.a W
  rw [show rightB g.l g.lo g.hi g.a = false from hg] at hR1
  have HR1 := Lib.hid hR1
  clear hR1
  clear hg
  go_enter Try.func10, Try.ntmps10
  go_wp2_with fail
  refine (HR1.out _).mono ?_
  rintro e w1 ⟨rfl, hb1⟩
  have O1 := Own.grow' hb1 (Own.new (Own.new (Own.new (Own.new (Own.nil w) (w.heap.size) rfl) (w.heap.size + 1) (by simp)) (w.heap.size + 1 + 1) (by simp)) (w.heap.size + 1 + 1 + 1) (by simp))
  try simp only [List.setIfInBounds_toArray, List.set_cons_zero, List.set_cons_succ] at O1
  have bw1 : Below w.heap.size w w1 := Below.trans (by go_grown) (Below.mono hb1 (by first | omega | (simp; done) | (simp; omega)))
  have zw1 := Below.size hb1
  try simp only [World.size_alloc, World.size_drew, World.size_setCell] at zw1
  have c1x0 := O1.cell 0 rfl
  have f1x0 := O1.free 0 rfl
  have l1x0 := O1.lt 0 rfl
  have l1x0d0 := le_up 0 l1x0
  have l1x0d1 := le_up 1 l1x0
  simp only [upN] at l1x0d0 l1x0d1
  have c1x1 := O1.cell 1 rfl
  have f1x1 := O1.free 1 rfl
  have l1x1 := O1.lt 1 rfl
  have l1x1d0 := le_up 0 l1x1
  have l1x1d1 := le_up 1 l1x1
  simp only [upN] at l1x1d0 l1x1d1
  have c1x2 := O1.cell 2 rfl
  have f1x2 := O1.free 2 rfl
  have l1x2 := O1.lt 2 rfl
  have l1x2d0 := le_up 0 l1x2
  have l1x2d1 := le_up 1 l1x2
  simp only [upN] at l1x2d0 l1x2d1
  have c1x3 := O1.cell 3 rfl
  have f1x3 := O1.free 3 rfl
  have l1x3 := O1.lt 3 rfl
  have l1x3d0 := le_up 0 l1x3
  have l1x3d1 := le_up 1 l1x3
  simp only [upN] at l1x3d0 l1x3d1
  have HO1 := Lib.hid O1
  clear O1 hb1
  go_wp2_with fail
  refine bodyPost_ret (v := .tuple #[.agg #[.int .u64 0, .int .u64 0, .int .u64 0, .int .u64 0], .agg #[.int .u64 0, .int .u64 0, .int .u64 0, .int .u64 0], .int .i64 2]) (by simp [results, Try.results10, go_sem, *]) rfl ?_
  exact ⟨rfl, by go_grown⟩

set_option maxHeartbeats 4000000 in
set_option maxRecDepth 20000 in
theorem refBack_bad2 (g h : Kn) (m : Int) (w : World) (hg : g.ok = true) (hh : h.ok = false) :
    Calls Try.prog 10 #[.int .u64 m, .agg #[.int .u64 g.l, .int .u64 g.lo, .int .u64 g.hi, .int .u64 g.a], .agg #[.int .u64 h.l, .int .u64 h.lo, .int .u64 h.hi, .int .u64 h.a]] w
      fun e w' => e = .returned (.tuple #[.agg #[.int .u64 0, .int .u64 0, .int .u64 0, .int .u64 0], .agg #[.int .u64 0, .int .u64 0, .int .u64 0, .int .u64 0], .int .i64 2]) ∧ Below w.heap.size w w' := by
  have hR1 := fun W : World => refRight_any g.l g.lo g.hi g.a W
  rw [show rightB g.l g.lo g.hi g.a = true from hg] at hR1
  have HR1 := Lib.hid hR1
  clear hR1
  have hR2 := fun W : World => refRight_any h.l h.lo h.hi h.a W
  rw [show rightB h.l h.lo h.hi h.a = false from hh] at hR2
  have HR2 := Lib.hid hR2
  clear hR2
  clear hg hh
  go_enter Try.func10, Try.ntmps10
  go_wp2_with fail
  refine (HR1.out _).mono ?_
  rintro e w1 ⟨rfl, hb1⟩
  have O1 := Own.grow' hb1 (Own.new (Own.new (Own.new (Own.new (Own.nil w) (w.heap.size) rfl) (w.heap.size + 1) (by simp)) (w.heap.size + 1 + 1) (by simp)) (w.heap.size + 1 + 1 + 1) (by simp))
  try simp only [List.setIfInBounds_toArray, List.set_cons_zero, List.set_cons_succ] at O1
  have bw1 : Below w.heap.size w w1 := Below.trans (by go_grown) (Below.mono hb1 (by first | omega | (simp; done) | (simp; omega)))
  have zw1 := Below.size hb1
  try simp only [World.size_alloc, World.size_drew, World.size_setCell] at zw1
  have c1x0 := O1.cell 0 rfl
  have f1x0 := O1.free 0 rfl
  have l1x0 := O1.lt 0 rfl
  have l1x0d0 := le_up 0 l1x0
  have l1x0d1 := le_up 1 l1x0
  simp only [upN] at l1x0d0 l1x0d1
  have c1x1 := O1.cell 1 rfl
  have f1x1 := O1.free 1 rfl
  have l1x1 := O1.lt 1 rfl
  have l1x1d0 := le_up 0 l1x1
  have l1x1d1 := le_up 1 l1x1
  simp only [upN] at l1x1d0 l1x1d1
  have c1x2 := O1.cell 2 rfl
  have f1x2 := O1.free 2 rfl
  have l1x2 := O1.lt 2 rfl
  have l1x2d0 := le_up 0 l1x2
  have l1x2d1 := le_up 1 l1x2
  simp only [upN] at l1x2d0 l1x2d1
  have c1x3 := O1.cell 3 rfl
  have f1x3 := O1.free 3 rfl
  have l1x3 := O1.lt 3 rfl
  have l1x3d0 := le_up 0 l1x3
  have l1x3d1 := le_up 1 l1x3
  simp only [upN] at l1x3d0 l1x3d1
  have HO1 := Lib.hid O1
  clear O1 hb1
  go_wp2_with fail
  refine (HR2.out _).mono ?_
  rintro e w2 ⟨rfl, hb2⟩
  have O2 := Own.grow' hb2 HO1.out
  try simp only [List.setIfInBounds_toArray, List.set_cons_zero, List.set_cons_succ] at O2
  have bw2 : Below w.heap.size w w2 := Below.trans (by go_grown) (Below.mono hb2 (by first | omega | (simp; done) | (simp; omega)))
  have zw2 := Below.size hb2
  try simp only [World.size_alloc, World.size_drew, World.size_setCell] at zw2
  clear c1x0 f1x0 l1x0 l1x0d0 l1x0d1 c1x1 f1x1 l1x1 l1x1d0 l1x1d1 c1x2 f1x2 l1x2 l1x2d0 l1x2d1 c1x3 f1x3 l1x3 l1x3d0 l1x3d1
  have c2x0 := O2.cell 0 rfl
  have f2x0 := O2.free 0 rfl
  have l2x0 := O2.lt 0 rfl
  have l2x0d0 := le_up 0 l2x0
  have l2x0d1 := le_up 1 l2x0
  simp only [upN] at l2x0d0 l2x0d1
  have c2x1 := O2.cell 1 rfl
  have f2x1 := O2.free 1 rfl
  have l2x1 := O2.lt 1 rfl
  have l2x1d0 := le_up 0 l2x1
  have l2x1d1 := le_up 1 l2x1
  simp only [upN] at l2x1d0 l2x1d1
  have c2x2 := O2.cell 2 rfl
  have f2x2 := O2.free 2 rfl
  have l2x2 := O2.lt 2 rfl
  have l2x2d0 := le_up 0 l2x2
  have l2x2d1 := le_up 1 l2x2
  simp only [upN] at l2x2d0 l2x2d1
  have c2x3 := O2.cell 3 rfl
  have f2x3 := O2.free 3 rfl
  have l2x3 := O2.lt 3 rfl
  have l2x3d0 := le_up 0 l2x3
  have l2x3d1 := le_up 1 l2x3
  simp only [upN] at l2x3d0 l2x3d1
  have HO2 := Lib.hid O2
  clear O2 hb2
  go_wp2_with fail
  refine bodyPost_ret (v := .tuple #[.agg #[.int .u64 0, .int .u64 0, .int .u64 0, .int .u64 0], .agg #[.int .u64 0, .int .u64 0, .int .u64 0, .int .u64 0], .int .i64 2]) (by simp [results, Try.results10, go_sem, *]) rfl ?_
  exact ⟨rfl, by go_grown⟩

set_option maxHeartbeats 4000000 in
set_option maxRecDepth 20000 in
theorem refBack_over (g h : Kn) (m : Int) (w : World) (hg : g.ok = true) (hh : h.ok = true) (hm : 1099511627776 < m) :
    Calls Try.prog 10 #[.int .u64 m, .agg #[.int .u64 g.l, .int .u64 g.lo, .int .u64 g.hi, .int .u64 g.a], .agg #[.int .u64 h.l, .int .u64 h.lo, .int .u64 h.hi, .int .u64 h.a]] w
      fun e w' => e = .returned (.tuple #[.agg #[.int .u64 0, .int .u64 0, .int .u64 0, .int .u64 0], .agg #[.int .u64 0, .int .u64 0, .int .u64 0, .int .u64 0], .int .i64 2]) ∧ Below w.heap.size w w' := by
  have hR1 := fun W : World => refRight_any g.l g.lo g.hi g.a W
  rw [show rightB g.l g.lo g.hi g.a = true from hg] at hR1
  have HR1 := Lib.hid hR1
  clear hR1
  have hR2 := fun W : World => refRight_any h.l h.lo h.hi h.a W
  rw [show rightB h.l h.lo h.hi h.a = true from hh] at hR2
  have HR2 := Lib.hid hR2
  clear hR2
  clear hg hh
  have hd : decide (1099511627776 < m) = true := decide_eq_true hm
  go_enter Try.func10, Try.ntmps10
  go_wp2_with fail
  refine (HR1.out _).mono ?_
  rintro e w1 ⟨rfl, hb1⟩
  have O1 := Own.grow' hb1 (Own.new (Own.new (Own.new (Own.new (Own.nil w) (w.heap.size) rfl) (w.heap.size + 1) (by simp)) (w.heap.size + 1 + 1) (by simp)) (w.heap.size + 1 + 1 + 1) (by simp))
  try simp only [List.setIfInBounds_toArray, List.set_cons_zero, List.set_cons_succ] at O1
  have bw1 : Below w.heap.size w w1 := Below.trans (by go_grown) (Below.mono hb1 (by first | omega | (simp; done) | (simp; omega)))
  have zw1 := Below.size hb1
  try simp only [World.size_alloc, World.size_drew, World.size_setCell] at zw1
  have c1x0 := O1.cell 0 rfl
  have f1x0 := O1.free 0 rfl
  have l1x0 := O1.lt 0 rfl
  have l1x0d0 := le_up 0 l1x0
  have l1x0d1 := le_up 1 l1x0
  simp only [upN] at l1x0d0 l1x0d1
  have c1x1 := O1.cell 1 rfl
  have f1x1 := O1.free 1 rfl
  have l1x1 := O1.lt 1 rfl
  have l1x1d0 := le_up 0 l1x1
  have l1x1d1 := le_up 1 l1x1
  simp only [upN] at l1x1d0 l1x1d1
  have c1x2 := O1.cell 2 rfl
  have f1x2 := O1.free 2 rfl
  have l1x2 := O1.lt 2 rfl
  have l1x2d0 := le_up 0 l1x2
  have l1x2d1 := le_up 1 l1x2
  simp only [upN] at l1x2d0 l1x2d1
  have c1x3 := O1.cell 3 rfl
  have f1x3 := O1.free 3 rfl
  have l1x3 := O1.lt 3 rfl
  have l1x3d0 := le_up 0 l1x3
  have l1x3d1 := le_up 1 l1x3
  simp only [upN] at l1x3d0 l1x3d1
  have HO1 := Lib.hid O1
  clear O1 hb1
  go_wp2_with fail
  refine (HR2.out _).mono ?_
  rintro e w2 ⟨rfl, hb2⟩
  have O2 := Own.grow' hb2 HO1.out
  try simp only [List.setIfInBounds_toArray, List.set_cons_zero, List.set_cons_succ] at O2
  have bw2 : Below w.heap.size w w2 := Below.trans (by go_grown) (Below.mono hb2 (by first | omega | (simp; done) | (simp; omega)))
  have zw2 := Below.size hb2
  try simp only [World.size_alloc, World.size_drew, World.size_setCell] at zw2
  clear c1x0 f1x0 l1x0 l1x0d0 l1x0d1 c1x1 f1x1 l1x1 l1x1d0 l1x1d1 c1x2 f1x2 l1x2 l1x2d0 l1x2d1 c1x3 f1x3 l1x3 l1x3d0 l1x3d1
  have c2x0 := O2.cell 0 rfl
  have f2x0 := O2.free 0 rfl
  have l2x0 := O2.lt 0 rfl
  have l2x0d0 := le_up 0 l2x0
  have l2x0d1 := le_up 1 l2x0
  simp only [upN] at l2x0d0 l2x0d1
  have c2x1 := O2.cell 1 rfl
  have f2x1 := O2.free 1 rfl
  have l2x1 := O2.lt 1 rfl
  have l2x1d0 := le_up 0 l2x1
  have l2x1d1 := le_up 1 l2x1
  simp only [upN] at l2x1d0 l2x1d1
  have c2x2 := O2.cell 2 rfl
  have f2x2 := O2.free 2 rfl
  have l2x2 := O2.lt 2 rfl
  have l2x2d0 := le_up 0 l2x2
  have l2x2d1 := le_up 1 l2x2
  simp only [upN] at l2x2d0 l2x2d1
  have c2x3 := O2.cell 3 rfl
  have f2x3 := O2.free 3 rfl
  have l2x3 := O2.lt 3 rfl
  have l2x3d0 := le_up 0 l2x3
  have l2x3d1 := le_up 1 l2x3
  simp only [upN] at l2x3d0 l2x3d1
  have HO2 := Lib.hid O2
  clear O2 hb2
  go_wp2_with fail
  refine bodyPost_ret (v := .tuple #[.agg #[.int .u64 0, .int .u64 0, .int .u64 0, .int .u64 0], .agg #[.int .u64 0, .int .u64 0, .int .u64 0, .int .u64 0], .int .i64 2]) (by simp [results, Try.results10, go_sem, *]) rfl ?_
  exact ⟨rfl, by go_grown⟩

set_option maxHeartbeats 4000000 in
set_option maxRecDepth 20000 in
theorem refBack_less (g h : Kn) (m : Int) (w : World) (hg : g.ok = true) (hh : h.ok = true) (hm : m ≤ 1099511627776) (hm2 : m < g.hi) :
    Calls Try.prog 10 #[.int .u64 m, .agg #[.int .u64 g.l, .int .u64 g.lo, .int .u64 g.hi, .int .u64 g.a], .agg #[.int .u64 h.l, .int .u64 h.lo, .int .u64 h.hi, .int .u64 h.a]] w
      fun e w' => e = .returned (.tuple #[.agg #[.int .u64 0, .int .u64 0, .int .u64 0, .int .u64 0], .agg #[.int .u64 0, .int .u64 0, .int .u64 0, .int .u64 0], .int .i64 2]) ∧ Below w.heap.size w w' := by
  have hR1 := fun W : World => refRight_any g.l g.lo g.hi g.a W
  rw [show rightB g.l g.lo g.hi g.a = true from hg] at hR1
  have HR1 := Lib.hid hR1
  clear hR1
  have hR2 := fun W : World => refRight_any h.l h.lo h.hi h.a W
  rw [show rightB h.l h.lo h.hi h.a = true from hh] at hR2
  have HR2 := Lib.hid hR2
  clear hR2
  clear hg hh
  have hd : decide (1099511627776 < m) = false := decide_eq_false (by omega)
  have hd2 : decide (m < g.hi) = true := decide_eq_true hm2
  go_enter Try.func10, Try.ntmps10
  go_wp2_with fail
  refine (HR1.out _).mono ?_
  rintro e w1 ⟨rfl, hb1⟩
  have O1 := Own.grow' hb1 (Own.new (Own.new (Own.new (Own.new (Own.nil w) (w.heap.size) rfl) (w.heap.size + 1) (by simp)) (w.heap.size + 1 + 1) (by simp)) (w.heap.size + 1 + 1 + 1) (by simp))
  try simp only [List.setIfInBounds_toArray, List.set_cons_zero, List.set_cons_succ] at O1
  have bw1 : Below w.heap.size w w1 := Below.trans (by go_grown) (Below.mono hb1 (by first | omega | (simp; done) | (simp; omega)))
  have zw1 := Below.size hb1
  try simp only [World.size_alloc, World.size_drew, World.size_setCell] at zw1
  have c1x0 := O1.cell 0 rfl
  have f1x0 := O1.free 0 rfl
  have l1x0 := O1.lt 0 rfl
  have l1x0d0 := le_up 0 l1x0
  have l1x0d1 := le_up 1 l1x0
  simp only [upN] at l1x0d0 l1x0d1
  have c1x1 := O1.cell 1 rfl
  have f1x1 := O1.free 1 rfl
  have l1x1 := O1.lt 1 rfl
  have l1x1d0 := le_up 0 l1x1
  have l1x1d1 := le_up 1 l1x1
  simp only [upN] at l1x1d0 l1x1d1
  have c1x2 := O1.cell 2 rfl
  have f1x2 := O1.free 2 rfl
  have l1x2 := O1.lt 2 rfl
  have l1x2d0 := le_up 0 l1x2
  have l1x2d1 := le_up 1 l1x2
  simp only [upN] at l1x2d0 l1x2d1
  have c1x3 := O1.cell 3 rfl
  have f1x3 := O1.free 3 rfl
  have l1x3 := O1.lt 3 rfl
  have l1x3d0 := le_up 0 l1x3
  have l1x3d1 := le_up 1 l1x3
  simp only [upN] at l1x3d0 l1x3d1
  have HO1 := Lib.hid O1
  clear O1 hb1
  go_wp2_with fail
  refine (HR2.out _).mono ?_
  rintro e w2 ⟨rfl, hb2⟩
  have O2 := Own.grow' hb2 HO1.out
  try simp only [List.setIfInBounds_toArray, List.set_cons_zero, List.set_cons_succ] at O2
  have bw2 : Below w.heap.size w w2 := Below.trans (by go_grown) (Below.mono hb2 (by first | omega | (simp; done) | (simp; omega)))
  have zw2 := Below.size hb2
  try simp only [World.size_alloc, World.size_drew, World.size_setCell] at zw2
  clear c1x0 f1x0 l1x0 l1x0d0 l1x0d1 c1x1 f1x1 l1x1 l1x1d0 l1x1d1 c1x2 f1x2 l1x2 l1x2d0 l1x2d1 c1x3 f1x3 l1x3 l1x3d0 l1x3d1
  have c2x0 := O2.cell 0 rfl
  have f2x0 := O2.free 0 rfl
  have l2x0 := O2.lt 0 rfl
  have l2x0d0 := le_up 0 l2x0
  have l2x0d1 := le_up 1 l2x0
  simp only [upN] at l2x0d0 l2x0d1
  have c2x1 := O2.cell 1 rfl
  have f2x1 := O2.free 1 rfl
  have l2x1 := O2.lt 1 rfl
  have l2x1d0 := le_up 0 l2x1
  have l2x1d1 := le_up 1 l2x1
  simp only [upN] at l2x1d0 l2x1d1
  have c2x2 := O2.cell 2 rfl
  have f2x2 := O2.free 2 rfl
  have l2x2 := O2.lt 2 rfl
  have l2x2d0 := le_up 0 l2x2
  have l2x2d1 := le_up 1 l2x2
  simp only [upN] at l2x2d0 l2x2d1
  have c2x3 := O2.cell 3 rfl
  have f2x3 := O2.free 3 rfl
  have l2x3 := O2.lt 3 rfl
  have l2x3d0 := le_up 0 l2x3
  have l2x3d1 := le_up 1 l2x3
  simp only [upN] at l2x3d0 l2x3d1
  have HO2 := Lib.hid O2
  clear O2 hb2
  go_wp2_with fail
  refine bodyPost_ret (v := .tuple #[.agg #[.int .u64 0, .int .u64 0, .int .u64 0, .int .u64 0], .agg #[.int .u64 0, .int .u64 0, .int .u64 0, .int .u64 0], .int .i64 2]) (by simp [results, Try.results10, go_sem, *]) rfl ?_
  exact ⟨rfl, by go_grown⟩

end Go.Proofs.Ytjmplababaejaaa
