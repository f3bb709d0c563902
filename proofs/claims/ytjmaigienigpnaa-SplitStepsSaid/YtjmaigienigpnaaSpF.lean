/- What is left of sums by the document. No condition. -/
import Derived.Test.YtjmaigienigpnaaSpE
set_option linter.unusedVariables false
set_option linter.unusedSimpArgs false
namespace Go.Proofs.Ytjmaigienigpnaa
open Go.RowKit

set_option maxRecDepth 20000 in
set_option maxHeartbeats 2000000 in
theorem refbelow_t1 (a b m : BitVec 256) (w : World)  (h1 : (a + b).toNat < (a).toNat) : Calls Try.prog 34 #[W a, W b, W m] w fun e w' => e = .returned (W (a + b - m)) ∧ Below w.heap.size w w' := by
  have HA := Lib.hid (fun V => refAddW a b V)
  have hn1 := ordW_neg (a + b) (a)
  have HRO1 := Lib.hid (fun V => refOrderW (a + b) (a) V)
  have HSB := Lib.hid (fun V => refSubW (a + b) m V)
  rw [decide_eq_true h1] at hn1
  generalize ordW (a + b) (a) = od1 at *
  clear h1
  go_enter Try.func34, Try.ntmps34
  go_wp2_with fail
  refine (HA.out _).mono ?_
  rintro e w1 ⟨rfl, hb1⟩
  have O1 := Own.grow' hb1 (Own.new (Own.new (Own.new (Own.new (Own.nil w) (w.heap.size) (by first | rfl | simp)) (w.heap.size + 1) (by simp)) (w.heap.size + 1 + 1) (by simp)) (w.heap.size + 1 + 1 + 1) (by simp))
  try simp only [List.setIfInBounds_toArray, List.set_cons_zero, List.set_cons_succ] at O1
  have bw1 : Below w.heap.size w w1 := Below.trans (by go_grown) (Below.mono hb1 (by first | omega | (simp; done) | (simp; omega)))
  have zw1 := Below.size hb1
  try simp only [World.size_alloc, World.size_drew, World.size_setCell] at zw1
  have c1x0 := Own.cell O1 0 rfl
  have f1x0 := Own.free O1 0 rfl
  have l1x0 := Own.lt O1 0 rfl
  have l1x0d0 := le_up 0 l1x0
  have l1x0d1 := le_up 1 l1x0
  simp only [upN] at l1x0d0 l1x0d1
  have c1x1 := Own.cell O1 1 rfl
  have f1x1 := Own.free O1 1 rfl
  have l1x1 := Own.lt O1 1 rfl
  have l1x1d0 := le_up 0 l1x1
  have l1x1d1 := le_up 1 l1x1
  simp only [upN] at l1x1d0 l1x1d1
  have c1x2 := Own.cell O1 2 rfl
  have f1x2 := Own.free O1 2 rfl
  have l1x2 := Own.lt O1 2 rfl
  have l1x2d0 := le_up 0 l1x2
  have l1x2d1 := le_up 1 l1x2
  simp only [upN] at l1x2d0 l1x2d1
  have c1x3 := Own.cell O1 3 rfl
  have f1x3 := Own.free O1 3 rfl
  have l1x3 := Own.lt O1 3 rfl
  have l1x3d0 := le_up 0 l1x3
  have l1x3d1 := le_up 1 l1x3
  simp only [upN] at l1x3d0 l1x3d1
  have HO1 := Lib.hid O1
  clear O1 hb1
  go_wp2_with fail
  refine (HRO1.out _).mono ?_
  rintro e w2 ⟨rfl, hb2⟩
  have O2 := Own.grow' hb2 (Own.new HO1.out (w1.heap.size) (by first | rfl | simp))
  try simp only [List.setIfInBounds_toArray, List.set_cons_zero, List.set_cons_succ] at O2
  have bw2 : Below w.heap.size w w2 := Below.trans (by go_grown) (Below.mono hb2 (by first | omega | (simp; done) | (simp; omega)))
  have zw2 := Below.size hb2
  try simp only [World.size_alloc, World.size_drew, World.size_setCell] at zw2
  clear c1x0 f1x0 l1x0 l1x0d0 l1x0d1 c1x1 f1x1 l1x1 l1x1d0 l1x1d1 c1x2 f1x2 l1x2 l1x2d0 l1x2d1 c1x3 f1x3 l1x3 l1x3d0 l1x3d1
  have c2x0 := Own.cell O2 0 rfl
  have f2x0 := Own.free O2 0 rfl
  have l2x0 := Own.lt O2 0 rfl
  have l2x0d0 := le_up 0 l2x0
  have l2x0d1 := le_up 1 l2x0
  simp only [upN] at l2x0d0 l2x0d1
  have c2x1 := Own.cell O2 1 rfl
  have f2x1 := Own.free O2 1 rfl
  have l2x1 := Own.lt O2 1 rfl
  have l2x1d0 := le_up 0 l2x1
  have l2x1d1 := le_up 1 l2x1
  simp only [upN] at l2x1d0 l2x1d1
  have c2x2 := Own.cell O2 2 rfl
  have f2x2 := Own.free O2 2 rfl
  have l2x2 := Own.lt O2 2 rfl
  have l2x2d0 := le_up 0 l2x2
  have l2x2d1 := le_up 1 l2x2
  simp only [upN] at l2x2d0 l2x2d1
  have c2x3 := Own.cell O2 3 rfl
  have f2x3 := Own.free O2 3 rfl
  have l2x3 := Own.lt O2 3 rfl
  have l2x3d0 := le_up 0 l2x3
  have l2x3d1 := le_up 1 l2x3
  simp only [upN] at l2x3d0 l2x3d1
  have c2x4 := Own.cell O2 4 rfl
  have f2x4 := Own.free O2 4 rfl
  have l2x4 := Own.lt O2 4 rfl
  have l2x4d0 := le_up 0 l2x4
  have l2x4d1 := le_up 1 l2x4
  simp only [upN] at l2x4d0 l2x4d1
  have HO2 := Lib.hid O2
  clear O2 hb2
  go_wp2_with fail
  refine (HSB.out _).mono ?_
  rintro e w3 ⟨rfl, hb3⟩
  have O3 := Own.grow' hb3 HO2.out
  try simp only [List.setIfInBounds_toArray, List.set_cons_zero, List.set_cons_succ] at O3
  have bw3 : Below w.heap.size w w3 := Below.trans (by go_grown) (Below.mono hb3 (by first | omega | (simp; done) | (simp; omega)))
  have zw3 := Below.size hb3
  try simp only [World.size_alloc, World.size_drew, World.size_setCell] at zw3
  clear c2x0 f2x0 l2x0 l2x0d0 l2x0d1 c2x1 f2x1 l2x1 l2x1d0 l2x1d1 c2x2 f2x2 l2x2 l2x2d0 l2x2d1 c2x3 f2x3 l2x3 l2x3d0 l2x3d1 c2x4 f2x4 l2x4 l2x4d0 l2x4d1
  have c3x0 := Own.cell O3 0 rfl
  have f3x0 := Own.free O3 0 rfl
  have l3x0 := Own.lt O3 0 rfl
  have l3x0d0 := le_up 0 l3x0
  have l3x0d1 := le_up 1 l3x0
  simp only [upN] at l3x0d0 l3x0d1
  have c3x1 := Own.cell O3 1 rfl
  have f3x1 := Own.free O3 1 rfl
  have l3x1 := Own.lt O3 1 rfl
  have l3x1d0 := le_up 0 l3x1
  have l3x1d1 := le_up 1 l3x1
  simp only [upN] at l3x1d0 l3x1d1
  have c3x2 := Own.cell O3 2 rfl
  have f3x2 := Own.free O3 2 rfl
  have l3x2 := Own.lt O3 2 rfl
  have l3x2d0 := le_up 0 l3x2
  have l3x2d1 := le_up 1 l3x2
  simp only [upN] at l3x2d0 l3x2d1
  have c3x3 := Own.cell O3 3 rfl
  have f3x3 := Own.free O3 3 rfl
  have l3x3 := Own.lt O3 3 rfl
  have l3x3d0 := le_up 0 l3x3
  have l3x3d1 := le_up 1 l3x3
  simp only [upN] at l3x3d0 l3x3d1
  have c3x4 := Own.cell O3 4 rfl
  have f3x4 := Own.free O3 4 rfl
  have l3x4 := Own.lt O3 4 rfl
  have l3x4d0 := le_up 0 l3x4
  have l3x4d1 := le_up 1 l3x4
  simp only [upN] at l3x4d0 l3x4d1
  have HO3 := Lib.hid O3
  clear O3 hb3
  go_upto_region 4 with (fail)
  refine wp_name fun wn4 hwn4 => ?_
  have hOwn4 := (show Own _ wn4 by rw [hwn4]; exact (Own.set (Own.set (Own.set (Own.set HO3.out 0 rfl (Ne1.cons (by first | omega | (simp; omega)) (Ne1.cons (by first | omega | (simp; omega)) (Ne1.cons (by first | omega | (simp; omega)) (Ne1.cons (by first | omega | (simp; omega)) Ne1.nil))))) 0 rfl (Ne1.cons (by first | omega | (simp; omega)) (Ne1.cons (by first | omega | (simp; omega)) (Ne1.cons (by first | omega | (simp; omega)) (Ne1.cons (by first | omega | (simp; omega)) Ne1.nil))))) 0 rfl (Ne1.cons (by first | omega | (simp; omega)) (Ne1.cons (by first | omega | (simp; omega)) (Ne1.cons (by first | omega | (simp; omega)) (Ne1.cons (by first | omega | (simp; omega)) Ne1.nil))))) 0 rfl (Ne1.cons (by first | omega | (simp; omega)) (Ne1.cons (by first | omega | (simp; omega)) (Ne1.cons (by first | omega | (simp; omega)) (Ne1.cons (by first | omega | (simp; omega)) Ne1.nil))))))
  try simp only [List.setIfInBounds_toArray, List.set_cons_zero, List.set_cons_succ] at hOwn4
  have hBwn4 : Below w.heap.size w wn4 := by rw [hwn4]; go_grown
  clear hwn4
  have bw4 := hBwn4
  clear c3x0 f3x0 l3x0 l3x0d0 l3x0d1 c3x1 f3x1 l3x1 l3x1d0 l3x1d1 c3x2 f3x2 l3x2 l3x2d0 l3x2d1 c3x3 f3x3 l3x3 l3x3d0 l3x3d1 c3x4 f3x4 l3x4 l3x4d0 l3x4d1
  have O4 := hOwn4
  have c4x0 := Own.cell O4 0 rfl
  have f4x0 := Own.free O4 0 rfl
  have l4x0 := Own.lt O4 0 rfl
  have l4x0d0 := le_up 0 l4x0
  have l4x0d1 := le_up 1 l4x0
  simp only [upN] at l4x0d0 l4x0d1
  have c4x1 := Own.cell O4 1 rfl
  have f4x1 := Own.free O4 1 rfl
  have l4x1 := Own.lt O4 1 rfl
  have l4x1d0 := le_up 0 l4x1
  have l4x1d1 := le_up 1 l4x1
  simp only [upN] at l4x1d0 l4x1d1
  have c4x2 := Own.cell O4 2 rfl
  have f4x2 := Own.free O4 2 rfl
  have l4x2 := Own.lt O4 2 rfl
  have l4x2d0 := le_up 0 l4x2
  have l4x2d1 := le_up 1 l4x2
  simp only [upN] at l4x2d0 l4x2d1
  have c4x3 := Own.cell O4 3 rfl
  have f4x3 := Own.free O4 3 rfl
  have l4x3 := Own.lt O4 3 rfl
  have l4x3d0 := le_up 0 l4x3
  have l4x3d1 := le_up 1 l4x3
  simp only [upN] at l4x3d0 l4x3d1
  have c4x4 := Own.cell O4 4 rfl
  have f4x4 := Own.free O4 4 rfl
  have l4x4 := Own.lt O4 4 rfl
  have l4x4d0 := le_up 0 l4x4
  have l4x4d1 := le_up 1 l4x4
  simp only [upN] at l4x4d0 l4x4d1
  have HO4 := Lib.hid O4
  clear O4
  go_wp2_with fail
  refine bodyPost_ret (v := W (a + b - m)) (by simp [results, Try.results34, go_sem, *]) rfl ?_
  exact ⟨rfl, by go_grown⟩
set_option maxRecDepth 20000 in
set_option maxHeartbeats 2000000 in
theorem refbelow_t2 (a b m : BitVec 256) (w : World)  (h1 : ¬ (a + b).toNat < (a).toNat) (h2 : m.toNat ≤ (a + b).toNat) : Calls Try.prog 34 #[W a, W b, W m] w fun e w' => e = .returned (W (a + b - m)) ∧ Below w.heap.size w w' := by
  have HA := Lib.hid (fun V => refAddW a b V)
  have hn1 := ordW_neg (a + b) (a)
  have HRO1 := Lib.hid (fun V => refOrderW (a + b) (a) V)
  have hn2 := ordW_ge (a + b) m
  have HRO2 := Lib.hid (fun V => refOrderW (a + b) m V)
  have HSB := Lib.hid (fun V => refSubW (a + b) m V)
  rw [decide_eq_false h1] at hn1
  rw [decide_eq_true h2] at hn2
  generalize ordW (a + b) (a) = od1 at *
  generalize ordW (a + b) m = od2 at *
  clear h1
  clear h2
  go_enter Try.func34, Try.ntmps34
  go_wp2_with fail
  refine (HA.out _).mono ?_
  rintro e w1 ⟨rfl, hb1⟩
  have O1 := Own.grow' hb1 (Own.new (Own.new (Own.new (Own.new (Own.nil w) (w.heap.size) (by first | rfl | simp)) (w.heap.size + 1) (by simp)) (w.heap.size + 1 + 1) (by simp)) (w.heap.size + 1 + 1 + 1) (by simp))
  try simp only [List.setIfInBounds_toArray, List.set_cons_zero, List.set_cons_succ] at O1
  have bw1 : Below w.heap.size w w1 := Below.trans (by go_grown) (Below.mono hb1 (by first | omega | (simp; done) | (simp; omega)))
  have zw1 := Below.size hb1
  try simp only [World.size_alloc, World.size_drew, World.size_setCell] at zw1
  have c1x0 := Own.cell O1 0 rfl
  have f1x0 := Own.free O1 0 rfl
  have l1x0 := Own.lt O1 0 rfl
  have l1x0d0 := le_up 0 l1x0
  have l1x0d1 := le_up 1 l1x0
  simp only [upN] at l1x0d0 l1x0d1
  have c1x1 := Own.cell O1 1 rfl
  have f1x1 := Own.free O1 1 rfl
  have l1x1 := Own.lt O1 1 rfl
  have l1x1d0 := le_up 0 l1x1
  have l1x1d1 := le_up 1 l1x1
  simp only [upN] at l1x1d0 l1x1d1
  have c1x2 := Own.cell O1 2 rfl
  have f1x2 := Own.free O1 2 rfl
  have l1x2 := Own.lt O1 2 rfl
  have l1x2d0 := le_up 0 l1x2
  have l1x2d1 := le_up 1 l1x2
  simp only [upN] at l1x2d0 l1x2d1
  have c1x3 := Own.cell O1 3 rfl
  have f1x3 := Own.free O1 3 rfl
  have l1x3 := Own.lt O1 3 rfl
  have l1x3d0 := le_up 0 l1x3
  have l1x3d1 := le_up 1 l1x3
  simp only [upN] at l1x3d0 l1x3d1
  have HO1 := Lib.hid O1
  clear O1 hb1
  go_wp2_with fail
  refine (HRO1.out _).mono ?_
  rintro e w2 ⟨rfl, hb2⟩
  have O2 := Own.grow' hb2 (Own.new HO1.out (w1.heap.size) (by first | rfl | simp))
  try simp only [List.setIfInBounds_toArray, List.set_cons_zero, List.set_cons_succ] at O2
  have bw2 : Below w.heap.size w w2 := Below.trans (by go_grown) (Below.mono hb2 (by first | omega | (simp; done) | (simp; omega)))
  have zw2 := Below.size hb2
  try simp only [World.size_alloc, World.size_drew, World.size_setCell] at zw2
  clear c1x0 f1x0 l1x0 l1x0d0 l1x0d1 c1x1 f1x1 l1x1 l1x1d0 l1x1d1 c1x2 f1x2 l1x2 l1x2d0 l1x2d1 c1x3 f1x3 l1x3 l1x3d0 l1x3d1
  have c2x0 := Own.cell O2 0 rfl
  have f2x0 := Own.free O2 0 rfl
  have l2x0 := Own.lt O2 0 rfl
  have l2x0d0 := le_up 0 l2x0
  have l2x0d1 := le_up 1 l2x0
  simp only [upN] at l2x0d0 l2x0d1
  have c2x1 := Own.cell O2 1 rfl
  have f2x1 := Own.free O2 1 rfl
  have l2x1 := Own.lt O2 1 rfl
  have l2x1d0 := le_up 0 l2x1
  have l2x1d1 := le_up 1 l2x1
  simp only [upN] at l2x1d0 l2x1d1
  have c2x2 := Own.cell O2 2 rfl
  have f2x2 := Own.free O2 2 rfl
  have l2x2 := Own.lt O2 2 rfl
  have l2x2d0 := le_up 0 l2x2
  have l2x2d1 := le_up 1 l2x2
  simp only [upN] at l2x2d0 l2x2d1
  have c2x3 := Own.cell O2 3 rfl
  have f2x3 := Own.free O2 3 rfl
  have l2x3 := Own.lt O2 3 rfl
  have l2x3d0 := le_up 0 l2x3
  have l2x3d1 := le_up 1 l2x3
  simp only [upN] at l2x3d0 l2x3d1
  have c2x4 := Own.cell O2 4 rfl
  have f2x4 := Own.free O2 4 rfl
  have l2x4 := Own.lt O2 4 rfl
  have l2x4d0 := le_up 0 l2x4
  have l2x4d1 := le_up 1 l2x4
  simp only [upN] at l2x4d0 l2x4d1
  have HO2 := Lib.hid O2
  clear O2 hb2
  go_wp2_with fail
  refine (HRO2.out _).mono ?_
  rintro e w3 ⟨rfl, hb3⟩
  have O3 := Own.grow' hb3 HO2.out
  try simp only [List.setIfInBounds_toArray, List.set_cons_zero, List.set_cons_succ] at O3
  have bw3 : Below w.heap.size w w3 := Below.trans (by go_grown) (Below.mono hb3 (by first | omega | (simp; done) | (simp; omega)))
  have zw3 := Below.size hb3
  try simp only [World.size_alloc, World.size_drew, World.size_setCell] at zw3
  clear c2x0 f2x0 l2x0 l2x0d0 l2x0d1 c2x1 f2x1 l2x1 l2x1d0 l2x1d1 c2x2 f2x2 l2x2 l2x2d0 l2x2d1 c2x3 f2x3 l2x3 l2x3d0 l2x3d1 c2x4 f2x4 l2x4 l2x4d0 l2x4d1
  have c3x0 := Own.cell O3 0 rfl
  have f3x0 := Own.free O3 0 rfl
  have l3x0 := Own.lt O3 0 rfl
  have l3x0d0 := le_up 0 l3x0
  have l3x0d1 := le_up 1 l3x0
  simp only [upN] at l3x0d0 l3x0d1
  have c3x1 := Own.cell O3 1 rfl
  have f3x1 := Own.free O3 1 rfl
  have l3x1 := Own.lt O3 1 rfl
  have l3x1d0 := le_up 0 l3x1
  have l3x1d1 := le_up 1 l3x1
  simp only [upN] at l3x1d0 l3x1d1
  have c3x2 := Own.cell O3 2 rfl
  have f3x2 := Own.free O3 2 rfl
  have l3x2 := Own.lt O3 2 rfl
  have l3x2d0 := le_up 0 l3x2
  have l3x2d1 := le_up 1 l3x2
  simp only [upN] at l3x2d0 l3x2d1
  have c3x3 := Own.cell O3 3 rfl
  have f3x3 := Own.free O3 3 rfl
  have l3x3 := Own.lt O3 3 rfl
  have l3x3d0 := le_up 0 l3x3
  have l3x3d1 := le_up 1 l3x3
  simp only [upN] at l3x3d0 l3x3d1
  have c3x4 := Own.cell O3 4 rfl
  have f3x4 := Own.free O3 4 rfl
  have l3x4 := Own.lt O3 4 rfl
  have l3x4d0 := le_up 0 l3x4
  have l3x4d1 := le_up 1 l3x4
  simp only [upN] at l3x4d0 l3x4d1
  have HO3 := Lib.hid O3
  clear O3 hb3
  go_wp2_with fail
  refine (HSB.out _).mono ?_
  rintro e w4 ⟨rfl, hb4⟩
  have O4 := Own.grow' hb4 HO3.out
  try simp only [List.setIfInBounds_toArray, List.set_cons_zero, List.set_cons_succ] at O4
  have bw4 : Below w.heap.size w w4 := Below.trans (by go_grown) (Below.mono hb4 (by first | omega | (simp; done) | (simp; omega)))
  have zw4 := Below.size hb4
  try simp only [World.size_alloc, World.size_drew, World.size_setCell] at zw4
  clear c3x0 f3x0 l3x0 l3x0d0 l3x0d1 c3x1 f3x1 l3x1 l3x1d0 l3x1d1 c3x2 f3x2 l3x2 l3x2d0 l3x2d1 c3x3 f3x3 l3x3 l3x3d0 l3x3d1 c3x4 f3x4 l3x4 l3x4d0 l3x4d1
  have c4x0 := Own.cell O4 0 rfl
  have f4x0 := Own.free O4 0 rfl
  have l4x0 := Own.lt O4 0 rfl
  have l4x0d0 := le_up 0 l4x0
  have l4x0d1 := le_up 1 l4x0
  simp only [upN] at l4x0d0 l4x0d1
  have c4x1 := Own.cell O4 1 rfl
  have f4x1 := Own.free O4 1 rfl
  have l4x1 := Own.lt O4 1 rfl
  have l4x1d0 := le_up 0 l4x1
  have l4x1d1 := le_up 1 l4x1
  simp only [upN] at l4x1d0 l4x1d1
  have c4x2 := Own.cell O4 2 rfl
  have f4x2 := Own.free O4 2 rfl
  have l4x2 := Own.lt O4 2 rfl
  have l4x2d0 := le_up 0 l4x2
  have l4x2d1 := le_up 1 l4x2
  simp only [upN] at l4x2d0 l4x2d1
  have c4x3 := Own.cell O4 3 rfl
  have f4x3 := Own.free O4 3 rfl
  have l4x3 := Own.lt O4 3 rfl
  have l4x3d0 := le_up 0 l4x3
  have l4x3d1 := le_up 1 l4x3
  simp only [upN] at l4x3d0 l4x3d1
  have c4x4 := Own.cell O4 4 rfl
  have f4x4 := Own.free O4 4 rfl
  have l4x4 := Own.lt O4 4 rfl
  have l4x4d0 := le_up 0 l4x4
  have l4x4d1 := le_up 1 l4x4
  simp only [upN] at l4x4d0 l4x4d1
  have HO4 := Lib.hid O4
  clear O4 hb4
  go_upto_region 4 with (fail)
  refine wp_name fun wn4 hwn4 => ?_
  have hOwn4 := (show Own _ wn4 by rw [hwn4]; exact (Own.set (Own.set (Own.set (Own.set HO4.out 0 rfl (Ne1.cons (by first | omega | (simp; omega)) (Ne1.cons (by first | omega | (simp; omega)) (Ne1.cons (by first | omega | (simp; omega)) (Ne1.cons (by first | omega | (simp; omega)) Ne1.nil))))) 0 rfl (Ne1.cons (by first | omega | (simp; omega)) (Ne1.cons (by first | omega | (simp; omega)) (Ne1.cons (by first | omega | (simp; omega)) (Ne1.cons (by first | omega | (simp; omega)) Ne1.nil))))) 0 rfl (Ne1.cons (by first | omega | (simp; omega)) (Ne1.cons (by first | omega | (simp; omega)) (Ne1.cons (by first | omega | (simp; omega)) (Ne1.cons (by first | omega | (simp; omega)) Ne1.nil))))) 0 rfl (Ne1.cons (by first | omega | (simp; omega)) (Ne1.cons (by first | omega | (simp; omega)) (Ne1.cons (by first | omega | (simp; omega)) (Ne1.cons (by first | omega | (simp; omega)) Ne1.nil))))))
  try simp only [List.setIfInBounds_toArray, List.set_cons_zero, List.set_cons_succ] at hOwn4
  have hBwn4 : Below w.heap.size w wn4 := by rw [hwn4]; go_grown
  clear hwn4
  have bw5 := hBwn4
  clear c4x0 f4x0 l4x0 l4x0d0 l4x0d1 c4x1 f4x1 l4x1 l4x1d0 l4x1d1 c4x2 f4x2 l4x2 l4x2d0 l4x2d1 c4x3 f4x3 l4x3 l4x3d0 l4x3d1 c4x4 f4x4 l4x4 l4x4d0 l4x4d1
  have O5 := hOwn4
  have c5x0 := Own.cell O5 0 rfl
  have f5x0 := Own.free O5 0 rfl
  have l5x0 := Own.lt O5 0 rfl
  have l5x0d0 := le_up 0 l5x0
  have l5x0d1 := le_up 1 l5x0
  simp only [upN] at l5x0d0 l5x0d1
  have c5x1 := Own.cell O5 1 rfl
  have f5x1 := Own.free O5 1 rfl
  have l5x1 := Own.lt O5 1 rfl
  have l5x1d0 := le_up 0 l5x1
  have l5x1d1 := le_up 1 l5x1
  simp only [upN] at l5x1d0 l5x1d1
  have c5x2 := Own.cell O5 2 rfl
  have f5x2 := Own.free O5 2 rfl
  have l5x2 := Own.lt O5 2 rfl
  have l5x2d0 := le_up 0 l5x2
  have l5x2d1 := le_up 1 l5x2
  simp only [upN] at l5x2d0 l5x2d1
  have c5x3 := Own.cell O5 3 rfl
  have f5x3 := Own.free O5 3 rfl
  have l5x3 := Own.lt O5 3 rfl
  have l5x3d0 := le_up 0 l5x3
  have l5x3d1 := le_up 1 l5x3
  simp only [upN] at l5x3d0 l5x3d1
  have c5x4 := Own.cell O5 4 rfl
  have f5x4 := Own.free O5 4 rfl
  have l5x4 := Own.lt O5 4 rfl
  have l5x4d0 := le_up 0 l5x4
  have l5x4d1 := le_up 1 l5x4
  simp only [upN] at l5x4d0 l5x4d1
  have HO5 := Lib.hid O5
  clear O5
  go_wp2_with fail
  refine bodyPost_ret (v := W (a + b - m)) (by simp [results, Try.results34, go_sem, *]) rfl ?_
  exact ⟨rfl, by go_grown⟩
set_option maxRecDepth 20000 in
set_option maxHeartbeats 2000000 in
theorem refbelow_f (a b m : BitVec 256) (w : World)  (h1 : ¬ (a + b).toNat < (a).toNat) (h2 : ¬ m.toNat ≤ (a + b).toNat) : Calls Try.prog 34 #[W a, W b, W m] w fun e w' => e = .returned (W (a + b)) ∧ Below w.heap.size w w' := by
  have HA := Lib.hid (fun V => refAddW a b V)
  have hn1 := ordW_neg (a + b) (a)
  have HRO1 := Lib.hid (fun V => refOrderW (a + b) (a) V)
  have hn2 := ordW_ge (a + b) m
  have HRO2 := Lib.hid (fun V => refOrderW (a + b) m V)
  rw [decide_eq_false h1] at hn1
  rw [decide_eq_false h2] at hn2
  generalize ordW (a + b) (a) = od1 at *
  generalize ordW (a + b) m = od2 at *
  clear h1
  clear h2
  go_enter Try.func34, Try.ntmps34
  go_wp2_with fail
  refine (HA.out _).mono ?_
  rintro e w1 ⟨rfl, hb1⟩
  have O1 := Own.grow' hb1 (Own.new (Own.new (Own.new (Own.new (Own.nil w) (w.heap.size) (by first | rfl | simp)) (w.heap.size + 1) (by simp)) (w.heap.size + 1 + 1) (by simp)) (w.heap.size + 1 + 1 + 1) (by simp))
  try simp only [List.setIfInBounds_toArray, List.set_cons_zero, List.set_cons_succ] at O1
  have bw1 : Below w.heap.size w w1 := Below.trans (by go_grown) (Below.mono hb1 (by first | omega | (simp; done) | (simp; omega)))
  have zw1 := Below.size hb1
  try simp only [World.size_alloc, World.size_drew, World.size_setCell] at zw1
  have c1x0 := Own.cell O1 0 rfl
  have f1x0 := Own.free O1 0 rfl
  have l1x0 := Own.lt O1 0 rfl
  have l1x0d0 := le_up 0 l1x0
  have l1x0d1 := le_up 1 l1x0
  simp only [upN] at l1x0d0 l1x0d1
  have c1x1 := Own.cell O1 1 rfl
  have f1x1 := Own.free O1 1 rfl
  have l1x1 := Own.lt O1 1 rfl
  have l1x1d0 := le_up 0 l1x1
  have l1x1d1 := le_up 1 l1x1
  simp only [upN] at l1x1d0 l1x1d1
  have c1x2 := Own.cell O1 2 rfl
  have f1x2 := Own.free O1 2 rfl
  have l1x2 := Own.lt O1 2 rfl
  have l1x2d0 := le_up 0 l1x2
  have l1x2d1 := le_up 1 l1x2
  simp only [upN] at l1x2d0 l1x2d1
  have c1x3 := Own.cell O1 3 rfl
  have f1x3 := Own.free O1 3 rfl
  have l1x3 := Own.lt O1 3 rfl
  have l1x3d0 := le_up 0 l1x3
  have l1x3d1 := le_up 1 l1x3
  simp only [upN] at l1x3d0 l1x3d1
  have HO1 := Lib.hid O1
  clear O1 hb1
  go_wp2_with fail
  refine (HRO1.out _).mono ?_
  rintro e w2 ⟨rfl, hb2⟩
  have O2 := Own.grow' hb2 (Own.new HO1.out (w1.heap.size) (by first | rfl | simp))
  try simp only [List.setIfInBounds_toArray, List.set_cons_zero, List.set_cons_succ] at O2
  have bw2 : Below w.heap.size w w2 := Below.trans (by go_grown) (Below.mono hb2 (by first | omega | (simp; done) | (simp; omega)))
  have zw2 := Below.size hb2
  try simp only [World.size_alloc, World.size_drew, World.size_setCell] at zw2
  clear c1x0 f1x0 l1x0 l1x0d0 l1x0d1 c1x1 f1x1 l1x1 l1x1d0 l1x1d1 c1x2 f1x2 l1x2 l1x2d0 l1x2d1 c1x3 f1x3 l1x3 l1x3d0 l1x3d1
  have c2x0 := Own.cell O2 0 rfl
  have f2x0 := Own.free O2 0 rfl
  have l2x0 := Own.lt O2 0 rfl
  have l2x0d0 := le_up 0 l2x0
  have l2x0d1 := le_up 1 l2x0
  simp only [upN] at l2x0d0 l2x0d1
  have c2x1 := Own.cell O2 1 rfl
  have f2x1 := Own.free O2 1 rfl
  have l2x1 := Own.lt O2 1 rfl
  have l2x1d0 := le_up 0 l2x1
  have l2x1d1 := le_up 1 l2x1
  simp only [upN] at l2x1d0 l2x1d1
  have c2x2 := Own.cell O2 2 rfl
  have f2x2 := Own.free O2 2 rfl
  have l2x2 := Own.lt O2 2 rfl
  have l2x2d0 := le_up 0 l2x2
  have l2x2d1 := le_up 1 l2x2
  simp only [upN] at l2x2d0 l2x2d1
  have c2x3 := Own.cell O2 3 rfl
  have f2x3 := Own.free O2 3 rfl
  have l2x3 := Own.lt O2 3 rfl
  have l2x3d0 := le_up 0 l2x3
  have l2x3d1 := le_up 1 l2x3
  simp only [upN] at l2x3d0 l2x3d1
  have c2x4 := Own.cell O2 4 rfl
  have f2x4 := Own.free O2 4 rfl
  have l2x4 := Own.lt O2 4 rfl
  have l2x4d0 := le_up 0 l2x4
  have l2x4d1 := le_up 1 l2x4
  simp only [upN] at l2x4d0 l2x4d1
  have HO2 := Lib.hid O2
  clear O2 hb2
  go_wp2_with fail
  refine (HRO2.out _).mono ?_
  rintro e w3 ⟨rfl, hb3⟩
  have O3 := Own.grow' hb3 HO2.out
  try simp only [List.setIfInBounds_toArray, List.set_cons_zero, List.set_cons_succ] at O3
  have bw3 : Below w.heap.size w w3 := Below.trans (by go_grown) (Below.mono hb3 (by first | omega | (simp; done) | (simp; omega)))
  have zw3 := Below.size hb3
  try simp only [World.size_alloc, World.size_drew, World.size_setCell] at zw3
  clear c2x0 f2x0 l2x0 l2x0d0 l2x0d1 c2x1 f2x1 l2x1 l2x1d0 l2x1d1 c2x2 f2x2 l2x2 l2x2d0 l2x2d1 c2x3 f2x3 l2x3 l2x3d0 l2x3d1 c2x4 f2x4 l2x4 l2x4d0 l2x4d1
  have c3x0 := Own.cell O3 0 rfl
  have f3x0 := Own.free O3 0 rfl
  have l3x0 := Own.lt O3 0 rfl
  have l3x0d0 := le_up 0 l3x0
  have l3x0d1 := le_up 1 l3x0
  simp only [upN] at l3x0d0 l3x0d1
  have c3x1 := Own.cell O3 1 rfl
  have f3x1 := Own.free O3 1 rfl
  have l3x1 := Own.lt O3 1 rfl
  have l3x1d0 := le_up 0 l3x1
  have l3x1d1 := le_up 1 l3x1
  simp only [upN] at l3x1d0 l3x1d1
  have c3x2 := Own.cell O3 2 rfl
  have f3x2 := Own.free O3 2 rfl
  have l3x2 := Own.lt O3 2 rfl
  have l3x2d0 := le_up 0 l3x2
  have l3x2d1 := le_up 1 l3x2
  simp only [upN] at l3x2d0 l3x2d1
  have c3x3 := Own.cell O3 3 rfl
  have f3x3 := Own.free O3 3 rfl
  have l3x3 := Own.lt O3 3 rfl
  have l3x3d0 := le_up 0 l3x3
  have l3x3d1 := le_up 1 l3x3
  simp only [upN] at l3x3d0 l3x3d1
  have c3x4 := Own.cell O3 4 rfl
  have f3x4 := Own.free O3 4 rfl
  have l3x4 := Own.lt O3 4 rfl
  have l3x4d0 := le_up 0 l3x4
  have l3x4d1 := le_up 1 l3x4
  simp only [upN] at l3x4d0 l3x4d1
  have HO3 := Lib.hid O3
  clear O3 hb3
  go_wp2_with fail
  refine bodyPost_ret (v := W (a + b)) (by simp [results, Try.results34, go_sem, *]) rfl ?_
  exact ⟨rfl, by go_grown⟩
theorem refBelowW (a b m : BitVec 256) (w : World)  : Calls Try.prog 34 #[W a, W b, W m] w fun e w' => e = .returned (W (addM a b m)) ∧ Below w.heap.size w w' := by
  unfold addM
  by_cases h1 : (a + b).toNat < (a).toNat
  · rw [decide_eq_true h1, Bool.true_or, if_pos rfl]; exact refbelow_t1 a b m w  h1
  · rw [decide_eq_false h1, Bool.false_or]
    by_cases h2 : m.toNat ≤ (a + b).toNat
    · rw [decide_eq_true h2, if_pos rfl]; exact refbelow_t2 a b m w  h1 h2
    · rw [decide_eq_false h2, if_neg (by simp)]; exact refbelow_f a b m w  h1 h2
set_option maxRecDepth 20000 in
set_option maxHeartbeats 2000000 in
theorem refaddmod_z (a b : BitVec 256) (w : World)  : Calls Try.prog 9 #[W a, W b, W 0#256] w fun e w' => e = .returned (W 0#256) ∧ Below w.heap.size w w' := by
  have hq := eqZ 0#256
  rw [decide_eq_true rfl] at hq
  rw [W_zero]
  have z0 := L_zero 0
  have z1 := L_zero 1
  have z2 := L_zero 2
  have z3 := L_zero 3
  rw [z0, z1, z2, z3] at hq
  go_enter Try.func9, Try.ntmps9
  go_wp2_with fail
  refine bodyPost_ret (v := .agg #[.int .u64 0, .int .u64 0, .int .u64 0, .int .u64 0]) (by simp [results, Try.results9, go_sem, *]) rfl ?_
  exact ⟨rfl, by go_grown⟩
set_option maxRecDepth 20000 in
set_option maxHeartbeats 2000000 in
theorem refaddmod_t1 (a b m : BitVec 256) (w : World) (h0 : ¬ m = 0#256) (h1 : (a % m + b % m).toNat < (a % m).toNat) : Calls Try.prog 9 #[W a, W b, W m] w fun e w' => e = .returned (W (a % m + b % m - m)) ∧ Below w.heap.size w w' := by
  have hq := eqZ m
  rw [decide_eq_false h0] at hq
  have hm1 : modW a m = a % m := if_neg h0
  have hm2 : modW b m = b % m := if_neg h0
  have hd1 := fun V => refDivideW a m V
  have hd2 := fun V => refDivideW b m V
  rw [hm1] at hd1
  rw [hm2] at hd2
  have HA := Lib.hid (fun V => refAddW (a % m) (b % m) V)
  generalize divW a m = q1 at *
  generalize divW b m = q2 at *
  clear hm1 hm2 h0
  generalize a % m = x at *
  generalize b % m = y at *
  have HD1 := Lib.hid hd1
  have HD2 := Lib.hid hd2
  clear hd1 hd2
  have hn1 := ordW_neg (x + y) (x)
  have HRO1 := Lib.hid (fun V => refOrderW (x + y) (x) V)
  have HSB := Lib.hid (fun V => refSubW (x + y) m V)
  rw [decide_eq_true h1] at hn1
  generalize ordW (x + y) (x) = od1 at *
  clear h1
  go_enter Try.func9, Try.ntmps9
  go_wp2_with fail
  refine (HD1.out _).mono ?_
  rintro e w1 ⟨rfl, hb1⟩
  have O1 := Own.grow' hb1 (Own.new (Own.new (Own.new (Own.new (Own.nil w) (w.heap.size) (by first | rfl | simp)) (w.heap.size + 1) (by simp)) (w.heap.size + 1 + 1) (by simp)) (w.heap.size + 1 + 1 + 1) (by simp))
  try simp only [List.setIfInBounds_toArray, List.set_cons_zero, List.set_cons_succ] at O1
  have bw1 : Below w.heap.size w w1 := Below.trans (by go_grown) (Below.mono hb1 (by first | omega | (simp; done) | (simp; omega)))
  have zw1 := Below.size hb1
  try simp only [World.size_alloc, World.size_drew, World.size_setCell] at zw1
  have c1x0 := Own.cell O1 0 rfl
  have f1x0 := Own.free O1 0 rfl
  have l1x0 := Own.lt O1 0 rfl
  have l1x0d0 := le_up 0 l1x0
  have l1x0d1 := le_up 1 l1x0
  simp only [upN] at l1x0d0 l1x0d1
  have c1x1 := Own.cell O1 1 rfl
  have f1x1 := Own.free O1 1 rfl
  have l1x1 := Own.lt O1 1 rfl
  have l1x1d0 := le_up 0 l1x1
  have l1x1d1 := le_up 1 l1x1
  simp only [upN] at l1x1d0 l1x1d1
  have c1x2 := Own.cell O1 2 rfl
  have f1x2 := Own.free O1 2 rfl
  have l1x2 := Own.lt O1 2 rfl
  have l1x2d0 := le_up 0 l1x2
  have l1x2d1 := le_up 1 l1x2
  simp only [upN] at l1x2d0 l1x2d1
  have c1x3 := Own.cell O1 3 rfl
  have f1x3 := Own.free O1 3 rfl
  have l1x3 := Own.lt O1 3 rfl
  have l1x3d0 := le_up 0 l1x3
  have l1x3d1 := le_up 1 l1x3
  simp only [upN] at l1x3d0 l1x3d1
  have HO1 := Lib.hid O1
  clear O1 hb1
  go_wp2_with fail
  refine (HD2.out _).mono ?_
  rintro e w2 ⟨rfl, hb2⟩
  have O2 := Own.grow' hb2 (Own.new (Own.new HO1.out (w1.heap.size) (by first | rfl | simp)) (w1.heap.size + 1) (by simp))
  try simp only [List.setIfInBounds_toArray, List.set_cons_zero, List.set_cons_succ] at O2
  have bw2 : Below w.heap.size w w2 := Below.trans (by go_grown) (Below.mono hb2 (by first | omega | (simp; done) | (simp; omega)))
  have zw2 := Below.size hb2
  try simp only [World.size_alloc, World.size_drew, World.size_setCell] at zw2
  clear c1x0 f1x0 l1x0 l1x0d0 l1x0d1 c1x1 f1x1 l1x1 l1x1d0 l1x1d1 c1x2 f1x2 l1x2 l1x2d0 l1x2d1 c1x3 f1x3 l1x3 l1x3d0 l1x3d1
  have c2x0 := Own.cell O2 0 rfl
  have f2x0 := Own.free O2 0 rfl
  have l2x0 := Own.lt O2 0 rfl
  have l2x0d0 := le_up 0 l2x0
  have l2x0d1 := le_up 1 l2x0
  simp only [upN] at l2x0d0 l2x0d1
  have c2x1 := Own.cell O2 1 rfl
  have f2x1 := Own.free O2 1 rfl
  have l2x1 := Own.lt O2 1 rfl
  have l2x1d0 := le_up 0 l2x1
  have l2x1d1 := le_up 1 l2x1
  simp only [upN] at l2x1d0 l2x1d1
  have c2x2 := Own.cell O2 2 rfl
  have f2x2 := Own.free O2 2 rfl
  have l2x2 := Own.lt O2 2 rfl
  have l2x2d0 := le_up 0 l2x2
  have l2x2d1 := le_up 1 l2x2
  simp only [upN] at l2x2d0 l2x2d1
  have c2x3 := Own.cell O2 3 rfl
  have f2x3 := Own.free O2 3 rfl
  have l2x3 := Own.lt O2 3 rfl
  have l2x3d0 := le_up 0 l2x3
  have l2x3d1 := le_up 1 l2x3
  simp only [upN] at l2x3d0 l2x3d1
  have c2x4 := Own.cell O2 4 rfl
  have f2x4 := Own.free O2 4 rfl
  have l2x4 := Own.lt O2 4 rfl
  have l2x4d0 := le_up 0 l2x4
  have l2x4d1 := le_up 1 l2x4
  simp only [upN] at l2x4d0 l2x4d1
  have c2x5 := Own.cell O2 5 rfl
  have f2x5 := Own.free O2 5 rfl
  have l2x5 := Own.lt O2 5 rfl
  have l2x5d0 := le_up 0 l2x5
  have l2x5d1 := le_up 1 l2x5
  simp only [upN] at l2x5d0 l2x5d1
  have HO2 := Lib.hid O2
  clear O2 hb2
  go_wp2_with fail
  refine (HA.out _).mono ?_
  rintro e w3 ⟨rfl, hb3⟩
  have O3 := Own.grow' hb3 (Own.new (Own.new HO2.out (w2.heap.size) (by first | rfl | simp)) (w2.heap.size + 1) (by simp))
  try simp only [List.setIfInBounds_toArray, List.set_cons_zero, List.set_cons_succ] at O3
  have bw3 : Below w.heap.size w w3 := Below.trans (by go_grown) (Below.mono hb3 (by first | omega | (simp; done) | (simp; omega)))
  have zw3 := Below.size hb3
  try simp only [World.size_alloc, World.size_drew, World.size_setCell] at zw3
  clear c2x0 f2x0 l2x0 l2x0d0 l2x0d1 c2x1 f2x1 l2x1 l2x1d0 l2x1d1 c2x2 f2x2 l2x2 l2x2d0 l2x2d1 c2x3 f2x3 l2x3 l2x3d0 l2x3d1 c2x4 f2x4 l2x4 l2x4d0 l2x4d1 c2x5 f2x5 l2x5 l2x5d0 l2x5d1
  have c3x0 := Own.cell O3 0 rfl
  have f3x0 := Own.free O3 0 rfl
  have l3x0 := Own.lt O3 0 rfl
  have l3x0d0 := le_up 0 l3x0
  have l3x0d1 := le_up 1 l3x0
  simp only [upN] at l3x0d0 l3x0d1
  have c3x1 := Own.cell O3 1 rfl
  have f3x1 := Own.free O3 1 rfl
  have l3x1 := Own.lt O3 1 rfl
  have l3x1d0 := le_up 0 l3x1
  have l3x1d1 := le_up 1 l3x1
  simp only [upN] at l3x1d0 l3x1d1
  have c3x2 := Own.cell O3 2 rfl
  have f3x2 := Own.free O3 2 rfl
  have l3x2 := Own.lt O3 2 rfl
  have l3x2d0 := le_up 0 l3x2
  have l3x2d1 := le_up 1 l3x2
  simp only [upN] at l3x2d0 l3x2d1
  have c3x3 := Own.cell O3 3 rfl
  have f3x3 := Own.free O3 3 rfl
  have l3x3 := Own.lt O3 3 rfl
  have l3x3d0 := le_up 0 l3x3
  have l3x3d1 := le_up 1 l3x3
  simp only [upN] at l3x3d0 l3x3d1
  have c3x4 := Own.cell O3 4 rfl
  have f3x4 := Own.free O3 4 rfl
  have l3x4 := Own.lt O3 4 rfl
  have l3x4d0 := le_up 0 l3x4
  have l3x4d1 := le_up 1 l3x4
  simp only [upN] at l3x4d0 l3x4d1
  have c3x5 := Own.cell O3 5 rfl
  have f3x5 := Own.free O3 5 rfl
  have l3x5 := Own.lt O3 5 rfl
  have l3x5d0 := le_up 0 l3x5
  have l3x5d1 := le_up 1 l3x5
  simp only [upN] at l3x5d0 l3x5d1
  have c3x6 := Own.cell O3 6 rfl
  have f3x6 := Own.free O3 6 rfl
  have l3x6 := Own.lt O3 6 rfl
  have l3x6d0 := le_up 0 l3x6
  have l3x6d1 := le_up 1 l3x6
  simp only [upN] at l3x6d0 l3x6d1
  have c3x7 := Own.cell O3 7 rfl
  have f3x7 := Own.free O3 7 rfl
  have l3x7 := Own.lt O3 7 rfl
  have l3x7d0 := le_up 0 l3x7
  have l3x7d1 := le_up 1 l3x7
  simp only [upN] at l3x7d0 l3x7d1
  have HO3 := Lib.hid O3
  clear O3 hb3
  go_wp2_with fail
  refine (HRO1.out _).mono ?_
  rintro e w4 ⟨rfl, hb4⟩
  have O4 := Own.grow' hb4 (Own.new HO3.out (w3.heap.size) (by first | rfl | simp))
  try simp only [List.setIfInBounds_toArray, List.set_cons_zero, List.set_cons_succ] at O4
  have bw4 : Below w.heap.size w w4 := Below.trans (by go_grown) (Below.mono hb4 (by first | omega | (simp; done) | (simp; omega)))
  have zw4 := Below.size hb4
  try simp only [World.size_alloc, World.size_drew, World.size_setCell] at zw4
  clear c3x0 f3x0 l3x0 l3x0d0 l3x0d1 c3x1 f3x1 l3x1 l3x1d0 l3x1d1 c3x2 f3x2 l3x2 l3x2d0 l3x2d1 c3x3 f3x3 l3x3 l3x3d0 l3x3d1 c3x4 f3x4 l3x4 l3x4d0 l3x4d1 c3x5 f3x5 l3x5 l3x5d0 l3x5d1 c3x6 f3x6 l3x6 l3x6d0 l3x6d1 c3x7 f3x7 l3x7 l3x7d0 l3x7d1
  have c4x0 := Own.cell O4 0 rfl
  have f4x0 := Own.free O4 0 rfl
  have l4x0 := Own.lt O4 0 rfl
  have l4x0d0 := le_up 0 l4x0
  have l4x0d1 := le_up 1 l4x0
  simp only [upN] at l4x0d0 l4x0d1
  have c4x1 := Own.cell O4 1 rfl
  have f4x1 := Own.free O4 1 rfl
  have l4x1 := Own.lt O4 1 rfl
  have l4x1d0 := le_up 0 l4x1
  have l4x1d1 := le_up 1 l4x1
  simp only [upN] at l4x1d0 l4x1d1
  have c4x2 := Own.cell O4 2 rfl
  have f4x2 := Own.free O4 2 rfl
  have l4x2 := Own.lt O4 2 rfl
  have l4x2d0 := le_up 0 l4x2
  have l4x2d1 := le_up 1 l4x2
  simp only [upN] at l4x2d0 l4x2d1
  have c4x3 := Own.cell O4 3 rfl
  have f4x3 := Own.free O4 3 rfl
  have l4x3 := Own.lt O4 3 rfl
  have l4x3d0 := le_up 0 l4x3
  have l4x3d1 := le_up 1 l4x3
  simp only [upN] at l4x3d0 l4x3d1
  have c4x4 := Own.cell O4 4 rfl
  have f4x4 := Own.free O4 4 rfl
  have l4x4 := Own.lt O4 4 rfl
  have l4x4d0 := le_up 0 l4x4
  have l4x4d1 := le_up 1 l4x4
  simp only [upN] at l4x4d0 l4x4d1
  have c4x5 := Own.cell O4 5 rfl
  have f4x5 := Own.free O4 5 rfl
  have l4x5 := Own.lt O4 5 rfl
  have l4x5d0 := le_up 0 l4x5
  have l4x5d1 := le_up 1 l4x5
  simp only [upN] at l4x5d0 l4x5d1
  have c4x6 := Own.cell O4 6 rfl
  have f4x6 := Own.free O4 6 rfl
  have l4x6 := Own.lt O4 6 rfl
  have l4x6d0 := le_up 0 l4x6
  have l4x6d1 := le_up 1 l4x6
  simp only [upN] at l4x6d0 l4x6d1
  have c4x7 := Own.cell O4 7 rfl
  have f4x7 := Own.free O4 7 rfl
  have l4x7 := Own.lt O4 7 rfl
  have l4x7d0 := le_up 0 l4x7
  have l4x7d1 := le_up 1 l4x7
  simp only [upN] at l4x7d0 l4x7d1
  have c4x8 := Own.cell O4 8 rfl
  have f4x8 := Own.free O4 8 rfl
  have l4x8 := Own.lt O4 8 rfl
  have l4x8d0 := le_up 0 l4x8
  have l4x8d1 := le_up 1 l4x8
  simp only [upN] at l4x8d0 l4x8d1
  have HO4 := Lib.hid O4
  clear O4 hb4
  go_wp2_with fail
  refine (HSB.out _).mono ?_
  rintro e w5 ⟨rfl, hb5⟩
  have O5 := Own.grow' hb5 HO4.out
  try simp only [List.setIfInBounds_toArray, List.set_cons_zero, List.set_cons_succ] at O5
  have bw5 : Below w.heap.size w w5 := Below.trans (by go_grown) (Below.mono hb5 (by first | omega | (simp; done) | (simp; omega)))
  have zw5 := Below.size hb5
  try simp only [World.size_alloc, World.size_drew, World.size_setCell] at zw5
  clear c4x0 f4x0 l4x0 l4x0d0 l4x0d1 c4x1 f4x1 l4x1 l4x1d0 l4x1d1 c4x2 f4x2 l4x2 l4x2d0 l4x2d1 c4x3 f4x3 l4x3 l4x3d0 l4x3d1 c4x4 f4x4 l4x4 l4x4d0 l4x4d1 c4x5 f4x5 l4x5 l4x5d0 l4x5d1 c4x6 f4x6 l4x6 l4x6d0 l4x6d1 c4x7 f4x7 l4x7 l4x7d0 l4x7d1 c4x8 f4x8 l4x8 l4x8d0 l4x8d1
  have c5x0 := Own.cell O5 0 rfl
  have f5x0 := Own.free O5 0 rfl
  have l5x0 := Own.lt O5 0 rfl
  have l5x0d0 := le_up 0 l5x0
  have l5x0d1 := le_up 1 l5x0
  simp only [upN] at l5x0d0 l5x0d1
  have c5x1 := Own.cell O5 1 rfl
  have f5x1 := Own.free O5 1 rfl
  have l5x1 := Own.lt O5 1 rfl
  have l5x1d0 := le_up 0 l5x1
  have l5x1d1 := le_up 1 l5x1
  simp only [upN] at l5x1d0 l5x1d1
  have c5x2 := Own.cell O5 2 rfl
  have f5x2 := Own.free O5 2 rfl
  have l5x2 := Own.lt O5 2 rfl
  have l5x2d0 := le_up 0 l5x2
  have l5x2d1 := le_up 1 l5x2
  simp only [upN] at l5x2d0 l5x2d1
  have c5x3 := Own.cell O5 3 rfl
  have f5x3 := Own.free O5 3 rfl
  have l5x3 := Own.lt O5 3 rfl
  have l5x3d0 := le_up 0 l5x3
  have l5x3d1 := le_up 1 l5x3
  simp only [upN] at l5x3d0 l5x3d1
  have c5x4 := Own.cell O5 4 rfl
  have f5x4 := Own.free O5 4 rfl
  have l5x4 := Own.lt O5 4 rfl
  have l5x4d0 := le_up 0 l5x4
  have l5x4d1 := le_up 1 l5x4
  simp only [upN] at l5x4d0 l5x4d1
  have c5x5 := Own.cell O5 5 rfl
  have f5x5 := Own.free O5 5 rfl
  have l5x5 := Own.lt O5 5 rfl
  have l5x5d0 := le_up 0 l5x5
  have l5x5d1 := le_up 1 l5x5
  simp only [upN] at l5x5d0 l5x5d1
  have c5x6 := Own.cell O5 6 rfl
  have f5x6 := Own.free O5 6 rfl
  have l5x6 := Own.lt O5 6 rfl
  have l5x6d0 := le_up 0 l5x6
  have l5x6d1 := le_up 1 l5x6
  simp only [upN] at l5x6d0 l5x6d1
  have c5x7 := Own.cell O5 7 rfl
  have f5x7 := Own.free O5 7 rfl
  have l5x7 := Own.lt O5 7 rfl
  have l5x7d0 := le_up 0 l5x7
  have l5x7d1 := le_up 1 l5x7
  simp only [upN] at l5x7d0 l5x7d1
  have c5x8 := Own.cell O5 8 rfl
  have f5x8 := Own.free O5 8 rfl
  have l5x8 := Own.lt O5 8 rfl
  have l5x8d0 := le_up 0 l5x8
  have l5x8d1 := le_up 1 l5x8
  simp only [upN] at l5x8d0 l5x8d1
  have HO5 := Lib.hid O5
  clear O5 hb5
  go_upto_region 8 with (fail)
  refine wp_name fun wn8 hwn8 => ?_
  have hOwn8 := (show Own _ wn8 by rw [hwn8]; exact (Own.set (Own.set (Own.set (Own.set HO5.out 0 rfl (Ne1.cons (by first | omega | (simp; omega)) (Ne1.cons (by first | omega | (simp; omega)) (Ne1.cons (by first | omega | (simp; omega)) (Ne1.cons (by first | omega | (simp; omega)) (Ne1.cons (by first | omega | (simp; omega)) (Ne1.cons (by first | omega | (simp; omega)) (Ne1.cons (by first | omega | (simp; omega)) (Ne1.cons (by first | omega | (simp; omega)) Ne1.nil))))))))) 0 rfl (Ne1.cons (by first | omega | (simp; omega)) (Ne1.cons (by first | omega | (simp; omega)) (Ne1.cons (by first | omega | (simp; omega)) (Ne1.cons (by first | omega | (simp; omega)) (Ne1.cons (by first | omega | (simp; omega)) (Ne1.cons (by first | omega | (simp; omega)) (Ne1.cons (by first | omega | (simp; omega)) (Ne1.cons (by first | omega | (simp; omega)) Ne1.nil))))))))) 0 rfl (Ne1.cons (by first | omega | (simp; omega)) (Ne1.cons (by first | omega | (simp; omega)) (Ne1.cons (by first | omega | (simp; omega)) (Ne1.cons (by first | omega | (simp; omega)) (Ne1.cons (by first | omega | (simp; omega)) (Ne1.cons (by first | omega | (simp; omega)) (Ne1.cons (by first | omega | (simp; omega)) (Ne1.cons (by first | omega | (simp; omega)) Ne1.nil))))))))) 0 rfl (Ne1.cons (by first | omega | (simp; omega)) (Ne1.cons (by first | omega | (simp; omega)) (Ne1.cons (by first | omega | (simp; omega)) (Ne1.cons (by first | omega | (simp; omega)) (Ne1.cons (by first | omega | (simp; omega)) (Ne1.cons (by first | omega | (simp; omega)) (Ne1.cons (by first | omega | (simp; omega)) (Ne1.cons (by first | omega | (simp; omega)) Ne1.nil))))))))))
  try simp only [List.setIfInBounds_toArray, List.set_cons_zero, List.set_cons_succ] at hOwn8
  have hBwn8 : Below w.heap.size w wn8 := by rw [hwn8]; go_grown
  clear hwn8
  have bw6 := hBwn8
  clear c5x0 f5x0 l5x0 l5x0d0 l5x0d1 c5x1 f5x1 l5x1 l5x1d0 l5x1d1 c5x2 f5x2 l5x2 l5x2d0 l5x2d1 c5x3 f5x3 l5x3 l5x3d0 l5x3d1 c5x4 f5x4 l5x4 l5x4d0 l5x4d1 c5x5 f5x5 l5x5 l5x5d0 l5x5d1 c5x6 f5x6 l5x6 l5x6d0 l5x6d1 c5x7 f5x7 l5x7 l5x7d0 l5x7d1 c5x8 f5x8 l5x8 l5x8d0 l5x8d1
  have O6 := hOwn8
  have c6x0 := Own.cell O6 0 rfl
  have f6x0 := Own.free O6 0 rfl
  have l6x0 := Own.lt O6 0 rfl
  have l6x0d0 := le_up 0 l6x0
  have l6x0d1 := le_up 1 l6x0
  simp only [upN] at l6x0d0 l6x0d1
  have c6x1 := Own.cell O6 1 rfl
  have f6x1 := Own.free O6 1 rfl
  have l6x1 := Own.lt O6 1 rfl
  have l6x1d0 := le_up 0 l6x1
  have l6x1d1 := le_up 1 l6x1
  simp only [upN] at l6x1d0 l6x1d1
  have c6x2 := Own.cell O6 2 rfl
  have f6x2 := Own.free O6 2 rfl
  have l6x2 := Own.lt O6 2 rfl
  have l6x2d0 := le_up 0 l6x2
  have l6x2d1 := le_up 1 l6x2
  simp only [upN] at l6x2d0 l6x2d1
  have c6x3 := Own.cell O6 3 rfl
  have f6x3 := Own.free O6 3 rfl
  have l6x3 := Own.lt O6 3 rfl
  have l6x3d0 := le_up 0 l6x3
  have l6x3d1 := le_up 1 l6x3
  simp only [upN] at l6x3d0 l6x3d1
  have c6x4 := Own.cell O6 4 rfl
  have f6x4 := Own.free O6 4 rfl
  have l6x4 := Own.lt O6 4 rfl
  have l6x4d0 := le_up 0 l6x4
  have l6x4d1 := le_up 1 l6x4
  simp only [upN] at l6x4d0 l6x4d1
  have c6x5 := Own.cell O6 5 rfl
  have f6x5 := Own.free O6 5 rfl
  have l6x5 := Own.lt O6 5 rfl
  have l6x5d0 := le_up 0 l6x5
  have l6x5d1 := le_up 1 l6x5
  simp only [upN] at l6x5d0 l6x5d1
  have c6x6 := Own.cell O6 6 rfl
  have f6x6 := Own.free O6 6 rfl
  have l6x6 := Own.lt O6 6 rfl
  have l6x6d0 := le_up 0 l6x6
  have l6x6d1 := le_up 1 l6x6
  simp only [upN] at l6x6d0 l6x6d1
  have c6x7 := Own.cell O6 7 rfl
  have f6x7 := Own.free O6 7 rfl
  have l6x7 := Own.lt O6 7 rfl
  have l6x7d0 := le_up 0 l6x7
  have l6x7d1 := le_up 1 l6x7
  simp only [upN] at l6x7d0 l6x7d1
  have c6x8 := Own.cell O6 8 rfl
  have f6x8 := Own.free O6 8 rfl
  have l6x8 := Own.lt O6 8 rfl
  have l6x8d0 := le_up 0 l6x8
  have l6x8d1 := le_up 1 l6x8
  simp only [upN] at l6x8d0 l6x8d1
  have HO6 := Lib.hid O6
  clear O6
  go_wp2_with fail
  refine bodyPost_ret (v := W (x + y - m)) (by simp [results, Try.results9, go_sem, *]) rfl ?_
  exact ⟨rfl, by go_grown⟩
set_option maxRecDepth 20000 in
set_option maxHeartbeats 2000000 in
theorem refaddmod_t2 (a b m : BitVec 256) (w : World) (h0 : ¬ m = 0#256) (h1 : ¬ (a % m + b % m).toNat < (a % m).toNat) (h2 : m.toNat ≤ (a % m + b % m).toNat) : Calls Try.prog 9 #[W a, W b, W m] w fun e w' => e = .returned (W (a % m + b % m - m)) ∧ Below w.heap.size w w' := by
  have hq := eqZ m
  rw [decide_eq_false h0] at hq
  have hm1 : modW a m = a % m := if_neg h0
  have hm2 : modW b m = b % m := if_neg h0
  have hd1 := fun V => refDivideW a m V
  have hd2 := fun V => refDivideW b m V
  rw [hm1] at hd1
  rw [hm2] at hd2
  have HA := Lib.hid (fun V => refAddW (a % m) (b % m) V)
  generalize divW a m = q1 at *
  generalize divW b m = q2 at *
  clear hm1 hm2 h0
  generalize a % m = x at *
  generalize b % m = y at *
  have HD1 := Lib.hid hd1
  have HD2 := Lib.hid hd2
  clear hd1 hd2
  have hn1 := ordW_neg (x + y) (x)
  have HRO1 := Lib.hid (fun V => refOrderW (x + y) (x) V)
  have hn2 := ordW_ge (x + y) m
  have HRO2 := Lib.hid (fun V => refOrderW (x + y) m V)
  have HSB := Lib.hid (fun V => refSubW (x + y) m V)
  rw [decide_eq_false h1] at hn1
  rw [decide_eq_true h2] at hn2
  generalize ordW (x + y) (x) = od1 at *
  generalize ordW (x + y) m = od2 at *
  clear h1
  clear h2
  go_enter Try.func9, Try.ntmps9
  go_wp2_with fail
  refine (HD1.out _).mono ?_
  rintro e w1 ⟨rfl, hb1⟩
  have O1 := Own.grow' hb1 (Own.new (Own.new (Own.new (Own.new (Own.nil w) (w.heap.size) (by first | rfl | simp)) (w.heap.size + 1) (by simp)) (w.heap.size + 1 + 1) (by simp)) (w.heap.size + 1 + 1 + 1) (by simp))
  try simp only [List.setIfInBounds_toArray, List.set_cons_zero, List.set_cons_succ] at O1
  have bw1 : Below w.heap.size w w1 := Below.trans (by go_grown) (Below.mono hb1 (by first | omega | (simp; done) | (simp; omega)))
  have zw1 := Below.size hb1
  try simp only [World.size_alloc, World.size_drew, World.size_setCell] at zw1
  have c1x0 := Own.cell O1 0 rfl
  have f1x0 := Own.free O1 0 rfl
  have l1x0 := Own.lt O1 0 rfl
  have l1x0d0 := le_up 0 l1x0
  have l1x0d1 := le_up 1 l1x0
  simp only [upN] at l1x0d0 l1x0d1
  have c1x1 := Own.cell O1 1 rfl
  have f1x1 := Own.free O1 1 rfl
  have l1x1 := Own.lt O1 1 rfl
  have l1x1d0 := le_up 0 l1x1
  have l1x1d1 := le_up 1 l1x1
  simp only [upN] at l1x1d0 l1x1d1
  have c1x2 := Own.cell O1 2 rfl
  have f1x2 := Own.free O1 2 rfl
  have l1x2 := Own.lt O1 2 rfl
  have l1x2d0 := le_up 0 l1x2
  have l1x2d1 := le_up 1 l1x2
  simp only [upN] at l1x2d0 l1x2d1
  have c1x3 := Own.cell O1 3 rfl
  have f1x3 := Own.free O1 3 rfl
  have l1x3 := Own.lt O1 3 rfl
  have l1x3d0 := le_up 0 l1x3
  have l1x3d1 := le_up 1 l1x3
  simp only [upN] at l1x3d0 l1x3d1
  have HO1 := Lib.hid O1
  clear O1 hb1
  go_wp2_with fail
  refine (HD2.out _).mono ?_
  rintro e w2 ⟨rfl, hb2⟩
  have O2 := Own.grow' hb2 (Own.new (Own.new HO1.out (w1.heap.size) (by first | rfl | simp)) (w1.heap.size + 1) (by simp))
  try simp only [List.setIfInBounds_toArray, List.set_cons_zero, List.set_cons_succ] at O2
  have bw2 : Below w.heap.size w w2 := Below.trans (by go_grown) (Below.mono hb2 (by first | omega | (simp; done) | (simp; omega)))
  have zw2 := Below.size hb2
  try simp only [World.size_alloc, World.size_drew, World.size_setCell] at zw2
  clear c1x0 f1x0 l1x0 l1x0d0 l1x0d1 c1x1 f1x1 l1x1 l1x1d0 l1x1d1 c1x2 f1x2 l1x2 l1x2d0 l1x2d1 c1x3 f1x3 l1x3 l1x3d0 l1x3d1
  have c2x0 := Own.cell O2 0 rfl
  have f2x0 := Own.free O2 0 rfl
  have l2x0 := Own.lt O2 0 rfl
  have l2x0d0 := le_up 0 l2x0
  have l2x0d1 := le_up 1 l2x0
  simp only [upN] at l2x0d0 l2x0d1
  have c2x1 := Own.cell O2 1 rfl
  have f2x1 := Own.free O2 1 rfl
  have l2x1 := Own.lt O2 1 rfl
  have l2x1d0 := le_up 0 l2x1
  have l2x1d1 := le_up 1 l2x1
  simp only [upN] at l2x1d0 l2x1d1
  have c2x2 := Own.cell O2 2 rfl
  have f2x2 := Own.free O2 2 rfl
  have l2x2 := Own.lt O2 2 rfl
  have l2x2d0 := le_up 0 l2x2
  have l2x2d1 := le_up 1 l2x2
  simp only [upN] at l2x2d0 l2x2d1
  have c2x3 := Own.cell O2 3 rfl
  have f2x3 := Own.free O2 3 rfl
  have l2x3 := Own.lt O2 3 rfl
  have l2x3d0 := le_up 0 l2x3
  have l2x3d1 := le_up 1 l2x3
  simp only [upN] at l2x3d0 l2x3d1
  have c2x4 := Own.cell O2 4 rfl
  have f2x4 := Own.free O2 4 rfl
  have l2x4 := Own.lt O2 4 rfl
  have l2x4d0 := le_up 0 l2x4
  have l2x4d1 := le_up 1 l2x4
  simp only [upN] at l2x4d0 l2x4d1
  have c2x5 := Own.cell O2 5 rfl
  have f2x5 := Own.free O2 5 rfl
  have l2x5 := Own.lt O2 5 rfl
  have l2x5d0 := le_up 0 l2x5
  have l2x5d1 := le_up 1 l2x5
  simp only [upN] at l2x5d0 l2x5d1
  have HO2 := Lib.hid O2
  clear O2 hb2
  go_wp2_with fail
  refine (HA.out _).mono ?_
  rintro e w3 ⟨rfl, hb3⟩
  have O3 := Own.grow' hb3 (Own.new (Own.new HO2.out (w2.heap.size) (by first | rfl | simp)) (w2.heap.size + 1) (by simp))
  try simp only [List.setIfInBounds_toArray, List.set_cons_zero, List.set_cons_succ] at O3
  have bw3 : Below w.heap.size w w3 := Below.trans (by go_grown) (Below.mono hb3 (by first | omega | (simp; done) | (simp; omega)))
  have zw3 := Below.size hb3
  try simp only [World.size_alloc, World.size_drew, World.size_setCell] at zw3
  clear c2x0 f2x0 l2x0 l2x0d0 l2x0d1 c2x1 f2x1 l2x1 l2x1d0 l2x1d1 c2x2 f2x2 l2x2 l2x2d0 l2x2d1 c2x3 f2x3 l2x3 l2x3d0 l2x3d1 c2x4 f2x4 l2x4 l2x4d0 l2x4d1 c2x5 f2x5 l2x5 l2x5d0 l2x5d1
  have c3x0 := Own.cell O3 0 rfl
  have f3x0 := Own.free O3 0 rfl
  have l3x0 := Own.lt O3 0 rfl
  have l3x0d0 := le_up 0 l3x0
  have l3x0d1 := le_up 1 l3x0
  simp only [upN] at l3x0d0 l3x0d1
  have c3x1 := Own.cell O3 1 rfl
  have f3x1 := Own.free O3 1 rfl
  have l3x1 := Own.lt O3 1 rfl
  have l3x1d0 := le_up 0 l3x1
  have l3x1d1 := le_up 1 l3x1
  simp only [upN] at l3x1d0 l3x1d1
  have c3x2 := Own.cell O3 2 rfl
  have f3x2 := Own.free O3 2 rfl
  have l3x2 := Own.lt O3 2 rfl
  have l3x2d0 := le_up 0 l3x2
  have l3x2d1 := le_up 1 l3x2
  simp only [upN] at l3x2d0 l3x2d1
  have c3x3 := Own.cell O3 3 rfl
  have f3x3 := Own.free O3 3 rfl
  have l3x3 := Own.lt O3 3 rfl
  have l3x3d0 := le_up 0 l3x3
  have l3x3d1 := le_up 1 l3x3
  simp only [upN] at l3x3d0 l3x3d1
  have c3x4 := Own.cell O3 4 rfl
  have f3x4 := Own.free O3 4 rfl
  have l3x4 := Own.lt O3 4 rfl
  have l3x4d0 := le_up 0 l3x4
  have l3x4d1 := le_up 1 l3x4
  simp only [upN] at l3x4d0 l3x4d1
  have c3x5 := Own.cell O3 5 rfl
  have f3x5 := Own.free O3 5 rfl
  have l3x5 := Own.lt O3 5 rfl
  have l3x5d0 := le_up 0 l3x5
  have l3x5d1 := le_up 1 l3x5
  simp only [upN] at l3x5d0 l3x5d1
  have c3x6 := Own.cell O3 6 rfl
  have f3x6 := Own.free O3 6 rfl
  have l3x6 := Own.lt O3 6 rfl
  have l3x6d0 := le_up 0 l3x6
  have l3x6d1 := le_up 1 l3x6
  simp only [upN] at l3x6d0 l3x6d1
  have c3x7 := Own.cell O3 7 rfl
  have f3x7 := Own.free O3 7 rfl
  have l3x7 := Own.lt O3 7 rfl
  have l3x7d0 := le_up 0 l3x7
  have l3x7d1 := le_up 1 l3x7
  simp only [upN] at l3x7d0 l3x7d1
  have HO3 := Lib.hid O3
  clear O3 hb3
  go_wp2_with fail
  refine (HRO1.out _).mono ?_
  rintro e w4 ⟨rfl, hb4⟩
  have O4 := Own.grow' hb4 (Own.new HO3.out (w3.heap.size) (by first | rfl | simp))
  try simp only [List.setIfInBounds_toArray, List.set_cons_zero, List.set_cons_succ] at O4
  have bw4 : Below w.heap.size w w4 := Below.trans (by go_grown) (Below.mono hb4 (by first | omega | (simp; done) | (simp; omega)))
  have zw4 := Below.size hb4
  try simp only [World.size_alloc, World.size_drew, World.size_setCell] at zw4
  clear c3x0 f3x0 l3x0 l3x0d0 l3x0d1 c3x1 f3x1 l3x1 l3x1d0 l3x1d1 c3x2 f3x2 l3x2 l3x2d0 l3x2d1 c3x3 f3x3 l3x3 l3x3d0 l3x3d1 c3x4 f3x4 l3x4 l3x4d0 l3x4d1 c3x5 f3x5 l3x5 l3x5d0 l3x5d1 c3x6 f3x6 l3x6 l3x6d0 l3x6d1 c3x7 f3x7 l3x7 l3x7d0 l3x7d1
  have c4x0 := Own.cell O4 0 rfl
  have f4x0 := Own.free O4 0 rfl
  have l4x0 := Own.lt O4 0 rfl
  have l4x0d0 := le_up 0 l4x0
  have l4x0d1 := le_up 1 l4x0
  simp only [upN] at l4x0d0 l4x0d1
  have c4x1 := Own.cell O4 1 rfl
  have f4x1 := Own.free O4 1 rfl
  have l4x1 := Own.lt O4 1 rfl
  have l4x1d0 := le_up 0 l4x1
  have l4x1d1 := le_up 1 l4x1
  simp only [upN] at l4x1d0 l4x1d1
  have c4x2 := Own.cell O4 2 rfl
  have f4x2 := Own.free O4 2 rfl
  have l4x2 := Own.lt O4 2 rfl
  have l4x2d0 := le_up 0 l4x2
  have l4x2d1 := le_up 1 l4x2
  simp only [upN] at l4x2d0 l4x2d1
  have c4x3 := Own.cell O4 3 rfl
  have f4x3 := Own.free O4 3 rfl
  have l4x3 := Own.lt O4 3 rfl
  have l4x3d0 := le_up 0 l4x3
  have l4x3d1 := le_up 1 l4x3
  simp only [upN] at l4x3d0 l4x3d1
  have c4x4 := Own.cell O4 4 rfl
  have f4x4 := Own.free O4 4 rfl
  have l4x4 := Own.lt O4 4 rfl
  have l4x4d0 := le_up 0 l4x4
  have l4x4d1 := le_up 1 l4x4
  simp only [upN] at l4x4d0 l4x4d1
  have c4x5 := Own.cell O4 5 rfl
  have f4x5 := Own.free O4 5 rfl
  have l4x5 := Own.lt O4 5 rfl
  have l4x5d0 := le_up 0 l4x5
  have l4x5d1 := le_up 1 l4x5
  simp only [upN] at l4x5d0 l4x5d1
  have c4x6 := Own.cell O4 6 rfl
  have f4x6 := Own.free O4 6 rfl
  have l4x6 := Own.lt O4 6 rfl
  have l4x6d0 := le_up 0 l4x6
  have l4x6d1 := le_up 1 l4x6
  simp only [upN] at l4x6d0 l4x6d1
  have c4x7 := Own.cell O4 7 rfl
  have f4x7 := Own.free O4 7 rfl
  have l4x7 := Own.lt O4 7 rfl
  have l4x7d0 := le_up 0 l4x7
  have l4x7d1 := le_up 1 l4x7
  simp only [upN] at l4x7d0 l4x7d1
  have c4x8 := Own.cell O4 8 rfl
  have f4x8 := Own.free O4 8 rfl
  have l4x8 := Own.lt O4 8 rfl
  have l4x8d0 := le_up 0 l4x8
  have l4x8d1 := le_up 1 l4x8
  simp only [upN] at l4x8d0 l4x8d1
  have HO4 := Lib.hid O4
  clear O4 hb4
  go_wp2_with fail
  refine (HRO2.out _).mono ?_
  rintro e w5 ⟨rfl, hb5⟩
  have O5 := Own.grow' hb5 HO4.out
  try simp only [List.setIfInBounds_toArray, List.set_cons_zero, List.set_cons_succ] at O5
  have bw5 : Below w.heap.size w w5 := Below.trans (by go_grown) (Below.mono hb5 (by first | omega | (simp; done) | (simp; omega)))
  have zw5 := Below.size hb5
  try simp only [World.size_alloc, World.size_drew, World.size_setCell] at zw5
  clear c4x0 f4x0 l4x0 l4x0d0 l4x0d1 c4x1 f4x1 l4x1 l4x1d0 l4x1d1 c4x2 f4x2 l4x2 l4x2d0 l4x2d1 c4x3 f4x3 l4x3 l4x3d0 l4x3d1 c4x4 f4x4 l4x4 l4x4d0 l4x4d1 c4x5 f4x5 l4x5 l4x5d0 l4x5d1 c4x6 f4x6 l4x6 l4x6d0 l4x6d1 c4x7 f4x7 l4x7 l4x7d0 l4x7d1 c4x8 f4x8 l4x8 l4x8d0 l4x8d1
  have c5x0 := Own.cell O5 0 rfl
  have f5x0 := Own.free O5 0 rfl
  have l5x0 := Own.lt O5 0 rfl
  have l5x0d0 := le_up 0 l5x0
  have l5x0d1 := le_up 1 l5x0
  simp only [upN] at l5x0d0 l5x0d1
  have c5x1 := Own.cell O5 1 rfl
  have f5x1 := Own.free O5 1 rfl
  have l5x1 := Own.lt O5 1 rfl
  have l5x1d0 := le_up 0 l5x1
  have l5x1d1 := le_up 1 l5x1
  simp only [upN] at l5x1d0 l5x1d1
  have c5x2 := Own.cell O5 2 rfl
  have f5x2 := Own.free O5 2 rfl
  have l5x2 := Own.lt O5 2 rfl
  have l5x2d0 := le_up 0 l5x2
  have l5x2d1 := le_up 1 l5x2
  simp only [upN] at l5x2d0 l5x2d1
  have c5x3 := Own.cell O5 3 rfl
  have f5x3 := Own.free O5 3 rfl
  have l5x3 := Own.lt O5 3 rfl
  have l5x3d0 := le_up 0 l5x3
  have l5x3d1 := le_up 1 l5x3
  simp only [upN] at l5x3d0 l5x3d1
  have c5x4 := Own.cell O5 4 rfl
  have f5x4 := Own.free O5 4 rfl
  have l5x4 := Own.lt O5 4 rfl
  have l5x4d0 := le_up 0 l5x4
  have l5x4d1 := le_up 1 l5x4
  simp only [upN] at l5x4d0 l5x4d1
  have c5x5 := Own.cell O5 5 rfl
  have f5x5 := Own.free O5 5 rfl
  have l5x5 := Own.lt O5 5 rfl
  have l5x5d0 := le_up 0 l5x5
  have l5x5d1 := le_up 1 l5x5
  simp only [upN] at l5x5d0 l5x5d1
  have c5x6 := Own.cell O5 6 rfl
  have f5x6 := Own.free O5 6 rfl
  have l5x6 := Own.lt O5 6 rfl
  have l5x6d0 := le_up 0 l5x6
  have l5x6d1 := le_up 1 l5x6
  simp only [upN] at l5x6d0 l5x6d1
  have c5x7 := Own.cell O5 7 rfl
  have f5x7 := Own.free O5 7 rfl
  have l5x7 := Own.lt O5 7 rfl
  have l5x7d0 := le_up 0 l5x7
  have l5x7d1 := le_up 1 l5x7
  simp only [upN] at l5x7d0 l5x7d1
  have c5x8 := Own.cell O5 8 rfl
  have f5x8 := Own.free O5 8 rfl
  have l5x8 := Own.lt O5 8 rfl
  have l5x8d0 := le_up 0 l5x8
  have l5x8d1 := le_up 1 l5x8
  simp only [upN] at l5x8d0 l5x8d1
  have HO5 := Lib.hid O5
  clear O5 hb5
  go_wp2_with fail
  refine (HSB.out _).mono ?_
  rintro e w6 ⟨rfl, hb6⟩
  have O6 := Own.grow' hb6 HO5.out
  try simp only [List.setIfInBounds_toArray, List.set_cons_zero, List.set_cons_succ] at O6
  have bw6 : Below w.heap.size w w6 := Below.trans (by go_grown) (Below.mono hb6 (by first | omega | (simp; done) | (simp; omega)))
  have zw6 := Below.size hb6
  try simp only [World.size_alloc, World.size_drew, World.size_setCell] at zw6
  clear c5x0 f5x0 l5x0 l5x0d0 l5x0d1 c5x1 f5x1 l5x1 l5x1d0 l5x1d1 c5x2 f5x2 l5x2 l5x2d0 l5x2d1 c5x3 f5x3 l5x3 l5x3d0 l5x3d1 c5x4 f5x4 l5x4 l5x4d0 l5x4d1 c5x5 f5x5 l5x5 l5x5d0 l5x5d1 c5x6 f5x6 l5x6 l5x6d0 l5x6d1 c5x7 f5x7 l5x7 l5x7d0 l5x7d1 c5x8 f5x8 l5x8 l5x8d0 l5x8d1
  have c6x0 := Own.cell O6 0 rfl
  have f6x0 := Own.free O6 0 rfl
  have l6x0 := Own.lt O6 0 rfl
  have l6x0d0 := le_up 0 l6x0
  have l6x0d1 := le_up 1 l6x0
  simp only [upN] at l6x0d0 l6x0d1
  have c6x1 := Own.cell O6 1 rfl
  have f6x1 := Own.free O6 1 rfl
  have l6x1 := Own.lt O6 1 rfl
  have l6x1d0 := le_up 0 l6x1
  have l6x1d1 := le_up 1 l6x1
  simp only [upN] at l6x1d0 l6x1d1
  have c6x2 := Own.cell O6 2 rfl
  have f6x2 := Own.free O6 2 rfl
  have l6x2 := Own.lt O6 2 rfl
  have l6x2d0 := le_up 0 l6x2
  have l6x2d1 := le_up 1 l6x2
  simp only [upN] at l6x2d0 l6x2d1
  have c6x3 := Own.cell O6 3 rfl
  have f6x3 := Own.free O6 3 rfl
  have l6x3 := Own.lt O6 3 rfl
  have l6x3d0 := le_up 0 l6x3
  have l6x3d1 := le_up 1 l6x3
  simp only [upN] at l6x3d0 l6x3d1
  have c6x4 := Own.cell O6 4 rfl
  have f6x4 := Own.free O6 4 rfl
  have l6x4 := Own.lt O6 4 rfl
  have l6x4d0 := le_up 0 l6x4
  have l6x4d1 := le_up 1 l6x4
  simp only [upN] at l6x4d0 l6x4d1
  have c6x5 := Own.cell O6 5 rfl
  have f6x5 := Own.free O6 5 rfl
  have l6x5 := Own.lt O6 5 rfl
  have l6x5d0 := le_up 0 l6x5
  have l6x5d1 := le_up 1 l6x5
  simp only [upN] at l6x5d0 l6x5d1
  have c6x6 := Own.cell O6 6 rfl
  have f6x6 := Own.free O6 6 rfl
  have l6x6 := Own.lt O6 6 rfl
  have l6x6d0 := le_up 0 l6x6
  have l6x6d1 := le_up 1 l6x6
  simp only [upN] at l6x6d0 l6x6d1
  have c6x7 := Own.cell O6 7 rfl
  have f6x7 := Own.free O6 7 rfl
  have l6x7 := Own.lt O6 7 rfl
  have l6x7d0 := le_up 0 l6x7
  have l6x7d1 := le_up 1 l6x7
  simp only [upN] at l6x7d0 l6x7d1
  have c6x8 := Own.cell O6 8 rfl
  have f6x8 := Own.free O6 8 rfl
  have l6x8 := Own.lt O6 8 rfl
  have l6x8d0 := le_up 0 l6x8
  have l6x8d1 := le_up 1 l6x8
  simp only [upN] at l6x8d0 l6x8d1
  have HO6 := Lib.hid O6
  clear O6 hb6
  go_upto_region 8 with (fail)
  refine wp_name fun wn8 hwn8 => ?_
  have hOwn8 := (show Own _ wn8 by rw [hwn8]; exact (Own.set (Own.set (Own.set (Own.set HO6.out 0 rfl (Ne1.cons (by first | omega | (simp; omega)) (Ne1.cons (by first | omega | (simp; omega)) (Ne1.cons (by first | omega | (simp; omega)) (Ne1.cons (by first | omega | (simp; omega)) (Ne1.cons (by first | omega | (simp; omega)) (Ne1.cons (by first | omega | (simp; omega)) (Ne1.cons (by first | omega | (simp; omega)) (Ne1.cons (by first | omega | (simp; omega)) Ne1.nil))))))))) 0 rfl (Ne1.cons (by first | omega | (simp; omega)) (Ne1.cons (by first | omega | (simp; omega)) (Ne1.cons (by first | omega | (simp; omega)) (Ne1.cons (by first | omega | (simp; omega)) (Ne1.cons (by first | omega | (simp; omega)) (Ne1.cons (by first | omega | (simp; omega)) (Ne1.cons (by first | omega | (simp; omega)) (Ne1.cons (by first | omega | (simp; omega)) Ne1.nil))))))))) 0 rfl (Ne1.cons (by first | omega | (simp; omega)) (Ne1.cons (by first | omega | (simp; omega)) (Ne1.cons (by first | omega | (simp; omega)) (Ne1.cons (by first | omega | (simp; omega)) (Ne1.cons (by first | omega | (simp; omega)) (Ne1.cons (by first | omega | (simp; omega)) (Ne1.cons (by first | omega | (simp; omega)) (Ne1.cons (by first | omega | (simp; omega)) Ne1.nil))))))))) 0 rfl (Ne1.cons (by first | omega | (simp; omega)) (Ne1.cons (by first | omega | (simp; omega)) (Ne1.cons (by first | omega | (simp; omega)) (Ne1.cons (by first | omega | (simp; omega)) (Ne1.cons (by first | omega | (simp; omega)) (Ne1.cons (by first | omega | (simp; omega)) (Ne1.cons (by first | omega | (simp; omega)) (Ne1.cons (by first | omega | (simp; omega)) Ne1.nil))))))))))
  try simp only [List.setIfInBounds_toArray, List.set_cons_zero, List.set_cons_succ] at hOwn8
  have hBwn8 : Below w.heap.size w wn8 := by rw [hwn8]; go_grown
  clear hwn8
  have bw7 := hBwn8
  clear c6x0 f6x0 l6x0 l6x0d0 l6x0d1 c6x1 f6x1 l6x1 l6x1d0 l6x1d1 c6x2 f6x2 l6x2 l6x2d0 l6x2d1 c6x3 f6x3 l6x3 l6x3d0 l6x3d1 c6x4 f6x4 l6x4 l6x4d0 l6x4d1 c6x5 f6x5 l6x5 l6x5d0 l6x5d1 c6x6 f6x6 l6x6 l6x6d0 l6x6d1 c6x7 f6x7 l6x7 l6x7d0 l6x7d1 c6x8 f6x8 l6x8 l6x8d0 l6x8d1
  have O7 := hOwn8
  have c7x0 := Own.cell O7 0 rfl
  have f7x0 := Own.free O7 0 rfl
  have l7x0 := Own.lt O7 0 rfl
  have l7x0d0 := le_up 0 l7x0
  have l7x0d1 := le_up 1 l7x0
  simp only [upN] at l7x0d0 l7x0d1
  have c7x1 := Own.cell O7 1 rfl
  have f7x1 := Own.free O7 1 rfl
  have l7x1 := Own.lt O7 1 rfl
  have l7x1d0 := le_up 0 l7x1
  have l7x1d1 := le_up 1 l7x1
  simp only [upN] at l7x1d0 l7x1d1
  have c7x2 := Own.cell O7 2 rfl
  have f7x2 := Own.free O7 2 rfl
  have l7x2 := Own.lt O7 2 rfl
  have l7x2d0 := le_up 0 l7x2
  have l7x2d1 := le_up 1 l7x2
  simp only [upN] at l7x2d0 l7x2d1
  have c7x3 := Own.cell O7 3 rfl
  have f7x3 := Own.free O7 3 rfl
  have l7x3 := Own.lt O7 3 rfl
  have l7x3d0 := le_up 0 l7x3
  have l7x3d1 := le_up 1 l7x3
  simp only [upN] at l7x3d0 l7x3d1
  have c7x4 := Own.cell O7 4 rfl
  have f7x4 := Own.free O7 4 rfl
  have l7x4 := Own.lt O7 4 rfl
  have l7x4d0 := le_up 0 l7x4
  have l7x4d1 := le_up 1 l7x4
  simp only [upN] at l7x4d0 l7x4d1
  have c7x5 := Own.cell O7 5 rfl
  have f7x5 := Own.free O7 5 rfl
  have l7x5 := Own.lt O7 5 rfl
  have l7x5d0 := le_up 0 l7x5
  have l7x5d1 := le_up 1 l7x5
  simp only [upN] at l7x5d0 l7x5d1
  have c7x6 := Own.cell O7 6 rfl
  have f7x6 := Own.free O7 6 rfl
  have l7x6 := Own.lt O7 6 rfl
  have l7x6d0 := le_up 0 l7x6
  have l7x6d1 := le_up 1 l7x6
  simp only [upN] at l7x6d0 l7x6d1
  have c7x7 := Own.cell O7 7 rfl
  have f7x7 := Own.free O7 7 rfl
  have l7x7 := Own.lt O7 7 rfl
  have l7x7d0 := le_up 0 l7x7
  have l7x7d1 := le_up 1 l7x7
  simp only [upN] at l7x7d0 l7x7d1
  have c7x8 := Own.cell O7 8 rfl
  have f7x8 := Own.free O7 8 rfl
  have l7x8 := Own.lt O7 8 rfl
  have l7x8d0 := le_up 0 l7x8
  have l7x8d1 := le_up 1 l7x8
  simp only [upN] at l7x8d0 l7x8d1
  have HO7 := Lib.hid O7
  clear O7
  go_wp2_with fail
  refine bodyPost_ret (v := W (x + y - m)) (by simp [results, Try.results9, go_sem, *]) rfl ?_
  exact ⟨rfl, by go_grown⟩
set_option maxRecDepth 20000 in
set_option maxHeartbeats 2000000 in
theorem refaddmod_f (a b m : BitVec 256) (w : World) (h0 : ¬ m = 0#256) (h1 : ¬ (a % m + b % m).toNat < (a % m).toNat) (h2 : ¬ m.toNat ≤ (a % m + b % m).toNat) : Calls Try.prog 9 #[W a, W b, W m] w fun e w' => e = .returned (W (a % m + b % m)) ∧ Below w.heap.size w w' := by
  have hq := eqZ m
  rw [decide_eq_false h0] at hq
  have hm1 : modW a m = a % m := if_neg h0
  have hm2 : modW b m = b % m := if_neg h0
  have hd1 := fun V => refDivideW a m V
  have hd2 := fun V => refDivideW b m V
  rw [hm1] at hd1
  rw [hm2] at hd2
  have HA := Lib.hid (fun V => refAddW (a % m) (b % m) V)
  generalize divW a m = q1 at *
  generalize divW b m = q2 at *
  clear hm1 hm2 h0
  generalize a % m = x at *
  generalize b % m = y at *
  have HD1 := Lib.hid hd1
  have HD2 := Lib.hid hd2
  clear hd1 hd2
  have hn1 := ordW_neg (x + y) (x)
  have HRO1 := Lib.hid (fun V => refOrderW (x + y) (x) V)
  have hn2 := ordW_ge (x + y) m
  have HRO2 := Lib.hid (fun V => refOrderW (x + y) m V)
  rw [decide_eq_false h1] at hn1
  rw [decide_eq_false h2] at hn2
  generalize ordW (x + y) (x) = od1 at *
  generalize ordW (x + y) m = od2 at *
  clear h1
  clear h2
  go_enter Try.func9, Try.ntmps9
  go_wp2_with fail
  refine (HD1.out _).mono ?_
  rintro e w1 ⟨rfl, hb1⟩
  have O1 := Own.grow' hb1 (Own.new (Own.new (Own.new (Own.new (Own.nil w) (w.heap.size) (by first | rfl | simp)) (w.heap.size + 1) (by simp)) (w.heap.size + 1 + 1) (by simp)) (w.heap.size + 1 + 1 + 1) (by simp))
  try simp only [List.setIfInBounds_toArray, List.set_cons_zero, List.set_cons_succ] at O1
  have bw1 : Below w.heap.size w w1 := Below.trans (by go_grown) (Below.mono hb1 (by first | omega | (simp; done) | (simp; omega)))
  have zw1 := Below.size hb1
  try simp only [World.size_alloc, World.size_drew, World.size_setCell] at zw1
  have c1x0 := Own.cell O1 0 rfl
  have f1x0 := Own.free O1 0 rfl
  have l1x0 := Own.lt O1 0 rfl
  have l1x0d0 := le_up 0 l1x0
  have l1x0d1 := le_up 1 l1x0
  simp only [upN] at l1x0d0 l1x0d1
  have c1x1 := Own.cell O1 1 rfl
  have f1x1 := Own.free O1 1 rfl
  have l1x1 := Own.lt O1 1 rfl
  have l1x1d0 := le_up 0 l1x1
  have l1x1d1 := le_up 1 l1x1
  simp only [upN] at l1x1d0 l1x1d1
  have c1x2 := Own.cell O1 2 rfl
  have f1x2 := Own.free O1 2 rfl
  have l1x2 := Own.lt O1 2 rfl
  have l1x2d0 := le_up 0 l1x2
  have l1x2d1 := le_up 1 l1x2
  simp only [upN] at l1x2d0 l1x2d1
  have c1x3 := Own.cell O1 3 rfl
  have f1x3 := Own.free O1 3 rfl
  have l1x3 := Own.lt O1 3 rfl
  have l1x3d0 := le_up 0 l1x3
  have l1x3d1 := le_up 1 l1x3
  simp only [upN] at l1x3d0 l1x3d1
  have HO1 := Lib.hid O1
  clear O1 hb1
  go_wp2_with fail
  refine (HD2.out _).mono ?_
  rintro e w2 ⟨rfl, hb2⟩
  have O2 := Own.grow' hb2 (Own.new (Own.new HO1.out (w1.heap.size) (by first | rfl | simp)) (w1.heap.size + 1) (by simp))
  try simp only [List.setIfInBounds_toArray, List.set_cons_zero, List.set_cons_succ] at O2
  have bw2 : Below w.heap.size w w2 := Below.trans (by go_grown) (Below.mono hb2 (by first | omega | (simp; done) | (simp; omega)))
  have zw2 := Below.size hb2
  try simp only [World.size_alloc, World.size_drew, World.size_setCell] at zw2
  clear c1x0 f1x0 l1x0 l1x0d0 l1x0d1 c1x1 f1x1 l1x1 l1x1d0 l1x1d1 c1x2 f1x2 l1x2 l1x2d0 l1x2d1 c1x3 f1x3 l1x3 l1x3d0 l1x3d1
  have c2x0 := Own.cell O2 0 rfl
  have f2x0 := Own.free O2 0 rfl
  have l2x0 := Own.lt O2 0 rfl
  have l2x0d0 := le_up 0 l2x0
  have l2x0d1 := le_up 1 l2x0
  simp only [upN] at l2x0d0 l2x0d1
  have c2x1 := Own.cell O2 1 rfl
  have f2x1 := Own.free O2 1 rfl
  have l2x1 := Own.lt O2 1 rfl
  have l2x1d0 := le_up 0 l2x1
  have l2x1d1 := le_up 1 l2x1
  simp only [upN] at l2x1d0 l2x1d1
  have c2x2 := Own.cell O2 2 rfl
  have f2x2 := Own.free O2 2 rfl
  have l2x2 := Own.lt O2 2 rfl
  have l2x2d0 := le_up 0 l2x2
  have l2x2d1 := le_up 1 l2x2
  simp only [upN] at l2x2d0 l2x2d1
  have c2x3 := Own.cell O2 3 rfl
  have f2x3 := Own.free O2 3 rfl
  have l2x3 := Own.lt O2 3 rfl
  have l2x3d0 := le_up 0 l2x3
  have l2x3d1 := le_up 1 l2x3
  simp only [upN] at l2x3d0 l2x3d1
  have c2x4 := Own.cell O2 4 rfl
  have f2x4 := Own.free O2 4 rfl
  have l2x4 := Own.lt O2 4 rfl
  have l2x4d0 := le_up 0 l2x4
  have l2x4d1 := le_up 1 l2x4
  simp only [upN] at l2x4d0 l2x4d1
  have c2x5 := Own.cell O2 5 rfl
  have f2x5 := Own.free O2 5 rfl
  have l2x5 := Own.lt O2 5 rfl
  have l2x5d0 := le_up 0 l2x5
  have l2x5d1 := le_up 1 l2x5
  simp only [upN] at l2x5d0 l2x5d1
  have HO2 := Lib.hid O2
  clear O2 hb2
  go_wp2_with fail
  refine (HA.out _).mono ?_
  rintro e w3 ⟨rfl, hb3⟩
  have O3 := Own.grow' hb3 (Own.new (Own.new HO2.out (w2.heap.size) (by first | rfl | simp)) (w2.heap.size + 1) (by simp))
  try simp only [List.setIfInBounds_toArray, List.set_cons_zero, List.set_cons_succ] at O3
  have bw3 : Below w.heap.size w w3 := Below.trans (by go_grown) (Below.mono hb3 (by first | omega | (simp; done) | (simp; omega)))
  have zw3 := Below.size hb3
  try simp only [World.size_alloc, World.size_drew, World.size_setCell] at zw3
  clear c2x0 f2x0 l2x0 l2x0d0 l2x0d1 c2x1 f2x1 l2x1 l2x1d0 l2x1d1 c2x2 f2x2 l2x2 l2x2d0 l2x2d1 c2x3 f2x3 l2x3 l2x3d0 l2x3d1 c2x4 f2x4 l2x4 l2x4d0 l2x4d1 c2x5 f2x5 l2x5 l2x5d0 l2x5d1
  have c3x0 := Own.cell O3 0 rfl
  have f3x0 := Own.free O3 0 rfl
  have l3x0 := Own.lt O3 0 rfl
  have l3x0d0 := le_up 0 l3x0
  have l3x0d1 := le_up 1 l3x0
  simp only [upN] at l3x0d0 l3x0d1
  have c3x1 := Own.cell O3 1 rfl
  have f3x1 := Own.free O3 1 rfl
  have l3x1 := Own.lt O3 1 rfl
  have l3x1d0 := le_up 0 l3x1
  have l3x1d1 := le_up 1 l3x1
  simp only [upN] at l3x1d0 l3x1d1
  have c3x2 := Own.cell O3 2 rfl
  have f3x2 := Own.free O3 2 rfl
  have l3x2 := Own.lt O3 2 rfl
  have l3x2d0 := le_up 0 l3x2
  have l3x2d1 := le_up 1 l3x2
  simp only [upN] at l3x2d0 l3x2d1
  have c3x3 := Own.cell O3 3 rfl
  have f3x3 := Own.free O3 3 rfl
  have l3x3 := Own.lt O3 3 rfl
  have l3x3d0 := le_up 0 l3x3
  have l3x3d1 := le_up 1 l3x3
  simp only [upN] at l3x3d0 l3x3d1
  have c3x4 := Own.cell O3 4 rfl
  have f3x4 := Own.free O3 4 rfl
  have l3x4 := Own.lt O3 4 rfl
  have l3x4d0 := le_up 0 l3x4
  have l3x4d1 := le_up 1 l3x4
  simp only [upN] at l3x4d0 l3x4d1
  have c3x5 := Own.cell O3 5 rfl
  have f3x5 := Own.free O3 5 rfl
  have l3x5 := Own.lt O3 5 rfl
  have l3x5d0 := le_up 0 l3x5
  have l3x5d1 := le_up 1 l3x5
  simp only [upN] at l3x5d0 l3x5d1
  have c3x6 := Own.cell O3 6 rfl
  have f3x6 := Own.free O3 6 rfl
  have l3x6 := Own.lt O3 6 rfl
  have l3x6d0 := le_up 0 l3x6
  have l3x6d1 := le_up 1 l3x6
  simp only [upN] at l3x6d0 l3x6d1
  have c3x7 := Own.cell O3 7 rfl
  have f3x7 := Own.free O3 7 rfl
  have l3x7 := Own.lt O3 7 rfl
  have l3x7d0 := le_up 0 l3x7
  have l3x7d1 := le_up 1 l3x7
  simp only [upN] at l3x7d0 l3x7d1
  have HO3 := Lib.hid O3
  clear O3 hb3
  go_wp2_with fail
  refine (HRO1.out _).mono ?_
  rintro e w4 ⟨rfl, hb4⟩
  have O4 := Own.grow' hb4 (Own.new HO3.out (w3.heap.size) (by first | rfl | simp))
  try simp only [List.setIfInBounds_toArray, List.set_cons_zero, List.set_cons_succ] at O4
  have bw4 : Below w.heap.size w w4 := Below.trans (by go_grown) (Below.mono hb4 (by first | omega | (simp; done) | (simp; omega)))
  have zw4 := Below.size hb4
  try simp only [World.size_alloc, World.size_drew, World.size_setCell] at zw4
  clear c3x0 f3x0 l3x0 l3x0d0 l3x0d1 c3x1 f3x1 l3x1 l3x1d0 l3x1d1 c3x2 f3x2 l3x2 l3x2d0 l3x2d1 c3x3 f3x3 l3x3 l3x3d0 l3x3d1 c3x4 f3x4 l3x4 l3x4d0 l3x4d1 c3x5 f3x5 l3x5 l3x5d0 l3x5d1 c3x6 f3x6 l3x6 l3x6d0 l3x6d1 c3x7 f3x7 l3x7 l3x7d0 l3x7d1
  have c4x0 := Own.cell O4 0 rfl
  have f4x0 := Own.free O4 0 rfl
  have l4x0 := Own.lt O4 0 rfl
  have l4x0d0 := le_up 0 l4x0
  have l4x0d1 := le_up 1 l4x0
  simp only [upN] at l4x0d0 l4x0d1
  have c4x1 := Own.cell O4 1 rfl
  have f4x1 := Own.free O4 1 rfl
  have l4x1 := Own.lt O4 1 rfl
  have l4x1d0 := le_up 0 l4x1
  have l4x1d1 := le_up 1 l4x1
  simp only [upN] at l4x1d0 l4x1d1
  have c4x2 := Own.cell O4 2 rfl
  have f4x2 := Own.free O4 2 rfl
  have l4x2 := Own.lt O4 2 rfl
  have l4x2d0 := le_up 0 l4x2
  have l4x2d1 := le_up 1 l4x2
  simp only [upN] at l4x2d0 l4x2d1
  have c4x3 := Own.cell O4 3 rfl
  have f4x3 := Own.free O4 3 rfl
  have l4x3 := Own.lt O4 3 rfl
  have l4x3d0 := le_up 0 l4x3
  have l4x3d1 := le_up 1 l4x3
  simp only [upN] at l4x3d0 l4x3d1
  have c4x4 := Own.cell O4 4 rfl
  have f4x4 := Own.free O4 4 rfl
  have l4x4 := Own.lt O4 4 rfl
  have l4x4d0 := le_up 0 l4x4
  have l4x4d1 := le_up 1 l4x4
  simp only [upN] at l4x4d0 l4x4d1
  have c4x5 := Own.cell O4 5 rfl
  have f4x5 := Own.free O4 5 rfl
  have l4x5 := Own.lt O4 5 rfl
  have l4x5d0 := le_up 0 l4x5
  have l4x5d1 := le_up 1 l4x5
  simp only [upN] at l4x5d0 l4x5d1
  have c4x6 := Own.cell O4 6 rfl
  have f4x6 := Own.free O4 6 rfl
  have l4x6 := Own.lt O4 6 rfl
  have l4x6d0 := le_up 0 l4x6
  have l4x6d1 := le_up 1 l4x6
  simp only [upN] at l4x6d0 l4x6d1
  have c4x7 := Own.cell O4 7 rfl
  have f4x7 := Own.free O4 7 rfl
  have l4x7 := Own.lt O4 7 rfl
  have l4x7d0 := le_up 0 l4x7
  have l4x7d1 := le_up 1 l4x7
  simp only [upN] at l4x7d0 l4x7d1
  have c4x8 := Own.cell O4 8 rfl
  have f4x8 := Own.free O4 8 rfl
  have l4x8 := Own.lt O4 8 rfl
  have l4x8d0 := le_up 0 l4x8
  have l4x8d1 := le_up 1 l4x8
  simp only [upN] at l4x8d0 l4x8d1
  have HO4 := Lib.hid O4
  clear O4 hb4
  go_wp2_with fail
  refine (HRO2.out _).mono ?_
  rintro e w5 ⟨rfl, hb5⟩
  have O5 := Own.grow' hb5 HO4.out
  try simp only [List.setIfInBounds_toArray, List.set_cons_zero, List.set_cons_succ] at O5
  have bw5 : Below w.heap.size w w5 := Below.trans (by go_grown) (Below.mono hb5 (by first | omega | (simp; done) | (simp; omega)))
  have zw5 := Below.size hb5
  try simp only [World.size_alloc, World.size_drew, World.size_setCell] at zw5
  clear c4x0 f4x0 l4x0 l4x0d0 l4x0d1 c4x1 f4x1 l4x1 l4x1d0 l4x1d1 c4x2 f4x2 l4x2 l4x2d0 l4x2d1 c4x3 f4x3 l4x3 l4x3d0 l4x3d1 c4x4 f4x4 l4x4 l4x4d0 l4x4d1 c4x5 f4x5 l4x5 l4x5d0 l4x5d1 c4x6 f4x6 l4x6 l4x6d0 l4x6d1 c4x7 f4x7 l4x7 l4x7d0 l4x7d1 c4x8 f4x8 l4x8 l4x8d0 l4x8d1
  have c5x0 := Own.cell O5 0 rfl
  have f5x0 := Own.free O5 0 rfl
  have l5x0 := Own.lt O5 0 rfl
  have l5x0d0 := le_up 0 l5x0
  have l5x0d1 := le_up 1 l5x0
  simp only [upN] at l5x0d0 l5x0d1
  have c5x1 := Own.cell O5 1 rfl
  have f5x1 := Own.free O5 1 rfl
  have l5x1 := Own.lt O5 1 rfl
  have l5x1d0 := le_up 0 l5x1
  have l5x1d1 := le_up 1 l5x1
  simp only [upN] at l5x1d0 l5x1d1
  have c5x2 := Own.cell O5 2 rfl
  have f5x2 := Own.free O5 2 rfl
  have l5x2 := Own.lt O5 2 rfl
  have l5x2d0 := le_up 0 l5x2
  have l5x2d1 := le_up 1 l5x2
  simp only [upN] at l5x2d0 l5x2d1
  have c5x3 := Own.cell O5 3 rfl
  have f5x3 := Own.free O5 3 rfl
  have l5x3 := Own.lt O5 3 rfl
  have l5x3d0 := le_up 0 l5x3
  have l5x3d1 := le_up 1 l5x3
  simp only [upN] at l5x3d0 l5x3d1
  have c5x4 := Own.cell O5 4 rfl
  have f5x4 := Own.free O5 4 rfl
  have l5x4 := Own.lt O5 4 rfl
  have l5x4d0 := le_up 0 l5x4
  have l5x4d1 := le_up 1 l5x4
  simp only [upN] at l5x4d0 l5x4d1
  have c5x5 := Own.cell O5 5 rfl
  have f5x5 := Own.free O5 5 rfl
  have l5x5 := Own.lt O5 5 rfl
  have l5x5d0 := le_up 0 l5x5
  have l5x5d1 := le_up 1 l5x5
  simp only [upN] at l5x5d0 l5x5d1
  have c5x6 := Own.cell O5 6 rfl
  have f5x6 := Own.free O5 6 rfl
  have l5x6 := Own.lt O5 6 rfl
  have l5x6d0 := le_up 0 l5x6
  have l5x6d1 := le_up 1 l5x6
  simp only [upN] at l5x6d0 l5x6d1
  have c5x7 := Own.cell O5 7 rfl
  have f5x7 := Own.free O5 7 rfl
  have l5x7 := Own.lt O5 7 rfl
  have l5x7d0 := le_up 0 l5x7
  have l5x7d1 := le_up 1 l5x7
  simp only [upN] at l5x7d0 l5x7d1
  have c5x8 := Own.cell O5 8 rfl
  have f5x8 := Own.free O5 8 rfl
  have l5x8 := Own.lt O5 8 rfl
  have l5x8d0 := le_up 0 l5x8
  have l5x8d1 := le_up 1 l5x8
  simp only [upN] at l5x8d0 l5x8d1
  have HO5 := Lib.hid O5
  clear O5 hb5
  go_wp2_with fail
  refine bodyPost_ret (v := W (x + y)) (by simp [results, Try.results9, go_sem, *]) rfl ?_
  exact ⟨rfl, by go_grown⟩
theorem refAddModG (a b m : BitVec 256) (w : World) (h0 : ¬ m = 0#256) : Calls Try.prog 9 #[W a, W b, W m] w fun e w' => e = .returned (W (addM (a % m) (b % m) m)) ∧ Below w.heap.size w w' := by
  unfold addM
  by_cases h1 : (a % m + b % m).toNat < (a % m).toNat
  · rw [decide_eq_true h1, Bool.true_or, if_pos rfl]; exact refaddmod_t1 a b m w h0 h1
  · rw [decide_eq_false h1, Bool.false_or]
    by_cases h2 : m.toNat ≤ (a % m + b % m).toNat
    · rw [decide_eq_true h2, if_pos rfl]; exact refaddmod_t2 a b m w h0 h1 h2
    · rw [decide_eq_false h2, if_neg (by simp)]; exact refaddmod_f a b m w h0 h1 h2
theorem refAddModW (a b m : BitVec 256) (w : World) : Calls Try.prog 9 #[W a, W b, W m] w fun e w' => e = .returned (W (addMW a b m)) ∧ Below w.heap.size w w' := by
  by_cases h : m = 0#256
  · subst h
    exact refaddmod_z a b w
  · rw [← addM_W a b m h]
    exact refAddModG a b m w h
end Go.Proofs.Ytjmaigienigpnaa
