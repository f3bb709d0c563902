/- What is left of products by the document. No condition. -/
import Derived.Test.YtjmaigienigpnaaSpF
set_option linter.unusedVariables false
set_option linter.unusedSimpArgs false
namespace Go.Proofs.Ytjmaigienigpnaa
open Go.RowKit

set_option maxRecDepth 20000 in
set_option maxHeartbeats 2000000 in
theorem refmulmod_z (a b : BitVec 256) (w : World)  : Calls Try.prog 11 #[W a, W b, W 0#256] w fun e w' => e = .returned (W 0#256) ∧ Below w.heap.size w w' := by
  have hq := eqZ 0#256
  rw [decide_eq_true rfl] at hq
  rw [W_zero]
  have z0 := L_zero 0
  have z1 := L_zero 1
  have z2 := L_zero 2
  have z3 := L_zero 3
  rw [z0, z1, z2, z3] at hq
  go_enter Try.func11, Try.ntmps11
  go_wp2_with fail
  refine bodyPost_ret (v := .agg #[.int .u64 0, .int .u64 0, .int .u64 0, .int .u64 0]) (by simp [results, Try.results11, go_sem, *]) rfl ?_
  exact ⟨rfl, by go_grown⟩
set_option maxRecDepth 20000 in
set_option maxHeartbeats 8000000 in
theorem refmulmod_g (a b m : BitVec 256) (w : World) (h0 : ¬ m = 0#256) : Calls Try.prog 11 #[W a, W b, W m] w fun e w' => e = .returned (W (mulMn a b m 0)) ∧ Below w.heap.size w w' := by
  have hbp := pos_of_ne h0
  have hq := eqZ m
  rw [decide_eq_false h0] at hq
  have hd := fun V => refDivideW a m V
  rw [show modW a m = a % m from if_neg h0, show divW a m = a / m from if_neg h0] at hd
  have HD := Lib.hid hd
  clear hd
  go_enter Try.func11, Try.ntmps11
  go_wp2_with fail
  refine (HD.out _).mono ?_
  rintro e w1 ⟨rfl, hb1⟩
  have O1 := Own.grow' hb1 (Own.new (Own.new (Own.new (Own.new (Own.new (Own.nil w) (w.heap.size) (by first | rfl | simp)) (w.heap.size + 1) (by simp)) (w.heap.size + 1 + 1) (by simp)) (w.heap.size + 1 + 1 + 1) (by simp)) (w.heap.size + 1 + 1 + 1 + 1) (by simp))
  try simp only [List.setIfInBounds_toArray, List.set_cons_zero, List.set_cons_succ] at O1
  have bw1 : Below w.heap.size w w1 := Below.trans (by go_grown) (Below.mono hb1 (by first | omega | (simp; done) | (simp; omega)))
  have zw1 := Below.size hb1
  try simp only [World.size_alloc, World.size_drew, World.size_setCell] at zw1
  have c1x0 := Own.cell O1 0 rfl
  have f1x0 := Own.free O1 0 rfl
  have l1x0 := Own.lt O1 0 rfl
  have l1x0d0 := le_up 0 l1x0
  have l1x0d1 := le_up 1 l1x0
  simp only [upN] at l1x0d0 l1x0d1
  have c1x1 := Own.cell O1 1 rfl
  have f1x1 := Own.free O1 1 rfl
  have l1x1 := Own.lt O1 1 rfl
  have l1x1d0 := le_up 0 l1x1
  have l1x1d1 := le_up 1 l1x1
  simp only [upN] at l1x1d0 l1x1d1
  have c1x2 := Own.cell O1 2 rfl
  have f1x2 := Own.free O1 2 rfl
  have l1x2 := Own.lt O1 2 rfl
  have l1x2d0 := le_up 0 l1x2
  have l1x2d1 := le_up 1 l1x2
  simp only [upN] at l1x2d0 l1x2d1
  have c1x3 := Own.cell O1 3 rfl
  have f1x3 := Own.free O1 3 rfl
  have l1x3 := Own.lt O1 3 rfl
  have l1x3d0 := le_up 0 l1x3
  have l1x3d1 := le_up 1 l1x3
  simp only [upN] at l1x3d0 l1x3d1
  have c1x4 := Own.cell O1 4 rfl
  have f1x4 := Own.free O1 4 rfl
  have l1x4 := Own.lt O1 4 rfl
  have l1x4d0 := le_up 0 l1x4
  have l1x4d1 := le_up 1 l1x4
  simp only [upN] at l1x4d0 l1x4d1
  have HO1 := Lib.hid O1
  clear O1 hb1
  go_wp2_with fail
  go_loopw [10] (fun i wr => LpRel (fun j => Own [(w1.heap.size + 1, wc (a % m), 24), (w1.heap.size, wc (a / m), 24), (w.heap.size + 1 + 1 + 1 + 1, wc (mulMn a b m j), 24), (w.heap.size + 1 + 1 + 1, wc 0, 24), (w.heap.size + 1 + 1, wc m, 24), (w.heap.size + 1, wc b, 24), (w.heap.size, wc a, 24)]) 256 w i wr) (fun i _ => (intOf i + 1).toNat)
  case atStart => exact ⟨256, Nat.le_refl _, by simp, Own.eqv (Own.new (Own.new HO1.out (w1.heap.size) (by first | rfl | simp)) (w1.heap.size + 1) (by simp)) (by rw [mulMn_top, show (0#256 : BitVec 256) = 0 from rfl, wc_zero]), by go_grown⟩
  case round =>
    obtain ⟨j, hj, rfl, hO, hb⟩ := hrel
    try dsimp only at hO
    rcases j with _ | j
    · have hd0 : decide ((0 : Int) ≤ ((0 : Nat) : Int) - 1) = false := by simp
      have O2 := hO
      have c2x0 := Own.cell O2 0 rfl
      have f2x0 := Own.free O2 0 rfl
      have l2x0 := Own.lt O2 0 rfl
      have l2x0d0 := le_up 0 l2x0
      have l2x0d1 := le_up 1 l2x0
      simp only [upN] at l2x0d0 l2x0d1
      have c2x1 := Own.cell O2 1 rfl
      have f2x1 := Own.free O2 1 rfl
      have l2x1 := Own.lt O2 1 rfl
      have l2x1d0 := le_up 0 l2x1
      have l2x1d1 := le_up 1 l2x1
      simp only [upN] at l2x1d0 l2x1d1
      have c2x2 := Own.cell O2 2 rfl
      have f2x2 := Own.free O2 2 rfl
      have l2x2 := Own.lt O2 2 rfl
      have l2x2d0 := le_up 0 l2x2
      have l2x2d1 := le_up 1 l2x2
      simp only [upN] at l2x2d0 l2x2d1
      have c2x3 := Own.cell O2 3 rfl
      have f2x3 := Own.free O2 3 rfl
      have l2x3 := Own.lt O2 3 rfl
      have l2x3d0 := le_up 0 l2x3
      have l2x3d1 := le_up 1 l2x3
      simp only [upN] at l2x3d0 l2x3d1
      have c2x4 := Own.cell O2 4 rfl
      have f2x4 := Own.free O2 4 rfl
      have l2x4 := Own.lt O2 4 rfl
      have l2x4d0 := le_up 0 l2x4
      have l2x4d1 := le_up 1 l2x4
      simp only [upN] at l2x4d0 l2x4d1
      have c2x5 := Own.cell O2 5 rfl
      have f2x5 := Own.free O2 5 rfl
      have l2x5 := Own.lt O2 5 rfl
      have l2x5d0 := le_up 0 l2x5
      have l2x5d1 := le_up 1 l2x5
      simp only [upN] at l2x5d0 l2x5d1
      have c2x6 := Own.cell O2 6 rfl
      have f2x6 := Own.free O2 6 rfl
      have l2x6 := Own.lt O2 6 rfl
      have l2x6d0 := le_up 0 l2x6
      have l2x6d1 := le_up 1 l2x6
      simp only [upN] at l2x6d0 l2x6d1
      have HO2 := Lib.hid O2
      clear O2
      go_wp2_with fail
      refine bodyPost_ret (v := W (mulMn a b m 0)) (by simp [results, Try.results11, go_sem, *]) rfl ?_
      exact ⟨rfl, by go_grown⟩
    · have hji : (((j + 1 : Nat) : Int) - 1) = (j : Int) := by omega
      rw [hji]
      have hd0 : decide ((0 : Int) ≤ (j : Int)) = true := by simp
      have HBI := Lib.hid (fun V => refBitW b j (by omega) V)
      have HS0 := Lib.hid (mulMn_step0 a b m j hbp)
      have HS1 := Lib.hid (mulMn_step1 a b m j hbp)
      generalize hr1 : mulMn a b m j = r1 at *
      generalize mulMn a b m (j + 1) = r at *
      generalize hxe : a % m = x at *
      generalize a / m = q at *
      generalize b.getLsbD j = bt at *
      have HB1 := Lib.hid (fun V => refBelowW r r m V)
      have HB2 := Lib.hid (fun V => refBelowW (addM r r m) x m V)
      generalize addM r r m = d at *
      cases bt
      · clear HS1 HB2
        obtain rfl := HS0.out rfl
        clear HS0
        have O3 := hO
        have c3x0 := Own.cell O3 0 rfl
        have f3x0 := Own.free O3 0 rfl
        have l3x0 := Own.lt O3 0 rfl
        have l3x0d0 := le_up 0 l3x0
        have l3x0d1 := le_up 1 l3x0
        simp only [upN] at l3x0d0 l3x0d1
        have c3x1 := Own.cell O3 1 rfl
        have f3x1 := Own.free O3 1 rfl
        have l3x1 := Own.lt O3 1 rfl
        have l3x1d0 := le_up 0 l3x1
        have l3x1d1 := le_up 1 l3x1
        simp only [upN] at l3x1d0 l3x1d1
        have c3x2 := Own.cell O3 2 rfl
        have f3x2 := Own.free O3 2 rfl
        have l3x2 := Own.lt O3 2 rfl
        have l3x2d0 := le_up 0 l3x2
        have l3x2d1 := le_up 1 l3x2
        simp only [upN] at l3x2d0 l3x2d1
        have c3x3 := Own.cell O3 3 rfl
        have f3x3 := Own.free O3 3 rfl
        have l3x3 := Own.lt O3 3 rfl
        have l3x3d0 := le_up 0 l3x3
        have l3x3d1 := le_up 1 l3x3
        simp only [upN] at l3x3d0 l3x3d1
        have c3x4 := Own.cell O3 4 rfl
        have f3x4 := Own.free O3 4 rfl
        have l3x4 := Own.lt O3 4 rfl
        have l3x4d0 := le_up 0 l3x4
        have l3x4d1 := le_up 1 l3x4
        simp only [upN] at l3x4d0 l3x4d1
        have c3x5 := Own.cell O3 5 rfl
        have f3x5 := Own.free O3 5 rfl
        have l3x5 := Own.lt O3 5 rfl
        have l3x5d0 := le_up 0 l3x5
        have l3x5d1 := le_up 1 l3x5
        simp only [upN] at l3x5d0 l3x5d1
        have c3x6 := Own.cell O3 6 rfl
        have f3x6 := Own.free O3 6 rfl
        have l3x6 := Own.lt O3 6 rfl
        have l3x6d0 := le_up 0 l3x6
        have l3x6d1 := le_up 1 l3x6
        simp only [upN] at l3x6d0 l3x6d1
        have HO3 := Lib.hid O3
        clear O3
        go_wp2_with fail
        refine (HB1.out _).mono ?_
        rintro e w4 ⟨rfl, hb4⟩
        have O4 := Own.grow' hb4 HO3.out
        try simp only [List.setIfInBounds_toArray, List.set_cons_zero, List.set_cons_succ] at O4
        have bw4 : Below w.heap.size w w4 := Below.trans (by go_grown) (Below.mono hb4 (by first | omega | (simp; done) | (simp; omega)))
        have zw4 := Below.size hb4
        try simp only [World.size_alloc, World.size_drew, World.size_setCell] at zw4
        clear c3x0 f3x0 l3x0 l3x0d0 l3x0d1 c3x1 f3x1 l3x1 l3x1d0 l3x1d1 c3x2 f3x2 l3x2 l3x2d0 l3x2d1 c3x3 f3x3 l3x3 l3x3d0 l3x3d1 c3x4 f3x4 l3x4 l3x4d0 l3x4d1 c3x5 f3x5 l3x5 l3x5d0 l3x5d1 c3x6 f3x6 l3x6 l3x6d0 l3x6d1
        have c4x0 := Own.cell O4 0 rfl
        have f4x0 := Own.free O4 0 rfl
        have l4x0 := Own.lt O4 0 rfl
        have l4x0d0 := le_up 0 l4x0
        have l4x0d1 := le_up 1 l4x0
        simp only [upN] at l4x0d0 l4x0d1
        have c4x1 := Own.cell O4 1 rfl
        have f4x1 := Own.free O4 1 rfl
        have l4x1 := Own.lt O4 1 rfl
        have l4x1d0 := le_up 0 l4x1
        have l4x1d1 := le_up 1 l4x1
        simp only [upN] at l4x1d0 l4x1d1
        have c4x2 := Own.cell O4 2 rfl
        have f4x2 := Own.free O4 2 rfl
        have l4x2 := Own.lt O4 2 rfl
        have l4x2d0 := le_up 0 l4x2
        have l4x2d1 := le_up 1 l4x2
        simp only [upN] at l4x2d0 l4x2d1
        have c4x3 := Own.cell O4 3 rfl
        have f4x3 := Own.free O4 3 rfl
        have l4x3 := Own.lt O4 3 rfl
        have l4x3d0 := le_up 0 l4x3
        have l4x3d1 := le_up 1 l4x3
        simp only [upN] at l4x3d0 l4x3d1
        have c4x4 := Own.cell O4 4 rfl
        have f4x4 := Own.free O4 4 rfl
        have l4x4 := Own.lt O4 4 rfl
        have l4x4d0 := le_up 0 l4x4
        have l4x4d1 := le_up 1 l4x4
        simp only [upN] at l4x4d0 l4x4d1
        have c4x5 := Own.cell O4 5 rfl
        have f4x5 := Own.free O4 5 rfl
        have l4x5 := Own.lt O4 5 rfl
        have l4x5d0 := le_up 0 l4x5
        have l4x5d1 := le_up 1 l4x5
        simp only [upN] at l4x5d0 l4x5d1
        have c4x6 := Own.cell O4 6 rfl
        have f4x6 := Own.free O4 6 rfl
        have l4x6 := Own.lt O4 6 rfl
        have l4x6d0 := le_up 0 l4x6
        have l4x6d1 := le_up 1 l4x6
        simp only [upN] at l4x6d0 l4x6d1
        have HO4 := Lib.hid O4
        clear O4 hb4
        go_upto_region 9 with (fail)
        refine wp_name fun wn9x hwn9x => ?_
        have hOwn9x := (show Own _ wn9x by rw [hwn9x]; exact (Own.set (Own.set (Own.set (Own.set HO4.out 2 rfl (Ne1.cons (by first | omega | (simp; omega)) (Ne1.cons (by first | omega | (simp; omega)) (Ne1.cons (by first | omega | (simp; omega)) (Ne1.cons (by first | omega | (simp; omega)) (Ne1.cons (by first | omega | (simp; omega)) (Ne1.cons (by first | omega | (simp; omega)) Ne1.nil))))))) 2 rfl (Ne1.cons (by first | omega | (simp; omega)) (Ne1.cons (by first | omega | (simp; omega)) (Ne1.cons (by first | omega | (simp; omega)) (Ne1.cons (by first | omega | (simp; omega)) (Ne1.cons (by first | omega | (simp; omega)) (Ne1.cons (by first | omega | (simp; omega)) Ne1.nil))))))) 2 rfl (Ne1.cons (by first | omega | (simp; omega)) (Ne1.cons (by first | omega | (simp; omega)) (Ne1.cons (by first | omega | (simp; omega)) (Ne1.cons (by first | omega | (simp; omega)) (Ne1.cons (by first | omega | (simp; omega)) (Ne1.cons (by first | omega | (simp; omega)) Ne1.nil))))))) 2 rfl (Ne1.cons (by first | omega | (simp; omega)) (Ne1.cons (by first | omega | (simp; omega)) (Ne1.cons (by first | omega | (simp; omega)) (Ne1.cons (by first | omega | (simp; omega)) (Ne1.cons (by first | omega | (simp; omega)) (Ne1.cons (by first | omega | (simp; omega)) Ne1.nil))))))))
        try simp only [List.setIfInBounds_toArray, List.set_cons_zero, List.set_cons_succ] at hOwn9x
        have hBwn9x : Below w.heap.size w wn9x := by rw [hwn9x]; go_grown
        clear hwn9x
        have bw5 := hBwn9x
        clear c4x0 f4x0 l4x0 l4x0d0 l4x0d1 c4x1 f4x1 l4x1 l4x1d0 l4x1d1 c4x2 f4x2 l4x2 l4x2d0 l4x2d1 c4x3 f4x3 l4x3 l4x3d0 l4x3d1 c4x4 f4x4 l4x4 l4x4d0 l4x4d1 c4x5 f4x5 l4x5 l4x5d0 l4x5d1 c4x6 f4x6 l4x6 l4x6d0 l4x6d1
        have O5 := hOwn9x
        have c5x0 := Own.cell O5 0 rfl
        have f5x0 := Own.free O5 0 rfl
        have l5x0 := Own.lt O5 0 rfl
        have l5x0d0 := le_up 0 l5x0
        have l5x0d1 := le_up 1 l5x0
        simp only [upN] at l5x0d0 l5x0d1
        have c5x1 := Own.cell O5 1 rfl
        have f5x1 := Own.free O5 1 rfl
        have l5x1 := Own.lt O5 1 rfl
        have l5x1d0 := le_up 0 l5x1
        have l5x1d1 := le_up 1 l5x1
        simp only [upN] at l5x1d0 l5x1d1
        have c5x2 := Own.cell O5 2 rfl
        have f5x2 := Own.free O5 2 rfl
        have l5x2 := Own.lt O5 2 rfl
        have l5x2d0 := le_up 0 l5x2
        have l5x2d1 := le_up 1 l5x2
        simp only [upN] at l5x2d0 l5x2d1
        have c5x3 := Own.cell O5 3 rfl
        have f5x3 := Own.free O5 3 rfl
        have l5x3 := Own.lt O5 3 rfl
        have l5x3d0 := le_up 0 l5x3
        have l5x3d1 := le_up 1 l5x3
        simp only [upN] at l5x3d0 l5x3d1
        have c5x4 := Own.cell O5 4 rfl
        have f5x4 := Own.free O5 4 rfl
        have l5x4 := Own.lt O5 4 rfl
        have l5x4d0 := le_up 0 l5x4
        have l5x4d1 := le_up 1 l5x4
        simp only [upN] at l5x4d0 l5x4d1
        have c5x5 := Own.cell O5 5 rfl
        have f5x5 := Own.free O5 5 rfl
        have l5x5 := Own.lt O5 5 rfl
        have l5x5d0 := le_up 0 l5x5
        have l5x5d1 := le_up 1 l5x5
        simp only [upN] at l5x5d0 l5x5d1
        have c5x6 := Own.cell O5 6 rfl
        have f5x6 := Own.free O5 6 rfl
        have l5x6 := Own.lt O5 6 rfl
        have l5x6d0 := le_up 0 l5x6
        have l5x6d1 := le_up 1 l5x6
        simp only [upN] at l5x6d0 l5x6d1
        have HO5 := Lib.hid O5
        clear O5
        go_wp2_with fail
        refine (HBI.out _).mono ?_
        rintro e w6 ⟨rfl, hb6⟩
        have O6 := Own.grow' hb6 HO5.out
        try simp only [List.setIfInBounds_toArray, List.set_cons_zero, List.set_cons_succ] at O6
        have bw6 : Below w.heap.size w w6 := Below.trans (by go_grown) (Below.mono hb6 (by first | omega | (simp; done) | (simp; omega)))
        have zw6 := Below.size hb6
        try simp only [World.size_alloc, World.size_drew, World.size_setCell] at zw6
        clear c5x0 f5x0 l5x0 l5x0d0 l5x0d1 c5x1 f5x1 l5x1 l5x1d0 l5x1d1 c5x2 f5x2 l5x2 l5x2d0 l5x2d1 c5x3 f5x3 l5x3 l5x3d0 l5x3d1 c5x4 f5x4 l5x4 l5x4d0 l5x4d1 c5x5 f5x5 l5x5 l5x5d0 l5x5d1 c5x6 f5x6 l5x6 l5x6d0 l5x6d1
        have c6x0 := Own.cell O6 0 rfl
        have f6x0 := Own.free O6 0 rfl
        have l6x0 := Own.lt O6 0 rfl
        have l6x0d0 := le_up 0 l6x0
        have l6x0d1 := le_up 1 l6x0
        simp only [upN] at l6x0d0 l6x0d1
        have c6x1 := Own.cell O6 1 rfl
        have f6x1 := Own.free O6 1 rfl
        have l6x1 := Own.lt O6 1 rfl
        have l6x1d0 := le_up 0 l6x1
        have l6x1d1 := le_up 1 l6x1
        simp only [upN] at l6x1d0 l6x1d1
        have c6x2 := Own.cell O6 2 rfl
        have f6x2 := Own.free O6 2 rfl
        have l6x2 := Own.lt O6 2 rfl
        have l6x2d0 := le_up 0 l6x2
        have l6x2d1 := le_up 1 l6x2
        simp only [upN] at l6x2d0 l6x2d1
        have c6x3 := Own.cell O6 3 rfl
        have f6x3 := Own.free O6 3 rfl
        have l6x3 := Own.lt O6 3 rfl
        have l6x3d0 := le_up 0 l6x3
        have l6x3d1 := le_up 1 l6x3
        simp only [upN] at l6x3d0 l6x3d1
        have c6x4 := Own.cell O6 4 rfl
        have f6x4 := Own.free O6 4 rfl
        have l6x4 := Own.lt O6 4 rfl
        have l6x4d0 := le_up 0 l6x4
        have l6x4d1 := le_up 1 l6x4
        simp only [upN] at l6x4d0 l6x4d1
        have c6x5 := Own.cell O6 5 rfl
        have f6x5 := Own.free O6 5 rfl
        have l6x5 := Own.lt O6 5 rfl
        have l6x5d0 := le_up 0 l6x5
        have l6x5d1 := le_up 1 l6x5
        simp only [upN] at l6x5d0 l6x5d1
        have c6x6 := Own.cell O6 6 rfl
        have f6x6 := Own.free O6 6 rfl
        have l6x6 := Own.lt O6 6 rfl
        have l6x6d0 := le_up 0 l6x6
        have l6x6d1 := le_up 1 l6x6
        simp only [upN] at l6x6d0 l6x6d1
        have HO6 := Lib.hid O6
        clear O6 hb6
        go_wp2_with fail
        refine ⟨⟨j, by omega, rfl, ?_, by go_grown⟩, by simp only [intOf]; omega⟩
        dsimp only; rw [hr1]; exact Own.eqv HO6.out (by first | rfl | simp only [List.setIfInBounds_toArray, List.set_cons_zero, List.set_cons_succ])
      · clear HS0
        obtain rfl := HS1.out rfl
        clear HS1
        generalize addM d x m = r1 at *
        have O7 := hO
        have c7x0 := Own.cell O7 0 rfl
        have f7x0 := Own.free O7 0 rfl
        have l7x0 := Own.lt O7 0 rfl
        have l7x0d0 := le_up 0 l7x0
        have l7x0d1 := le_up 1 l7x0
        simp only [upN] at l7x0d0 l7x0d1
        have c7x1 := Own.cell O7 1 rfl
        have f7x1 := Own.free O7 1 rfl
        have l7x1 := Own.lt O7 1 rfl
        have l7x1d0 := le_up 0 l7x1
        have l7x1d1 := le_up 1 l7x1
        simp only [upN] at l7x1d0 l7x1d1
        have c7x2 := Own.cell O7 2 rfl
        have f7x2 := Own.free O7 2 rfl
        have l7x2 := Own.lt O7 2 rfl
        have l7x2d0 := le_up 0 l7x2
        have l7x2d1 := le_up 1 l7x2
        simp only [upN] at l7x2d0 l7x2d1
        have c7x3 := Own.cell O7 3 rfl
        have f7x3 := Own.free O7 3 rfl
        have l7x3 := Own.lt O7 3 rfl
        have l7x3d0 := le_up 0 l7x3
        have l7x3d1 := le_up 1 l7x3
        simp only [upN] at l7x3d0 l7x3d1
        have c7x4 := Own.cell O7 4 rfl
        have f7x4 := Own.free O7 4 rfl
        have l7x4 := Own.lt O7 4 rfl
        have l7x4d0 := le_up 0 l7x4
        have l7x4d1 := le_up 1 l7x4
        simp only [upN] at l7x4d0 l7x4d1
        have c7x5 := Own.cell O7 5 rfl
        have f7x5 := Own.free O7 5 rfl
        have l7x5 := Own.lt O7 5 rfl
        have l7x5d0 := le_up 0 l7x5
        have l7x5d1 := le_up 1 l7x5
        simp only [upN] at l7x5d0 l7x5d1
        have c7x6 := Own.cell O7 6 rfl
        have f7x6 := Own.free O7 6 rfl
        have l7x6 := Own.lt O7 6 rfl
        have l7x6d0 := le_up 0 l7x6
        have l7x6d1 := le_up 1 l7x6
        simp only [upN] at l7x6d0 l7x6d1
        have HO7 := Lib.hid O7
        clear O7
        go_wp2_with fail
        refine (HB1.out _).mono ?_
        rintro e w8 ⟨rfl, hb8⟩
        have O8 := Own.grow' hb8 HO7.out
        try simp only [List.setIfInBounds_toArray, List.set_cons_zero, List.set_cons_succ] at O8
        have bw8 : Below w.heap.size w w8 := Below.trans (by go_grown) (Below.mono hb8 (by first | omega | (simp; done) | (simp; omega)))
        have zw8 := Below.size hb8
        try simp only [World.size_alloc, World.size_drew, World.size_setCell] at zw8
        clear c7x0 f7x0 l7x0 l7x0d0 l7x0d1 c7x1 f7x1 l7x1 l7x1d0 l7x1d1 c7x2 f7x2 l7x2 l7x2d0 l7x2d1 c7x3 f7x3 l7x3 l7x3d0 l7x3d1 c7x4 f7x4 l7x4 l7x4d0 l7x4d1 c7x5 f7x5 l7x5 l7x5d0 l7x5d1 c7x6 f7x6 l7x6 l7x6d0 l7x6d1
        have c8x0 := Own.cell O8 0 rfl
        have f8x0 := Own.free O8 0 rfl
        have l8x0 := Own.lt O8 0 rfl
        have l8x0d0 := le_up 0 l8x0
        have l8x0d1 := le_up 1 l8x0
        simp only [upN] at l8x0d0 l8x0d1
        have c8x1 := Own.cell O8 1 rfl
        have f8x1 := Own.free O8 1 rfl
        have l8x1 := Own.lt O8 1 rfl
        have l8x1d0 := le_up 0 l8x1
        have l8x1d1 := le_up 1 l8x1
        simp only [upN] at l8x1d0 l8x1d1
        have c8x2 := Own.cell O8 2 rfl
        have f8x2 := Own.free O8 2 rfl
        have l8x2 := Own.lt O8 2 rfl
        have l8x2d0 := le_up 0 l8x2
        have l8x2d1 := le_up 1 l8x2
        simp only [upN] at l8x2d0 l8x2d1
        have c8x3 := Own.cell O8 3 rfl
        have f8x3 := Own.free O8 3 rfl
        have l8x3 := Own.lt O8 3 rfl
        have l8x3d0 := le_up 0 l8x3
        have l8x3d1 := le_up 1 l8x3
        simp only [upN] at l8x3d0 l8x3d1
        have c8x4 := Own.cell O8 4 rfl
        have f8x4 := Own.free O8 4 rfl
        have l8x4 := Own.lt O8 4 rfl
        have l8x4d0 := le_up 0 l8x4
        have l8x4d1 := le_up 1 l8x4
        simp only [upN] at l8x4d0 l8x4d1
        have c8x5 := Own.cell O8 5 rfl
        have f8x5 := Own.free O8 5 rfl
        have l8x5 := Own.lt O8 5 rfl
        have l8x5d0 := le_up 0 l8x5
        have l8x5d1 := le_up 1 l8x5
        simp only [upN] at l8x5d0 l8x5d1
        have c8x6 := Own.cell O8 6 rfl
        have f8x6 := Own.free O8 6 rfl
        have l8x6 := Own.lt O8 6 rfl
        have l8x6d0 := le_up 0 l8x6
        have l8x6d1 := le_up 1 l8x6
        simp only [upN] at l8x6d0 l8x6d1
        have HO8 := Lib.hid O8
        clear O8 hb8
        go_upto_region 9 with (fail)
        refine wp_name fun wn9y hwn9y => ?_
        have hOwn9y := (show Own _ wn9y by rw [hwn9y]; exact (Own.set (Own.set (Own.set (Own.set HO8.out 2 rfl (Ne1.cons (by first | omega | (simp; omega)) (Ne1.cons (by first | omega | (simp; omega)) (Ne1.cons (by first | omega | (simp; omega)) (Ne1.cons (by first | omega | (simp; omega)) (Ne1.cons (by first | omega | (simp; omega)) (Ne1.cons (by first | omega | (simp; omega)) Ne1.nil))))))) 2 rfl (Ne1.cons (by first | omega | (simp; omega)) (Ne1.cons (by first | omega | (simp; omega)) (Ne1.cons (by first | omega | (simp; omega)) (Ne1.cons (by first | omega | (simp; omega)) (Ne1.cons (by first | omega | (simp; omega)) (Ne1.cons (by first | omega | (simp; omega)) Ne1.nil))))))) 2 rfl (Ne1.cons (by first | omega | (simp; omega)) (Ne1.cons (by first | omega | (simp; omega)) (Ne1.cons (by first | omega | (simp; omega)) (Ne1.cons (by first | omega | (simp; omega)) (Ne1.cons (by first | omega | (simp; omega)) (Ne1.cons (by first | omega | (simp; omega)) Ne1.nil))))))) 2 rfl (Ne1.cons (by first | omega | (simp; omega)) (Ne1.cons (by first | omega | (simp; omega)) (Ne1.cons (by first | omega | (simp; omega)) (Ne1.cons (by first | omega | (simp; omega)) (Ne1.cons (by first | omega | (simp; omega)) (Ne1.cons (by first | omega | (simp; omega)) Ne1.nil))))))))
        try simp only [List.setIfInBounds_toArray, List.set_cons_zero, List.set_cons_succ] at hOwn9y
        have hBwn9y : Below w.heap.size w wn9y := by rw [hwn9y]; go_grown
        clear hwn9y
        have bw9 := hBwn9y
        clear c8x0 f8x0 l8x0 l8x0d0 l8x0d1 c8x1 f8x1 l8x1 l8x1d0 l8x1d1 c8x2 f8x2 l8x2 l8x2d0 l8x2d1 c8x3 f8x3 l8x3 l8x3d0 l8x3d1 c8x4 f8x4 l8x4 l8x4d0 l8x4d1 c8x5 f8x5 l8x5 l8x5d0 l8x5d1 c8x6 f8x6 l8x6 l8x6d0 l8x6d1
        have O9 := hOwn9y
        have c9x0 := Own.cell O9 0 rfl
        have f9x0 := Own.free O9 0 rfl
        have l9x0 := Own.lt O9 0 rfl
        have l9x0d0 := le_up 0 l9x0
        have l9x0d1 := le_up 1 l9x0
        simp only [upN] at l9x0d0 l9x0d1
        have c9x1 := Own.cell O9 1 rfl
        have f9x1 := Own.free O9 1 rfl
        have l9x1 := Own.lt O9 1 rfl
        have l9x1d0 := le_up 0 l9x1
        have l9x1d1 := le_up 1 l9x1
        simp only [upN] at l9x1d0 l9x1d1
        have c9x2 := Own.cell O9 2 rfl
        have f9x2 := Own.free O9 2 rfl
        have l9x2 := Own.lt O9 2 rfl
        have l9x2d0 := le_up 0 l9x2
        have l9x2d1 := le_up 1 l9x2
        simp only [upN] at l9x2d0 l9x2d1
        have c9x3 := Own.cell O9 3 rfl
        have f9x3 := Own.free O9 3 rfl
        have l9x3 := Own.lt O9 3 rfl
        have l9x3d0 := le_up 0 l9x3
        have l9x3d1 := le_up 1 l9x3
        simp only [upN] at l9x3d0 l9x3d1
        have c9x4 := Own.cell O9 4 rfl
        have f9x4 := Own.free O9 4 rfl
        have l9x4 := Own.lt O9 4 rfl
        have l9x4d0 := le_up 0 l9x4
        have l9x4d1 := le_up 1 l9x4
        simp only [upN] at l9x4d0 l9x4d1
        have c9x5 := Own.cell O9 5 rfl
        have f9x5 := Own.free O9 5 rfl
        have l9x5 := Own.lt O9 5 rfl
        have l9x5d0 := le_up 0 l9x5
        have l9x5d1 := le_up 1 l9x5
        simp only [upN] at l9x5d0 l9x5d1
        have c9x6 := Own.cell O9 6 rfl
        have f9x6 := Own.free O9 6 rfl
        have l9x6 := Own.lt O9 6 rfl
        have l9x6d0 := le_up 0 l9x6
        have l9x6d1 := le_up 1 l9x6
        simp only [upN] at l9x6d0 l9x6d1
        have HO9 := Lib.hid O9
        clear O9
        go_wp2_with fail
        refine (HBI.out _).mono ?_
        rintro e w10 ⟨rfl, hb10⟩
        have O10 := Own.grow' hb10 HO9.out
        try simp only [List.setIfInBounds_toArray, List.set_cons_zero, List.set_cons_succ] at O10
        have bw10 : Below w.heap.size w w10 := Below.trans (by go_grown) (Below.mono hb10 (by first | omega | (simp; done) | (simp; omega)))
        have zw10 := Below.size hb10
        try simp only [World.size_alloc, World.size_drew, World.size_setCell] at zw10
        clear c9x0 f9x0 l9x0 l9x0d0 l9x0d1 c9x1 f9x1 l9x1 l9x1d0 l9x1d1 c9x2 f9x2 l9x2 l9x2d0 l9x2d1 c9x3 f9x3 l9x3 l9x3d0 l9x3d1 c9x4 f9x4 l9x4 l9x4d0 l9x4d1 c9x5 f9x5 l9x5 l9x5d0 l9x5d1 c9x6 f9x6 l9x6 l9x6d0 l9x6d1
        have c10x0 := Own.cell O10 0 rfl
        have f10x0 := Own.free O10 0 rfl
        have l10x0 := Own.lt O10 0 rfl
        have l10x0d0 := le_up 0 l10x0
        have l10x0d1 := le_up 1 l10x0
        simp only [upN] at l10x0d0 l10x0d1
        have c10x1 := Own.cell O10 1 rfl
        have f10x1 := Own.free O10 1 rfl
        have l10x1 := Own.lt O10 1 rfl
        have l10x1d0 := le_up 0 l10x1
        have l10x1d1 := le_up 1 l10x1
        simp only [upN] at l10x1d0 l10x1d1
        have c10x2 := Own.cell O10 2 rfl
        have f10x2 := Own.free O10 2 rfl
        have l10x2 := Own.lt O10 2 rfl
        have l10x2d0 := le_up 0 l10x2
        have l10x2d1 := le_up 1 l10x2
        simp only [upN] at l10x2d0 l10x2d1
        have c10x3 := Own.cell O10 3 rfl
        have f10x3 := Own.free O10 3 rfl
        have l10x3 := Own.lt O10 3 rfl
        have l10x3d0 := le_up 0 l10x3
        have l10x3d1 := le_up 1 l10x3
        simp only [upN] at l10x3d0 l10x3d1
        have c10x4 := Own.cell O10 4 rfl
        have f10x4 := Own.free O10 4 rfl
        have l10x4 := Own.lt O10 4 rfl
        have l10x4d0 := le_up 0 l10x4
        have l10x4d1 := le_up 1 l10x4
        simp only [upN] at l10x4d0 l10x4d1
        have c10x5 := Own.cell O10 5 rfl
        have f10x5 := Own.free O10 5 rfl
        have l10x5 := Own.lt O10 5 rfl
        have l10x5d0 := le_up 0 l10x5
        have l10x5d1 := le_up 1 l10x5
        simp only [upN] at l10x5d0 l10x5d1
        have c10x6 := Own.cell O10 6 rfl
        have f10x6 := Own.free O10 6 rfl
        have l10x6 := Own.lt O10 6 rfl
        have l10x6d0 := le_up 0 l10x6
        have l10x6d1 := le_up 1 l10x6
        simp only [upN] at l10x6d0 l10x6d1
        have HO10 := Lib.hid O10
        clear O10 hb10
        go_wp2_with fail
        refine (HB2.out _).mono ?_
        rintro e w11 ⟨rfl, hb11⟩
        have O11 := Own.grow' hb11 HO10.out
        try simp only [List.setIfInBounds_toArray, List.set_cons_zero, List.set_cons_succ] at O11
        have bw11 : Below w.heap.size w w11 := Below.trans (by go_grown) (Below.mono hb11 (by first | omega | (simp; done) | (simp; omega)))
        have zw11 := Below.size hb11
        try simp only [World.size_alloc, World.size_drew, World.size_setCell] at zw11
        clear c10x0 f10x0 l10x0 l10x0d0 l10x0d1 c10x1 f10x1 l10x1 l10x1d0 l10x1d1 c10x2 f10x2 l10x2 l10x2d0 l10x2d1 c10x3 f10x3 l10x3 l10x3d0 l10x3d1 c10x4 f10x4 l10x4 l10x4d0 l10x4d1 c10x5 f10x5 l10x5 l10x5d0 l10x5d1 c10x6 f10x6 l10x6 l10x6d0 l10x6d1
        have c11x0 := Own.cell O11 0 rfl
        have f11x0 := Own.free O11 0 rfl
        have l11x0 := Own.lt O11 0 rfl
        have l11x0d0 := le_up 0 l11x0
        have l11x0d1 := le_up 1 l11x0
        simp only [upN] at l11x0d0 l11x0d1
        have c11x1 := Own.cell O11 1 rfl
        have f11x1 := Own.free O11 1 rfl
        have l11x1 := Own.lt O11 1 rfl
        have l11x1d0 := le_up 0 l11x1
        have l11x1d1 := le_up 1 l11x1
        simp only [upN] at l11x1d0 l11x1d1
        have c11x2 := Own.cell O11 2 rfl
        have f11x2 := Own.free O11 2 rfl
        have l11x2 := Own.lt O11 2 rfl
        have l11x2d0 := le_up 0 l11x2
        have l11x2d1 := le_up 1 l11x2
        simp only [upN] at l11x2d0 l11x2d1
        have c11x3 := Own.cell O11 3 rfl
        have f11x3 := Own.free O11 3 rfl
        have l11x3 := Own.lt O11 3 rfl
        have l11x3d0 := le_up 0 l11x3
        have l11x3d1 := le_up 1 l11x3
        simp only [upN] at l11x3d0 l11x3d1
        have c11x4 := Own.cell O11 4 rfl
        have f11x4 := Own.free O11 4 rfl
        have l11x4 := Own.lt O11 4 rfl
        have l11x4d0 := le_up 0 l11x4
        have l11x4d1 := le_up 1 l11x4
        simp only [upN] at l11x4d0 l11x4d1
        have c11x5 := Own.cell O11 5 rfl
        have f11x5 := Own.free O11 5 rfl
        have l11x5 := Own.lt O11 5 rfl
        have l11x5d0 := le_up 0 l11x5
        have l11x5d1 := le_up 1 l11x5
        simp only [upN] at l11x5d0 l11x5d1
        have c11x6 := Own.cell O11 6 rfl
        have f11x6 := Own.free O11 6 rfl
        have l11x6 := Own.lt O11 6 rfl
        have l11x6d0 := le_up 0 l11x6
        have l11x6d1 := le_up 1 l11x6
        simp only [upN] at l11x6d0 l11x6d1
        have HO11 := Lib.hid O11
        clear O11 hb11
        go_upto_region 7 with (fail)
        refine wp_name fun wn7y hwn7y => ?_
        have hOwn7y := (show Own _ wn7y by rw [hwn7y]; exact (Own.set (Own.set (Own.set (Own.set HO11.out 2 rfl (Ne1.cons (by first | omega | (simp; omega)) (Ne1.cons (by first | omega | (simp; omega)) (Ne1.cons (by first | omega | (simp; omega)) (Ne1.cons (by first | omega | (simp; omega)) (Ne1.cons (by first | omega | (simp; omega)) (Ne1.cons (by first | omega | (simp; omega)) Ne1.nil))))))) 2 rfl (Ne1.cons (by first | omega | (simp; omega)) (Ne1.cons (by first | omega | (simp; omega)) (Ne1.cons (by first | omega | (simp; omega)) (Ne1.cons (by first | omega | (simp; omega)) (Ne1.cons (by first | omega | (simp; omega)) (Ne1.cons (by first | omega | (simp; omega)) Ne1.nil))))))) 2 rfl (Ne1.cons (by first | omega | (simp; omega)) (Ne1.cons (by first | omega | (simp; omega)) (Ne1.cons (by first | omega | (simp; omega)) (Ne1.cons (by first | omega | (simp; omega)) (Ne1.cons (by first | omega | (simp; omega)) (Ne1.cons (by first | omega | (simp; omega)) Ne1.nil))))))) 2 rfl (Ne1.cons (by first | omega | (simp; omega)) (Ne1.cons (by first | omega | (simp; omega)) (Ne1.cons (by first | omega | (simp; omega)) (Ne1.cons (by first | omega | (simp; omega)) (Ne1.cons (by first | omega | (simp; omega)) (Ne1.cons (by first | omega | (simp; omega)) Ne1.nil))))))))
        try simp only [List.setIfInBounds_toArray, List.set_cons_zero, List.set_cons_succ] at hOwn7y
        have hBwn7y : Below w.heap.size w wn7y := by rw [hwn7y]; go_grown
        clear hwn7y
        have bw12 := hBwn7y
        clear c11x0 f11x0 l11x0 l11x0d0 l11x0d1 c11x1 f11x1 l11x1 l11x1d0 l11x1d1 c11x2 f11x2 l11x2 l11x2d0 l11x2d1 c11x3 f11x3 l11x3 l11x3d0 l11x3d1 c11x4 f11x4 l11x4 l11x4d0 l11x4d1 c11x5 f11x5 l11x5 l11x5d0 l11x5d1 c11x6 f11x6 l11x6 l11x6d0 l11x6d1
        have O12 := hOwn7y
        have c12x0 := Own.cell O12 0 rfl
        have f12x0 := Own.free O12 0 rfl
        have l12x0 := Own.lt O12 0 rfl
        have l12x0d0 := le_up 0 l12x0
        have l12x0d1 := le_up 1 l12x0
        simp only [upN] at l12x0d0 l12x0d1
        have c12x1 := Own.cell O12 1 rfl
        have f12x1 := Own.free O12 1 rfl
        have l12x1 := Own.lt O12 1 rfl
        have l12x1d0 := le_up 0 l12x1
        have l12x1d1 := le_up 1 l12x1
        simp only [upN] at l12x1d0 l12x1d1
        have c12x2 := Own.cell O12 2 rfl
        have f12x2 := Own.free O12 2 rfl
        have l12x2 := Own.lt O12 2 rfl
        have l12x2d0 := le_up 0 l12x2
        have l12x2d1 := le_up 1 l12x2
        simp only [upN] at l12x2d0 l12x2d1
        have c12x3 := Own.cell O12 3 rfl
        have f12x3 := Own.free O12 3 rfl
        have l12x3 := Own.lt O12 3 rfl
        have l12x3d0 := le_up 0 l12x3
        have l12x3d1 := le_up 1 l12x3
        simp only [upN] at l12x3d0 l12x3d1
        have c12x4 := Own.cell O12 4 rfl
        have f12x4 := Own.free O12 4 rfl
        have l12x4 := Own.lt O12 4 rfl
        have l12x4d0 := le_up 0 l12x4
        have l12x4d1 := le_up 1 l12x4
        simp only [upN] at l12x4d0 l12x4d1
        have c12x5 := Own.cell O12 5 rfl
        have f12x5 := Own.free O12 5 rfl
        have l12x5 := Own.lt O12 5 rfl
        have l12x5d0 := le_up 0 l12x5
        have l12x5d1 := le_up 1 l12x5
        simp only [upN] at l12x5d0 l12x5d1
        have c12x6 := Own.cell O12 6 rfl
        have f12x6 := Own.free O12 6 rfl
        have l12x6 := Own.lt O12 6 rfl
        have l12x6d0 := le_up 0 l12x6
        have l12x6d1 := le_up 1 l12x6
        simp only [upN] at l12x6d0 l12x6d1
        have HO12 := Lib.hid O12
        clear O12
        go_wp2_with fail
        refine ⟨⟨j, by omega, rfl, ?_, by go_grown⟩, by simp only [intOf]; omega⟩
        dsimp only; rw [hr1]; exact Own.eqv HO12.out (by first | rfl | simp only [List.setIfInBounds_toArray, List.set_cons_zero, List.set_cons_succ])
theorem refMulModW (a b m : BitVec 256) (w : World) : Calls Try.prog 11 #[W a, W b, W m] w fun e w' => e = .returned (W (mulMW a b m)) ∧ Below w.heap.size w w' := by
  by_cases h : m = 0#256
  · subst h
    exact refmulmod_z a b w
  · rw [← mulM_end a b m h]
    exact refmulmod_g a b m w h
end Go.Proofs.Ytjmaigienigpnaa
