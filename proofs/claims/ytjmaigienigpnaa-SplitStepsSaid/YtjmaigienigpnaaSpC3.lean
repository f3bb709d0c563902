/- What is left of a wide number. No condition. -/
import Derived.Test.YtjmaigienigpnaaSpC2
import Derived.WalkMore
import Derived.ScopeJumps
set_option linter.unusedVariables false
set_option linter.unusedSimpArgs false
namespace Go.Proofs.Ytjmaigienigpnaa
open Go.RowKit

theorem wp_scope_fwd {P : Program} {a : Act} {w : World} {Q : Exit → Act → World → Prop} {c rest : Code} (l : Nat) (hf : findLabel c l = some rest) (first : c.wp P (Exit.jump l (fun a w => rest.wp P (Exit.noGoto Q) a w) Q) a w) : (Code.scope c).wp P Q a w :=
  wp_scope_jumps l _ (fun _ _ => 0) hf first (fun a w h => wp_mono h (fun e a w hq => by
    cases e with
    | goto l' => exact hq.elim
    | _ => exact hq))

set_option maxRecDepth 20000 in
set_option maxHeartbeats 2000000 in
theorem rest_z (o : BitVec 256) (n : Nat) (w : World) : Calls Try.prog 39 #[.agg #[.int .u64 (L o 0), .int .u64 (L o 1), .int .u64 (L o 2), .int .u64 (L o 3), .int .u64 (L 0#256 0), .int .u64 (L 0#256 1), .int .u64 (L 0#256 2), .int .u64 (L 0#256 3)], .agg (wd8 n)] w fun e w' => e = .returned (.tuple #[W 0#256, W 0#256]) ∧ Below w.heap.size w w' := by
  have hn := fun V => noneW o 0#256 V
  rw [decide_eq_true rfl] at hn
  have HN := Lib.hid hn
  clear hn
  rw [W_zero]
  have z0 := L_zero 0
  have z1 := L_zero 1
  have z2 := L_zero 2
  have z3 := L_zero 3
  rw [z0, z1, z2, z3] at HN ⊢
  go_enter Try.func39, Try.ntmps39
  go_wp2_with fail
  refine wp_scope_fwd 0 rfl ?_
  go_wp2_with fail
  refine (HN.out _).mono ?_
  rintro e w1 ⟨rfl, hb1⟩
  have O1 := Own.grow' hb1 (Own.new (Own.new (Own.new (Own.new (Own.nil w) (w.heap.size) (by first | rfl | simp)) (w.heap.size + 1) (by simp)) (w.heap.size + 1 + 1) (by simp)) (w.heap.size + 1 + 1 + 1) (by simp))
  try simp only [List.setIfInBounds_toArray, List.set_cons_zero, List.set_cons_succ] at O1
  have bw1 : Below w.heap.size w w1 := Below.trans (by go_grown) (Below.mono hb1 (by first | omega | (simp; done) | (simp; omega)))
  have zw1 := Below.size hb1
  try simp only [World.size_alloc, World.size_drew, World.size_setCell] at zw1
  have c1x0 := Own.cell O1 0 rfl
  have f1x0 := Own.free O1 0 rfl
  have l1x0 := Own.lt O1 0 rfl
  have l1x0d0 := le_up 0 l1x0
  have l1x0d1 := le_up 1 l1x0
  simp only [upN] at l1x0d0 l1x0d1
  have c1x1 := Own.cell O1 1 rfl
  have f1x1 := Own.free O1 1 rfl
  have l1x1 := Own.lt O1 1 rfl
  have l1x1d0 := le_up 0 l1x1
  have l1x1d1 := le_up 1 l1x1
  simp only [upN] at l1x1d0 l1x1d1
  have c1x2 := Own.cell O1 2 rfl
  have f1x2 := Own.free O1 2 rfl
  have l1x2 := Own.lt O1 2 rfl
  have l1x2d0 := le_up 0 l1x2
  have l1x2d1 := le_up 1 l1x2
  simp only [upN] at l1x2d0 l1x2d1
  have c1x3 := Own.cell O1 3 rfl
  have f1x3 := Own.free O1 3 rfl
  have l1x3 := Own.lt O1 3 rfl
  have l1x3d0 := le_up 0 l1x3
  have l1x3d1 := le_up 1 l1x3
  simp only [upN] at l1x3d0 l1x3d1
  have HO1 := Lib.hid O1
  clear O1 hb1
  go_wp2_with fail
  all_goals (first | (go_step3; refine ⟨rfl, ?_⟩) | skip)
  go_wp2_with fail
  go_region
  all_goals (go_wp2_with fail)
  all_goals (all_goals (try rw [Exit.noGoto_ret]))
  all_goals (refine bodyPost_ret (v := .tuple #[.agg #[.int .u64 0, .int .u64 0, .int .u64 0, .int .u64 0], .agg #[.int .u64 0, .int .u64 0, .int .u64 0, .int .u64 0]]) (by simp [results, Try.results39, go_sem, *]) rfl ?_)
  all_goals (exact ⟨rfl, by go_grown⟩)
set_option maxRecDepth 20000 in
set_option maxHeartbeats 16000000 in
theorem rest_g (o m : BitVec 256) (n : Nat) (w : World) (hm0 : ¬ m = 0#256) (hn512 : n < 2 ^ 512) : Calls Try.prog 39 #[.agg #[.int .u64 (L o 0), .int .u64 (L o 1), .int .u64 (L o 2), .int .u64 (L o 3), .int .u64 (L m 0), .int .u64 (L m 1), .int .u64 (L m 2), .int .u64 (L m 3)], .agg (wd8 n)] w fun e w' => e = .returned (.tuple #[W (quoN n m 0), W (remN n m 0)]) ∧ Below w.heap.size w w' := by
  have hbp := pos_of_ne hm0
  have hn := fun V => noneW o m V
  rw [decide_eq_false hm0] at hn
  have HN := Lib.hid hn
  clear hn
  go_enter Try.func39, Try.ntmps39
  go_wp2_with fail
  go_step3
  go_wp2_with fail
  refine (HN.out _).mono ?_
  rintro e w1 ⟨rfl, hb1⟩
  have O1 := Own.grow' hb1 (Own.new (Own.new (Own.new (Own.new (Own.nil w) (w.heap.size) (by first | rfl | simp)) (w.heap.size + 1) (by simp)) (w.heap.size + 1 + 1) (by simp)) (w.heap.size + 1 + 1 + 1) (by simp))
  try simp only [List.setIfInBounds_toArray, List.set_cons_zero, List.set_cons_succ] at O1
  have bw1 : Below w.heap.size w w1 := Below.trans (by go_grown) (Below.mono hb1 (by first | omega | (simp; done) | (simp; omega)))
  have zw1 := Below.size hb1
  try simp only [World.size_alloc, World.size_drew, World.size_setCell] at zw1
  have c1x0 := Own.cell O1 0 rfl
  have f1x0 := Own.free O1 0 rfl
  have l1x0 := Own.lt O1 0 rfl
  have l1x0d0 := le_up 0 l1x0
  have l1x0d1 := le_up 1 l1x0
  simp only [upN] at l1x0d0 l1x0d1
  have c1x1 := Own.cell O1 1 rfl
  have f1x1 := Own.free O1 1 rfl
  have l1x1 := Own.lt O1 1 rfl
  have l1x1d0 := le_up 0 l1x1
  have l1x1d1 := le_up 1 l1x1
  simp only [upN] at l1x1d0 l1x1d1
  have c1x2 := Own.cell O1 2 rfl
  have f1x2 := Own.free O1 2 rfl
  have l1x2 := Own.lt O1 2 rfl
  have l1x2d0 := le_up 0 l1x2
  have l1x2d1 := le_up 1 l1x2
  simp only [upN] at l1x2d0 l1x2d1
  have c1x3 := Own.cell O1 3 rfl
  have f1x3 := Own.free O1 3 rfl
  have l1x3 := Own.lt O1 3 rfl
  have l1x3d0 := le_up 0 l1x3
  have l1x3d1 := le_up 1 l1x3
  simp only [upN] at l1x3d0 l1x3d1
  have HO1 := Lib.hid O1
  clear O1 hb1
  go_wp2_with fail
  go_loopw [6] (fun i wr => LpRel (fun j => Own [(w.heap.size + 1 + 1 + 1, wc (remN n m j), 24), (w.heap.size + 1 + 1, wc (quoN n m j), 24), (w.heap.size + 1, wd8 n, 56), (w.heap.size, #[.int .u64 (L o 0), .int .u64 (L o 1), .int .u64 (L o 2), .int .u64 (L o 3), .int .u64 (L m 0), .int .u64 (L m 1), .int .u64 (L m 2), .int .u64 (L m 3)], 53)]) 512 w i wr) (fun i _ => (intOf i + 1).toNat)
  case atStart => exact ⟨512, Nat.le_refl _, by simp, Own.eqv HO1.out (by rw [remN_top m hn512, quoN_top m hn512, show (0#256 : BitVec 256) = 0 from rfl, wc_zero]), by go_grown⟩
  case round =>
    obtain ⟨j, hj, rfl, hO, hb⟩ := hrel
    try dsimp only at hO
    rcases j with _ | j
    · have hd0 : decide ((0 : Int) ≤ ((0 : Nat) : Int) - 1) = false := by simp
      have O2 := hO
      have c2x0 := Own.cell O2 0 rfl
      have f2x0 := Own.free O2 0 rfl
      have l2x0 := Own.lt O2 0 rfl
      have l2x0d0 := le_up 0 l2x0
      have l2x0d1 := le_up 1 l2x0
      simp only [upN] at l2x0d0 l2x0d1
      have c2x1 := Own.cell O2 1 rfl
      have f2x1 := Own.free O2 1 rfl
      have l2x1 := Own.lt O2 1 rfl
      have l2x1d0 := le_up 0 l2x1
      have l2x1d1 := le_up 1 l2x1
      simp only [upN] at l2x1d0 l2x1d1
      have c2x2 := Own.cell O2 2 rfl
      have f2x2 := Own.free O2 2 rfl
      have l2x2 := Own.lt O2 2 rfl
      have l2x2d0 := le_up 0 l2x2
      have l2x2d1 := le_up 1 l2x2
      simp only [upN] at l2x2d0 l2x2d1
      have c2x3 := Own.cell O2 3 rfl
      have f2x3 := Own.free O2 3 rfl
      have l2x3 := Own.lt O2 3 rfl
      have l2x3d0 := le_up 0 l2x3
      have l2x3d1 := le_up 1 l2x3
      simp only [upN] at l2x3d0 l2x3d1
      have HO2 := Lib.hid O2
      clear O2
      go_wp2_with fail
      refine wp_label ?_
      go_wp2_with fail
      go_region
      all_goals (go_wp2_with fail)
      all_goals (all_goals (try rw [Exit.noGoto_ret]))
      all_goals (refine bodyPost_ret (v := .tuple #[W (quoN n m 0), W (remN n m 0)]) (by simp [results, Try.results39, go_sem, *]) rfl ?_)
      all_goals (exact ⟨rfl, by go_grown⟩)
    · have hji : (((j + 1 : Nat) : Int) - 1) = (j : Int) := by omega
      rw [hji]
      have hd0 : decide ((0 : Int) ≤ (j : Int)) = true := by simp
      have HRS := Lib.hid (remN_step n m j hbp)
      have HQS := Lib.hid (quoN_step n m j hbp)
      have hb8 := bit8 n j
      have h8 := wd8_at n (show j / 64 < 8 by omega)
      have hl0 := L8_lo n (j / 64)
      have hl1 := L8_hi n (j / 64)
      have hp0 : 0 ≤ L8 n (j / 64) / 2 ^ (j % 64) := Int.ediv_nonneg hl0 (Int.le_of_lt (Int.pow_pos (by decide)))
      generalize L8 n (j / 64) = lx at *
      generalize hr1 : remN n m j = r1 at *
      generalize hq1 : quoN n m j = q1 at *
      generalize remN n m (j + 1) = r at *
      generalize quoN n m (j + 1) = q at *
      generalize n.testBit j = bt at *
      have HT1 := Lib.hid (fun V => rest1W r bt V)
      have HT2 := Lib.hid (fun V => rest1Z q V)
      have HOD := Lib.hid (fun V => orderW (dbl r bt) m V)
      have HSB := Lib.hid (fun V => subW_any (dbl r bt) m V)
      have hge := ordW_ge (dbl r bt) m
      have hor : bits .or .u64 (L (dbl q false) 0) 1 = L (dbl q true) 0 := by rw [dbl_false]; exact (L_dbl q true).1
      have h1 : L (dbl q false) 1 = L (dbl q true) 1 := by rw [dbl_false]; exact (L_dbl q true).2.1
      have h2 : L (dbl q false) 2 = L (dbl q true) 2 := by rw [dbl_false]; exact (L_dbl q true).2.2.1
      have h3 : L (dbl q false) 3 = L (dbl q true) 3 := by rw [dbl_false]; exact (L_dbl q true).2.2.2
      have HR1 := Lib.hid (show r1 = if r.getLsbD 255 || decide (m.toNat ≤ (dbl r bt).toNat) then dbl r bt - m else dbl r bt by rw [← HRS.out]; unfold stepW goesB; rw [msb255])
      have HQ1 := Lib.hid (show q1 = if r.getLsbD 255 || decide (m.toNat ≤ (dbl r bt).toNat) then dbl q true else dbl q false by rw [← HQS.out]; unfold stepQ goesB; rw [msb255, or_one_dbl])
      generalize dbl r bt = d at *
      generalize hdt : dbl q true = qt at *
      generalize hdf : dbl q false = qf at *
      generalize hov : r.getLsbD 255 = ov at *
      generalize ordW d m = od at *
      clear HRS HQS hdt hdf hov
      rcases (show (ov = true) ∨ (ov = false ∧ m.toNat ≤ d.toNat) ∨ (ov = false ∧ ¬ m.toNat ≤ d.toNat) by cases ov <;> simp <;> omega) with hc | ⟨hc, hc2⟩ | ⟨hc, hc2⟩
      · subst hc
        rw [show (true || decide (m.toNat ≤ d.toNat)) = true from rfl, if_pos rfl] at HR1 HQ1
        obtain rfl := HR1.out
        obtain rfl := HQ1.out
        clear HR1 HQ1
        have O3 := hO
        have c3x0 := Own.cell O3 0 rfl
        have f3x0 := Own.free O3 0 rfl
        have l3x0 := Own.lt O3 0 rfl
        have l3x0d0 := le_up 0 l3x0
        have l3x0d1 := le_up 1 l3x0
        simp only [upN] at l3x0d0 l3x0d1
        have c3x1 := Own.cell O3 1 rfl
        have f3x1 := Own.free O3 1 rfl
        have l3x1 := Own.lt O3 1 rfl
        have l3x1d0 := le_up 0 l3x1
        have l3x1d1 := le_up 1 l3x1
        simp only [upN] at l3x1d0 l3x1d1
        have c3x2 := Own.cell O3 2 rfl
        have f3x2 := Own.free O3 2 rfl
        have l3x2 := Own.lt O3 2 rfl
        have l3x2d0 := le_up 0 l3x2
        have l3x2d1 := le_up 1 l3x2
        simp only [upN] at l3x2d0 l3x2d1
        have c3x3 := Own.cell O3 3 rfl
        have f3x3 := Own.free O3 3 rfl
        have l3x3 := Own.lt O3 3 rfl
        have l3x3d0 := le_up 0 l3x3
        have l3x3d1 := le_up 1 l3x3
        simp only [upN] at l3x3d0 l3x3d1
        have HO3 := Lib.hid O3
        clear O3
        have hz0 := l3x0
        have hz1 := l3x1
        have hz2 := l3x2
        have hz3 := l3x3
        go_wp2_with fail
        refine (HT2.out _).mono ?_
        rintro e w4 ⟨rfl, hb4⟩
        have O4 := Own.grow' hb4 HO3.out
        try simp only [List.setIfInBounds_toArray, List.set_cons_zero, List.set_cons_succ] at O4
        have bw4 : Below w.heap.size w w4 := Below.trans (by go_grown) (Below.mono hb4 (by first | omega | (simp; done) | (simp; omega)))
        have zw4 := Below.size hb4
        try simp only [World.size_alloc, World.size_drew, World.size_setCell] at zw4
        clear c3x0 f3x0 l3x0 l3x0d0 l3x0d1 c3x1 f3x1 l3x1 l3x1d0 l3x1d1 c3x2 f3x2 l3x2 l3x2d0 l3x2d1 c3x3 f3x3 l3x3 l3x3d0 l3x3d1
        have c4x0 := Own.cell O4 0 rfl
        have f4x0 := Own.free O4 0 rfl
        have l4x0 := Own.lt O4 0 rfl
        have l4x0d0 := le_up 0 l4x0
        have l4x0d1 := le_up 1 l4x0
        simp only [upN] at l4x0d0 l4x0d1
        have c4x1 := Own.cell O4 1 rfl
        have f4x1 := Own.free O4 1 rfl
        have l4x1 := Own.lt O4 1 rfl
        have l4x1d0 := le_up 0 l4x1
        have l4x1d1 := le_up 1 l4x1
        simp only [upN] at l4x1d0 l4x1d1
        have c4x2 := Own.cell O4 2 rfl
        have f4x2 := Own.free O4 2 rfl
        have l4x2 := Own.lt O4 2 rfl
        have l4x2d0 := le_up 0 l4x2
        have l4x2d1 := le_up 1 l4x2
        simp only [upN] at l4x2d0 l4x2d1
        have c4x3 := Own.cell O4 3 rfl
        have f4x3 := Own.free O4 3 rfl
        have l4x3 := Own.lt O4 3 rfl
        have l4x3d0 := le_up 0 l4x3
        have l4x3d1 := le_up 1 l4x3
        simp only [upN] at l4x3d0 l4x3d1
        have HO4 := Lib.hid O4
        clear O4 hb4
        go_upto_region 8 with (fail)
        refine wp_name fun wn8x hwn8x => ?_
        have hOwn8x := (show Own _ wn8x by rw [hwn8x]; exact (Own.set (Own.set (Own.set (Own.set HO4.out 1 rfl (Ne1.cons (by first | omega | (simp; omega)) (Ne1.cons (by first | omega | (simp; omega)) (Ne1.cons (by first | omega | (simp; omega)) Ne1.nil)))) 1 rfl (Ne1.cons (by first | omega | (simp; omega)) (Ne1.cons (by first | omega | (simp; omega)) (Ne1.cons (by first | omega | (simp; omega)) Ne1.nil)))) 1 rfl (Ne1.cons (by first | omega | (simp; omega)) (Ne1.cons (by first | omega | (simp; omega)) (Ne1.cons (by first | omega | (simp; omega)) Ne1.nil)))) 1 rfl (Ne1.cons (by first | omega | (simp; omega)) (Ne1.cons (by first | omega | (simp; omega)) (Ne1.cons (by first | omega | (simp; omega)) Ne1.nil)))))
        try simp only [List.setIfInBounds_toArray, List.set_cons_zero, List.set_cons_succ] at hOwn8x
        have hBwn8x : Below w.heap.size w wn8x := by rw [hwn8x]; go_grown
        clear hwn8x
        have bw5 := hBwn8x
        clear c4x0 f4x0 l4x0 l4x0d0 l4x0d1 c4x1 f4x1 l4x1 l4x1d0 l4x1d1 c4x2 f4x2 l4x2 l4x2d0 l4x2d1 c4x3 f4x3 l4x3 l4x3d0 l4x3d1
        have O5 := hOwn8x
        have c5x0 := Own.cell O5 0 rfl
        have f5x0 := Own.free O5 0 rfl
        have l5x0 := Own.lt O5 0 rfl
        have l5x0d0 := le_up 0 l5x0
        have l5x0d1 := le_up 1 l5x0
        simp only [upN] at l5x0d0 l5x0d1
        have c5x1 := Own.cell O5 1 rfl
        have f5x1 := Own.free O5 1 rfl
        have l5x1 := Own.lt O5 1 rfl
        have l5x1d0 := le_up 0 l5x1
        have l5x1d1 := le_up 1 l5x1
        simp only [upN] at l5x1d0 l5x1d1
        have c5x2 := Own.cell O5 2 rfl
        have f5x2 := Own.free O5 2 rfl
        have l5x2 := Own.lt O5 2 rfl
        have l5x2d0 := le_up 0 l5x2
        have l5x2d1 := le_up 1 l5x2
        simp only [upN] at l5x2d0 l5x2d1
        have c5x3 := Own.cell O5 3 rfl
        have f5x3 := Own.free O5 3 rfl
        have l5x3 := Own.lt O5 3 rfl
        have l5x3d0 := le_up 0 l5x3
        have l5x3d1 := le_up 1 l5x3
        simp only [upN] at l5x3d0 l5x3d1
        have HO5 := Lib.hid O5
        clear O5
        go_wp2_with fail
        refine wp_region_grow w.heap.size 16 16384 0 [(0, 0, 8388608, 128), (1, 0, 16777216, 32), (2, 0, 33554432, 64), (3, 4, 67108864, 33554432), (4, 8, 134217728, 67108872), (5, 16, 268435456, 134217728), (6, 0, 536870912, 64), (7, 64, 1073741824, 536870912), (8, 160, 2147483648, 1342177280), (9, 256, 4294967296, 2147483648), (10, 515, 8589934592, 4320133120), (11, 1024, 4194304, 8589934592), (12, 2048, 17179869184, 4194304), (13, 2048, 34359738368, 4194304), (14, 8191, 0, 17179869216), (15, 32767, 256, 34359738368)] [(.p 0, 1), (.q 1, 3), (.p 2, 7), (.p 3, 15), (.p 4, 31), (.p 5, 63), (.p 6, 127), (.p 7, 255), (.p 8, 511), (.p 9, 1023), (.p 10, 2047), (.p 11, 4095), (.p 12, 8191), (.p 13, 16383), (.c 14, 32767), (.p 15, 65535)] [] (List.eraseIdx _ 0) (fun p hp => List.mem_of_mem_eraseIdx hp) (by first | omega | (simp; done) | (simp; omega)) (by kernel_rfl) (by kernel_rfl) HO5.out ?_
        refine wpG_move (i := 0) rfl rfl rfl (by rfl) rfl ?_
        simp only [List.set_cons_zero, List.set_cons_succ]
        refine wpG_op (i := 1) (v := ?v6x1) rfl rfl (by rfl) (fun w hB hG K hK => ?h6x1) ?_
        case h6x1 =>
          have cx := Own.cell hG 0 rfl
          go_wp2_with fail
          exact hK _ (Below.refl _ _)
        simp only [List.set_cons_zero, List.set_cons_succ]
        refine wpG_move (i := 2) rfl rfl rfl (by rfl) rfl ?_
        simp only [List.set_cons_zero, List.set_cons_succ]
        refine wpG_pure (i := 3) (v := ?v6x3) rfl rfl (by rfl) (fun w hB hG K hK => ?h6x3) ?_
        case h6x3 =>
          go_wp2_with fail
          exact hK _ (Below.refl _ _)
        simp only [List.set_cons_zero, List.set_cons_succ]
        refine wpG_pure (i := 4) (v := ?v6x4) rfl rfl (by rfl) (fun w hB hG K hK => ?h6x4) ?_
        case h6x4 =>
          go_wp2_with fail
          exact hK _ (Below.refl _ _)
        simp only [List.set_cons_zero, List.set_cons_succ]
        refine wpG_pure (i := 5) (v := ?v6x5) rfl rfl (by rfl) (fun w hB hG K hK => ?h6x5) ?_
        case h6x5 =>
          have hcx := (hG.cell 1 rfl (j / 64)).trans h8
          have cx := Own.cell hG 1 rfl
          go_wp2_with fail
          exact hK _ (Below.refl _ _)
        simp only [List.set_cons_zero, List.set_cons_succ]
        refine wpG_move (i := 6) rfl rfl rfl (by rfl) rfl ?_
        simp only [List.set_cons_zero, List.set_cons_succ]
        refine wpG_pure (i := 7) (v := ?v6x7) rfl rfl (by rfl) (fun w hB hG K hK => ?h6x7) ?_
        case h6x7 =>
          go_wp2_with fail
          exact hK _ (Below.refl _ _)
        simp only [List.set_cons_zero, List.set_cons_succ]
        refine wpG_pure (i := 8) (v := ?v6x8) rfl rfl (by rfl) (fun w hB hG K hK => ?h6x8) ?_
        case h6x8 =>
          go_wp2_with fail
          exact hK _ (Below.refl _ _)
        simp only [List.set_cons_zero, List.set_cons_succ]
        refine wpG_pure (i := 9) (v := ?v6x9) rfl rfl (by rfl) (fun w hB hG K hK => ?h6x9) ?_
        case h6x9 =>
          go_wp2_with fail
          exact hK _ (Below.refl _ _)
        simp only [List.set_cons_zero, List.set_cons_succ]
        refine wpG_pure (i := 10) (v := ?v6x10) rfl rfl (by rfl) (fun w hB hG K hK => ?h6x10) ?_
        case h6x10 =>
          go_wp2_with fail
          refine (HT1.out _).mono ?_
          rintro e wx ⟨rfl, hbx⟩
          exact hK _ hbx
        simp only [List.set_cons_zero, List.set_cons_succ]
        refine wpG_move (i := 11) rfl rfl rfl (by rfl) rfl ?_
        simp only [List.set_cons_zero, List.set_cons_succ]
        refine wpG_pure (i := 12) (v := ?v6x12) rfl rfl (by rfl) (fun w hB hG K hK => ?h6x12) ?_
        case h6x12 =>
          go_wp2_with fail
          exact hK _ (Below.refl _ _)
        simp only [List.set_cons_zero, List.set_cons_succ]
        refine wpG_pure (i := 13) (v := ?v6x13) rfl rfl (by rfl) (fun w hB hG K hK => ?h6x13) ?_
        case h6x13 =>
          go_wp2_with fail
          exact hK _ (Below.refl _ _)
        simp only [List.set_cons_zero, List.set_cons_succ]
        refine wpG_store (i := 14) (c' := ?c6x14) 0 rfl (Ne1.cons (by first | omega | (simp; omega)) (Ne1.cons (by first | omega | (simp; omega)) (Ne1.cons (by first | omega | (simp; omega)) Ne1.nil))) (by first | omega | (simp; omega)) (fun p hp => mem_set_erase hp) rfl rfl (by rfl) (fun w hB hF hG K hK => ?h6x14) ?_
        case h6x14 =>
          have cx := hF.cell
          have fx := hF.free
          go_wp2_with fail
          refine hK _ (Same.set (Same.set (Same.set (Same.set (Same.refl _ _) _ _) _ _) _ _) _ _) ?_
          exact (Blk.set (Blk.set (Blk.set (Blk.set hF _ _) _ _) _ _) _ _)
        simp only [List.set_cons_zero, List.set_cons_succ, List.setIfInBounds_toArray]
        refine wpG_assign (i := 15) rfl rfl rfl (by rfl) rfl ?_
        simp only [List.set_cons_zero, List.set_cons_succ]
        refine wpG_nil (fun w6 hb6 hG6 => ?_)
        simp only [List.append_eq, List.cons_append, List.nil_append, List.drop_succ_cons, List.drop_zero, List.drop_nil]
        have O6 := Own.of hG6
        try simp only [List.setIfInBounds_toArray, List.set_cons_zero, List.set_cons_succ] at O6
        have bw6 : Below w.heap.size w w6 := Below.trans (by go_grown) (Below.mono hb6 (by first | omega | (simp; done) | (simp; omega)))
        have zw6 := Below.size hb6
        try simp only [World.size_alloc, World.size_drew, World.size_setCell] at zw6
        clear c5x0 f5x0 l5x0 l5x0d0 l5x0d1 c5x1 f5x1 l5x1 l5x1d0 l5x1d1 c5x2 f5x2 l5x2 l5x2d0 l5x2d1 c5x3 f5x3 l5x3 l5x3d0 l5x3d1
        have c6x0 := Own.cell O6 0 rfl
        have f6x0 := Own.free O6 0 rfl
        have l6x0 := Own.lt O6 0 rfl
        have l6x0d0 := le_up 0 l6x0
        have l6x0d1 := le_up 1 l6x0
        simp only [upN] at l6x0d0 l6x0d1
        have c6x1 := Own.cell O6 1 rfl
        have f6x1 := Own.free O6 1 rfl
        have l6x1 := Own.lt O6 1 rfl
        have l6x1d0 := le_up 0 l6x1
        have l6x1d1 := le_up 1 l6x1
        simp only [upN] at l6x1d0 l6x1d1
        have c6x2 := Own.cell O6 2 rfl
        have f6x2 := Own.free O6 2 rfl
        have l6x2 := Own.lt O6 2 rfl
        have l6x2d0 := le_up 0 l6x2
        have l6x2d1 := le_up 1 l6x2
        simp only [upN] at l6x2d0 l6x2d1
        have c6x3 := Own.cell O6 3 rfl
        have f6x3 := Own.free O6 3 rfl
        have l6x3 := Own.lt O6 3 rfl
        have l6x3d0 := le_up 0 l6x3
        have l6x3d1 := le_up 1 l6x3
        simp only [upN] at l6x3d0 l6x3d1
        have HO6 := Lib.hid O6
        clear O6 hb6
        go_wp2_with fail
        refine (HSB.out _).mono ?_
        rintro e w7 ⟨rfl, hb7⟩
        have O7 := Own.grow' hb7 HO6.out
        try simp only [List.setIfInBounds_toArray, List.set_cons_zero, List.set_cons_succ] at O7
        have bw7 : Below w.heap.size w w7 := Below.trans (by go_grown) (Below.mono hb7 (by first | omega | (simp; done) | (simp; omega)))
        have zw7 := Below.size hb7
        try simp only [World.size_alloc, World.size_drew, World.size_setCell] at zw7
        clear c6x0 f6x0 l6x0 l6x0d0 l6x0d1 c6x1 f6x1 l6x1 l6x1d0 l6x1d1 c6x2 f6x2 l6x2 l6x2d0 l6x2d1 c6x3 f6x3 l6x3 l6x3d0 l6x3d1
        have c7x0 := Own.cell O7 0 rfl
        have f7x0 := Own.free O7 0 rfl
        have l7x0 := Own.lt O7 0 rfl
        have l7x0d0 := le_up 0 l7x0
        have l7x0d1 := le_up 1 l7x0
        simp only [upN] at l7x0d0 l7x0d1
        have c7x1 := Own.cell O7 1 rfl
        have f7x1 := Own.free O7 1 rfl
        have l7x1 := Own.lt O7 1 rfl
        have l7x1d0 := le_up 0 l7x1
        have l7x1d1 := le_up 1 l7x1
        simp only [upN] at l7x1d0 l7x1d1
        have c7x2 := Own.cell O7 2 rfl
        have f7x2 := Own.free O7 2 rfl
        have l7x2 := Own.lt O7 2 rfl
        have l7x2d0 := le_up 0 l7x2
        have l7x2d1 := le_up 1 l7x2
        simp only [upN] at l7x2d0 l7x2d1
        have c7x3 := Own.cell O7 3 rfl
        have f7x3 := Own.free O7 3 rfl
        have l7x3 := Own.lt O7 3 rfl
        have l7x3d0 := le_up 0 l7x3
        have l7x3d1 := le_up 1 l7x3
        simp only [upN] at l7x3d0 l7x3d1
        have HO7 := Lib.hid O7
        clear O7 hb7
        go_upto_region 11 with (fail)
        refine wp_name fun wn11x hwn11x => ?_
        have hOwn11x := (show Own _ wn11x by rw [hwn11x]; exact (Own.set (Own.set (Own.set (Own.set HO7.out 0 rfl (Ne1.cons (by first | omega | (simp; omega)) (Ne1.cons (by first | omega | (simp; omega)) (Ne1.cons (by first | omega | (simp; omega)) Ne1.nil)))) 0 rfl (Ne1.cons (by first | omega | (simp; omega)) (Ne1.cons (by first | omega | (simp; omega)) (Ne1.cons (by first | omega | (simp; omega)) Ne1.nil)))) 0 rfl (Ne1.cons (by first | omega | (simp; omega)) (Ne1.cons (by first | omega | (simp; omega)) (Ne1.cons (by first | omega | (simp; omega)) Ne1.nil)))) 0 rfl (Ne1.cons (by first | omega | (simp; omega)) (Ne1.cons (by first | omega | (simp; omega)) (Ne1.cons (by first | omega | (simp; omega)) Ne1.nil)))))
        try simp only [List.setIfInBounds_toArray, List.set_cons_zero, List.set_cons_succ] at hOwn11x
        have hBwn11x : Below w.heap.size w wn11x := by rw [hwn11x]; go_grown
        clear hwn11x
        have bw8 := hBwn11x
        clear c7x0 f7x0 l7x0 l7x0d0 l7x0d1 c7x1 f7x1 l7x1 l7x1d0 l7x1d1 c7x2 f7x2 l7x2 l7x2d0 l7x2d1 c7x3 f7x3 l7x3 l7x3d0 l7x3d1
        have O8 := hOwn11x
        have c8x0 := Own.cell O8 0 rfl
        have f8x0 := Own.free O8 0 rfl
        have l8x0 := Own.lt O8 0 rfl
        have l8x0d0 := le_up 0 l8x0
        have l8x0d1 := le_up 1 l8x0
        simp only [upN] at l8x0d0 l8x0d1
        have c8x1 := Own.cell O8 1 rfl
        have f8x1 := Own.free O8 1 rfl
        have l8x1 := Own.lt O8 1 rfl
        have l8x1d0 := le_up 0 l8x1
        have l8x1d1 := le_up 1 l8x1
        simp only [upN] at l8x1d0 l8x1d1
        have c8x2 := Own.cell O8 2 rfl
        have f8x2 := Own.free O8 2 rfl
        have l8x2 := Own.lt O8 2 rfl
        have l8x2d0 := le_up 0 l8x2
        have l8x2d1 := le_up 1 l8x2
        simp only [upN] at l8x2d0 l8x2d1
        have c8x3 := Own.cell O8 3 rfl
        have f8x3 := Own.free O8 3 rfl
        have l8x3 := Own.lt O8 3 rfl
        have l8x3d0 := le_up 0 l8x3
        have l8x3d1 := le_up 1 l8x3
        simp only [upN] at l8x3d0 l8x3d1
        have HO8 := Lib.hid O8
        clear O8
        go_upto_region 4 with (fail)
        refine wp_name fun wn4x hwn4x => ?_
        have hOwn4x := (show Own _ wn4x by rw [hwn4x]; exact (Own.set HO8.out 1 rfl (Ne1.cons (by first | omega | (simp; omega)) (Ne1.cons (by first | omega | (simp; omega)) (Ne1.cons (by first | omega | (simp; omega)) Ne1.nil)))))
        try simp only [List.setIfInBounds_toArray, List.set_cons_zero, List.set_cons_succ] at hOwn4x
        have hBwn4x : Below w.heap.size w wn4x := by rw [hwn4x]; go_grown
        clear hwn4x
        have bw9 := hBwn4x
        clear c8x0 f8x0 l8x0 l8x0d0 l8x0d1 c8x1 f8x1 l8x1 l8x1d0 l8x1d1 c8x2 f8x2 l8x2 l8x2d0 l8x2d1 c8x3 f8x3 l8x3 l8x3d0 l8x3d1
        have O9 := hOwn4x
        have c9x0 := Own.cell O9 0 rfl
        have f9x0 := Own.free O9 0 rfl
        have l9x0 := Own.lt O9 0 rfl
        have l9x0d0 := le_up 0 l9x0
        have l9x0d1 := le_up 1 l9x0
        simp only [upN] at l9x0d0 l9x0d1
        have c9x1 := Own.cell O9 1 rfl
        have f9x1 := Own.free O9 1 rfl
        have l9x1 := Own.lt O9 1 rfl
        have l9x1d0 := le_up 0 l9x1
        have l9x1d1 := le_up 1 l9x1
        simp only [upN] at l9x1d0 l9x1d1
        have c9x2 := Own.cell O9 2 rfl
        have f9x2 := Own.free O9 2 rfl
        have l9x2 := Own.lt O9 2 rfl
        have l9x2d0 := le_up 0 l9x2
        have l9x2d1 := le_up 1 l9x2
        simp only [upN] at l9x2d0 l9x2d1
        have c9x3 := Own.cell O9 3 rfl
        have f9x3 := Own.free O9 3 rfl
        have l9x3 := Own.lt O9 3 rfl
        have l9x3d0 := le_up 0 l9x3
        have l9x3d1 := le_up 1 l9x3
        simp only [upN] at l9x3d0 l9x3d1
        have HO9 := Lib.hid O9
        clear O9
        go_wp2_with fail
        refine ⟨⟨j, by omega, rfl, ?_, by go_grown⟩, by simp only [intOf]; omega⟩
        dsimp only; rw [hr1, hq1]; exact Own.eqv HO9.out (by first | rfl | simp only [List.setIfInBounds_toArray, List.set_cons_zero, List.set_cons_succ])
      · subst hc
        rw [decide_eq_true hc2] at hge
        rw [decide_eq_true hc2, show (false || true) = true from rfl, if_pos rfl] at HR1 HQ1
        obtain rfl := HR1.out
        obtain rfl := HQ1.out
        clear HR1 HQ1
        clear hc2
        have O10 := hO
        have c10x0 := Own.cell O10 0 rfl
        have f10x0 := Own.free O10 0 rfl
        have l10x0 := Own.lt O10 0 rfl
        have l10x0d0 := le_up 0 l10x0
        have l10x0d1 := le_up 1 l10x0
        simp only [upN] at l10x0d0 l10x0d1
        have c10x1 := Own.cell O10 1 rfl
        have f10x1 := Own.free O10 1 rfl
        have l10x1 := Own.lt O10 1 rfl
        have l10x1d0 := le_up 0 l10x1
        have l10x1d1 := le_up 1 l10x1
        simp only [upN] at l10x1d0 l10x1d1
        have c10x2 := Own.cell O10 2 rfl
        have f10x2 := Own.free O10 2 rfl
        have l10x2 := Own.lt O10 2 rfl
        have l10x2d0 := le_up 0 l10x2
        have l10x2d1 := le_up 1 l10x2
        simp only [upN] at l10x2d0 l10x2d1
        have c10x3 := Own.cell O10 3 rfl
        have f10x3 := Own.free O10 3 rfl
        have l10x3 := Own.lt O10 3 rfl
        have l10x3d0 := le_up 0 l10x3
        have l10x3d1 := le_up 1 l10x3
        simp only [upN] at l10x3d0 l10x3d1
        have HO10 := Lib.hid O10
        clear O10
        have hz0 := l10x0
        have hz1 := l10x1
        have hz2 := l10x2
        have hz3 := l10x3
        go_wp2_with fail
        refine (HT2.out _).mono ?_
        rintro e w11 ⟨rfl, hb11⟩
        have O11 := Own.grow' hb11 HO10.out
        try simp only [List.setIfInBounds_toArray, List.set_cons_zero, List.set_cons_succ] at O11
        have bw11 : Below w.heap.size w w11 := Below.trans (by go_grown) (Below.mono hb11 (by first | omega | (simp; done) | (simp; omega)))
        have zw11 := Below.size hb11
        try simp only [World.size_alloc, World.size_drew, World.size_setCell] at zw11
        clear c10x0 f10x0 l10x0 l10x0d0 l10x0d1 c10x1 f10x1 l10x1 l10x1d0 l10x1d1 c10x2 f10x2 l10x2 l10x2d0 l10x2d1 c10x3 f10x3 l10x3 l10x3d0 l10x3d1
        have c11x0 := Own.cell O11 0 rfl
        have f11x0 := Own.free O11 0 rfl
        have l11x0 := Own.lt O11 0 rfl
        have l11x0d0 := le_up 0 l11x0
        have l11x0d1 := le_up 1 l11x0
        simp only [upN] at l11x0d0 l11x0d1
        have c11x1 := Own.cell O11 1 rfl
        have f11x1 := Own.free O11 1 rfl
        have l11x1 := Own.lt O11 1 rfl
        have l11x1d0 := le_up 0 l11x1
        have l11x1d1 := le_up 1 l11x1
        simp only [upN] at l11x1d0 l11x1d1
        have c11x2 := Own.cell O11 2 rfl
        have f11x2 := Own.free O11 2 rfl
        have l11x2 := Own.lt O11 2 rfl
        have l11x2d0 := le_up 0 l11x2
        have l11x2d1 := le_up 1 l11x2
        simp only [upN] at l11x2d0 l11x2d1
        have c11x3 := Own.cell O11 3 rfl
        have f11x3 := Own.free O11 3 rfl
        have l11x3 := Own.lt O11 3 rfl
        have l11x3d0 := le_up 0 l11x3
        have l11x3d1 := le_up 1 l11x3
        simp only [upN] at l11x3d0 l11x3d1
        have HO11 := Lib.hid O11
        clear O11 hb11
        go_upto_region 8 with (fail)
        refine wp_name fun wn8y hwn8y => ?_
        have hOwn8y := (show Own _ wn8y by rw [hwn8y]; exact (Own.set (Own.set (Own.set (Own.set HO11.out 1 rfl (Ne1.cons (by first | omega | (simp; omega)) (Ne1.cons (by first | omega | (simp; omega)) (Ne1.cons (by first | omega | (simp; omega)) Ne1.nil)))) 1 rfl (Ne1.cons (by first | omega | (simp; omega)) (Ne1.cons (by first | omega | (simp; omega)) (Ne1.cons (by first | omega | (simp; omega)) Ne1.nil)))) 1 rfl (Ne1.cons (by first | omega | (simp; omega)) (Ne1.cons (by first | omega | (simp; omega)) (Ne1.cons (by first | omega | (simp; omega)) Ne1.nil)))) 1 rfl (Ne1.cons (by first | omega | (simp; omega)) (Ne1.cons (by first | omega | (simp; omega)) (Ne1.cons (by first | omega | (simp; omega)) Ne1.nil)))))
        try simp only [List.setIfInBounds_toArray, List.set_cons_zero, List.set_cons_succ] at hOwn8y
        have hBwn8y : Below w.heap.size w wn8y := by rw [hwn8y]; go_grown
        clear hwn8y
        have bw12 := hBwn8y
        clear c11x0 f11x0 l11x0 l11x0d0 l11x0d1 c11x1 f11x1 l11x1 l11x1d0 l11x1d1 c11x2 f11x2 l11x2 l11x2d0 l11x2d1 c11x3 f11x3 l11x3 l11x3d0 l11x3d1
        have O12 := hOwn8y
        have c12x0 := Own.cell O12 0 rfl
        have f12x0 := Own.free O12 0 rfl
        have l12x0 := Own.lt O12 0 rfl
        have l12x0d0 := le_up 0 l12x0
        have l12x0d1 := le_up 1 l12x0
        simp only [upN] at l12x0d0 l12x0d1
        have c12x1 := Own.cell O12 1 rfl
        have f12x1 := Own.free O12 1 rfl
        have l12x1 := Own.lt O12 1 rfl
        have l12x1d0 := le_up 0 l12x1
        have l12x1d1 := le_up 1 l12x1
        simp only [upN] at l12x1d0 l12x1d1
        have c12x2 := Own.cell O12 2 rfl
        have f12x2 := Own.free O12 2 rfl
        have l12x2 := Own.lt O12 2 rfl
        have l12x2d0 := le_up 0 l12x2
        have l12x2d1 := le_up 1 l12x2
        simp only [upN] at l12x2d0 l12x2d1
        have c12x3 := Own.cell O12 3 rfl
        have f12x3 := Own.free O12 3 rfl
        have l12x3 := Own.lt O12 3 rfl
        have l12x3d0 := le_up 0 l12x3
        have l12x3d1 := le_up 1 l12x3
        simp only [upN] at l12x3d0 l12x3d1
        have HO12 := Lib.hid O12
        clear O12
        go_wp2_with fail
        refine wp_region_grow w.heap.size 16 16384 0 [(0, 0, 8388608, 128), (1, 0, 16777216, 32), (2, 0, 33554432, 64), (3, 4, 67108864, 33554432), (4, 8, 134217728, 67108872), (5, 16, 268435456, 134217728), (6, 0, 536870912, 64), (7, 64, 1073741824, 536870912), (8, 160, 2147483648, 1342177280), (9, 256, 4294967296, 2147483648), (10, 515, 8589934592, 4320133120), (11, 1024, 4194304, 8589934592), (12, 2048, 17179869184, 4194304), (13, 2048, 34359738368, 4194304), (14, 8191, 0, 17179869216), (15, 32767, 256, 34359738368)] [(.p 0, 1), (.q 1, 3), (.p 2, 7), (.p 3, 15), (.p 4, 31), (.p 5, 63), (.p 6, 127), (.p 7, 255), (.p 8, 511), (.p 9, 1023), (.p 10, 2047), (.p 11, 4095), (.p 12, 8191), (.p 13, 16383), (.c 14, 32767), (.p 15, 65535)] [] (List.eraseIdx _ 0) (fun p hp => List.mem_of_mem_eraseIdx hp) (by first | omega | (simp; done) | (simp; omega)) (by kernel_rfl) (by kernel_rfl) HO12.out ?_
        refine wpG_move (i := 0) rfl rfl rfl (by rfl) rfl ?_
        simp only [List.set_cons_zero, List.set_cons_succ]
        refine wpG_op (i := 1) (v := ?v13x1) rfl rfl (by rfl) (fun w hB hG K hK => ?h13x1) ?_
        case h13x1 =>
          have cx := Own.cell hG 0 rfl
          go_wp2_with fail
          exact hK _ (Below.refl _ _)
        simp only [List.set_cons_zero, List.set_cons_succ]
        refine wpG_move (i := 2) rfl rfl rfl (by rfl) rfl ?_
        simp only [List.set_cons_zero, List.set_cons_succ]
        refine wpG_pure (i := 3) (v := ?v13x3) rfl rfl (by rfl) (fun w hB hG K hK => ?h13x3) ?_
        case h13x3 =>
          go_wp2_with fail
          exact hK _ (Below.refl _ _)
        simp only [List.set_cons_zero, List.set_cons_succ]
        refine wpG_pure (i := 4) (v := ?v13x4) rfl rfl (by rfl) (fun w hB hG K hK => ?h13x4) ?_
        case h13x4 =>
          go_wp2_with fail
          exact hK _ (Below.refl _ _)
        simp only [List.set_cons_zero, List.set_cons_succ]
        refine wpG_pure (i := 5) (v := ?v13x5) rfl rfl (by rfl) (fun w hB hG K hK => ?h13x5) ?_
        case h13x5 =>
          have hcx := (hG.cell 1 rfl (j / 64)).trans h8
          have cx := Own.cell hG 1 rfl
          go_wp2_with fail
          exact hK _ (Below.refl _ _)
        simp only [List.set_cons_zero, List.set_cons_succ]
        refine wpG_move (i := 6) rfl rfl rfl (by rfl) rfl ?_
        simp only [List.set_cons_zero, List.set_cons_succ]
        refine wpG_pure (i := 7) (v := ?v13x7) rfl rfl (by rfl) (fun w hB hG K hK => ?h13x7) ?_
        case h13x7 =>
          go_wp2_with fail
          exact hK _ (Below.refl _ _)
        simp only [List.set_cons_zero, List.set_cons_succ]
        refine wpG_pure (i := 8) (v := ?v13x8) rfl rfl (by rfl) (fun w hB hG K hK => ?h13x8) ?_
        case h13x8 =>
          go_wp2_with fail
          exact hK _ (Below.refl _ _)
        simp only [List.set_cons_zero, List.set_cons_succ]
        refine wpG_pure (i := 9) (v := ?v13x9) rfl rfl (by rfl) (fun w hB hG K hK => ?h13x9) ?_
        case h13x9 =>
          go_wp2_with fail
          exact hK _ (Below.refl _ _)
        simp only [List.set_cons_zero, List.set_cons_succ]
        refine wpG_pure (i := 10) (v := ?v13x10) rfl rfl (by rfl) (fun w hB hG K hK => ?h13x10) ?_
        case h13x10 =>
          go_wp2_with fail
          refine (HT1.out _).mono ?_
          rintro e wx ⟨rfl, hbx⟩
          exact hK _ hbx
        simp only [List.set_cons_zero, List.set_cons_succ]
        refine wpG_move (i := 11) rfl rfl rfl (by rfl) rfl ?_
        simp only [List.set_cons_zero, List.set_cons_succ]
        refine wpG_pure (i := 12) (v := ?v13x12) rfl rfl (by rfl) (fun w hB hG K hK => ?h13x12) ?_
        case h13x12 =>
          go_wp2_with fail
          exact hK _ (Below.refl _ _)
        simp only [List.set_cons_zero, List.set_cons_succ]
        refine wpG_pure (i := 13) (v := ?v13x13) rfl rfl (by rfl) (fun w hB hG K hK => ?h13x13) ?_
        case h13x13 =>
          go_wp2_with fail
          exact hK _ (Below.refl _ _)
        simp only [List.set_cons_zero, List.set_cons_succ]
        refine wpG_store (i := 14) (c' := ?c13x14) 0 rfl (Ne1.cons (by first | omega | (simp; omega)) (Ne1.cons (by first | omega | (simp; omega)) (Ne1.cons (by first | omega | (simp; omega)) Ne1.nil))) (by first | omega | (simp; omega)) (fun p hp => mem_set_erase hp) rfl rfl (by rfl) (fun w hB hF hG K hK => ?h13x14) ?_
        case h13x14 =>
          have cx := hF.cell
          have fx := hF.free
          go_wp2_with fail
          refine hK _ (Same.set (Same.set (Same.set (Same.set (Same.refl _ _) _ _) _ _) _ _) _ _) ?_
          exact (Blk.set (Blk.set (Blk.set (Blk.set hF _ _) _ _) _ _) _ _)
        simp only [List.set_cons_zero, List.set_cons_succ, List.setIfInBounds_toArray]
        refine wpG_assign (i := 15) rfl rfl rfl (by rfl) rfl ?_
        simp only [List.set_cons_zero, List.set_cons_succ]
        refine wpG_nil (fun w13 hb13 hG13 => ?_)
        simp only [List.append_eq, List.cons_append, List.nil_append, List.drop_succ_cons, List.drop_zero, List.drop_nil]
        have O13 := Own.of hG13
        try simp only [List.setIfInBounds_toArray, List.set_cons_zero, List.set_cons_succ] at O13
        have bw13 : Below w.heap.size w w13 := Below.trans (by go_grown) (Below.mono hb13 (by first | omega | (simp; done) | (simp; omega)))
        have zw13 := Below.size hb13
        try simp only [World.size_alloc, World.size_drew, World.size_setCell] at zw13
        clear c12x0 f12x0 l12x0 l12x0d0 l12x0d1 c12x1 f12x1 l12x1 l12x1d0 l12x1d1 c12x2 f12x2 l12x2 l12x2d0 l12x2d1 c12x3 f12x3 l12x3 l12x3d0 l12x3d1
        have c13x0 := Own.cell O13 0 rfl
        have f13x0 := Own.free O13 0 rfl
        have l13x0 := Own.lt O13 0 rfl
        have l13x0d0 := le_up 0 l13x0
        have l13x0d1 := le_up 1 l13x0
        simp only [upN] at l13x0d0 l13x0d1
        have c13x1 := Own.cell O13 1 rfl
        have f13x1 := Own.free O13 1 rfl
        have l13x1 := Own.lt O13 1 rfl
        have l13x1d0 := le_up 0 l13x1
        have l13x1d1 := le_up 1 l13x1
        simp only [upN] at l13x1d0 l13x1d1
        have c13x2 := Own.cell O13 2 rfl
        have f13x2 := Own.free O13 2 rfl
        have l13x2 := Own.lt O13 2 rfl
        have l13x2d0 := le_up 0 l13x2
        have l13x2d1 := le_up 1 l13x2
        simp only [upN] at l13x2d0 l13x2d1
        have c13x3 := Own.cell O13 3 rfl
        have f13x3 := Own.free O13 3 rfl
        have l13x3 := Own.lt O13 3 rfl
        have l13x3d0 := le_up 0 l13x3
        have l13x3d1 := le_up 1 l13x3
        simp only [upN] at l13x3d0 l13x3d1
        have HO13 := Lib.hid O13
        clear O13 hb13
        go_wp2_with fail
        refine (HOD.out _).mono ?_
        rintro e w14 ⟨rfl, hb14⟩
        have O14 := Own.grow' hb14 HO13.out
        try simp only [List.setIfInBounds_toArray, List.set_cons_zero, List.set_cons_succ] at O14
        have bw14 : Below w.heap.size w w14 := Below.trans (by go_grown) (Below.mono hb14 (by first | omega | (simp; done) | (simp; omega)))
        have zw14 := Below.size hb14
        try simp only [World.size_alloc, World.size_drew, World.size_setCell] at zw14
        clear c13x0 f13x0 l13x0 l13x0d0 l13x0d1 c13x1 f13x1 l13x1 l13x1d0 l13x1d1 c13x2 f13x2 l13x2 l13x2d0 l13x2d1 c13x3 f13x3 l13x3 l13x3d0 l13x3d1
        have c14x0 := Own.cell O14 0 rfl
        have f14x0 := Own.free O14 0 rfl
        have l14x0 := Own.lt O14 0 rfl
        have l14x0d0 := le_up 0 l14x0
        have l14x0d1 := le_up 1 l14x0
        simp only [upN] at l14x0d0 l14x0d1
        have c14x1 := Own.cell O14 1 rfl
        have f14x1 := Own.free O14 1 rfl
        have l14x1 := Own.lt O14 1 rfl
        have l14x1d0 := le_up 0 l14x1
        have l14x1d1 := le_up 1 l14x1
        simp only [upN] at l14x1d0 l14x1d1
        have c14x2 := Own.cell O14 2 rfl
        have f14x2 := Own.free O14 2 rfl
        have l14x2 := Own.lt O14 2 rfl
        have l14x2d0 := le_up 0 l14x2
        have l14x2d1 := le_up 1 l14x2
        simp only [upN] at l14x2d0 l14x2d1
        have c14x3 := Own.cell O14 3 rfl
        have f14x3 := Own.free O14 3 rfl
        have l14x3 := Own.lt O14 3 rfl
        have l14x3d0 := le_up 0 l14x3
        have l14x3d1 := le_up 1 l14x3
        simp only [upN] at l14x3d0 l14x3d1
        have HO14 := Lib.hid O14
        clear O14 hb14
        go_wp2_with fail
        refine (HSB.out _).mono ?_
        rintro e w15 ⟨rfl, hb15⟩
        have O15 := Own.grow' hb15 HO14.out
        try simp only [List.setIfInBounds_toArray, List.set_cons_zero, List.set_cons_succ] at O15
        have bw15 : Below w.heap.size w w15 := Below.trans (by go_grown) (Below.mono hb15 (by first | omega | (simp; done) | (simp; omega)))
        have zw15 := Below.size hb15
        try simp only [World.size_alloc, World.size_drew, World.size_setCell] at zw15
        clear c14x0 f14x0 l14x0 l14x0d0 l14x0d1 c14x1 f14x1 l14x1 l14x1d0 l14x1d1 c14x2 f14x2 l14x2 l14x2d0 l14x2d1 c14x3 f14x3 l14x3 l14x3d0 l14x3d1
        have c15x0 := Own.cell O15 0 rfl
        have f15x0 := Own.free O15 0 rfl
        have l15x0 := Own.lt O15 0 rfl
        have l15x0d0 := le_up 0 l15x0
        have l15x0d1 := le_up 1 l15x0
        simp only [upN] at l15x0d0 l15x0d1
        have c15x1 := Own.cell O15 1 rfl
        have f15x1 := Own.free O15 1 rfl
        have l15x1 := Own.lt O15 1 rfl
        have l15x1d0 := le_up 0 l15x1
        have l15x1d1 := le_up 1 l15x1
        simp only [upN] at l15x1d0 l15x1d1
        have c15x2 := Own.cell O15 2 rfl
        have f15x2 := Own.free O15 2 rfl
        have l15x2 := Own.lt O15 2 rfl
        have l15x2d0 := le_up 0 l15x2
        have l15x2d1 := le_up 1 l15x2
        simp only [upN] at l15x2d0 l15x2d1
        have c15x3 := Own.cell O15 3 rfl
        have f15x3 := Own.free O15 3 rfl
        have l15x3 := Own.lt O15 3 rfl
        have l15x3d0 := le_up 0 l15x3
        have l15x3d1 := le_up 1 l15x3
        simp only [upN] at l15x3d0 l15x3d1
        have HO15 := Lib.hid O15
        clear O15 hb15
        go_upto_region 11 with (fail)
        refine wp_name fun wn11y hwn11y => ?_
        have hOwn11y := (show Own _ wn11y by rw [hwn11y]; exact (Own.set (Own.set (Own.set (Own.set HO15.out 0 rfl (Ne1.cons (by first | omega | (simp; omega)) (Ne1.cons (by first | omega | (simp; omega)) (Ne1.cons (by first | omega | (simp; omega)) Ne1.nil)))) 0 rfl (Ne1.cons (by first | omega | (simp; omega)) (Ne1.cons (by first | omega | (simp; omega)) (Ne1.cons (by first | omega | (simp; omega)) Ne1.nil)))) 0 rfl (Ne1.cons (by first | omega | (simp; omega)) (Ne1.cons (by first | omega | (simp; omega)) (Ne1.cons (by first | omega | (simp; omega)) Ne1.nil)))) 0 rfl (Ne1.cons (by first | omega | (simp; omega)) (Ne1.cons (by first | omega | (simp; omega)) (Ne1.cons (by first | omega | (simp; omega)) Ne1.nil)))))
        try simp only [List.setIfInBounds_toArray, List.set_cons_zero, List.set_cons_succ] at hOwn11y
        have hBwn11y : Below w.heap.size w wn11y := by rw [hwn11y]; go_grown
        clear hwn11y
        have bw16 := hBwn11y
        clear c15x0 f15x0 l15x0 l15x0d0 l15x0d1 c15x1 f15x1 l15x1 l15x1d0 l15x1d1 c15x2 f15x2 l15x2 l15x2d0 l15x2d1 c15x3 f15x3 l15x3 l15x3d0 l15x3d1
        have O16 := hOwn11y
        have c16x0 := Own.cell O16 0 rfl
        have f16x0 := Own.free O16 0 rfl
        have l16x0 := Own.lt O16 0 rfl
        have l16x0d0 := le_up 0 l16x0
        have l16x0d1 := le_up 1 l16x0
        simp only [upN] at l16x0d0 l16x0d1
        have c16x1 := Own.cell O16 1 rfl
        have f16x1 := Own.free O16 1 rfl
        have l16x1 := Own.lt O16 1 rfl
        have l16x1d0 := le_up 0 l16x1
        have l16x1d1 := le_up 1 l16x1
        simp only [upN] at l16x1d0 l16x1d1
        have c16x2 := Own.cell O16 2 rfl
        have f16x2 := Own.free O16 2 rfl
        have l16x2 := Own.lt O16 2 rfl
        have l16x2d0 := le_up 0 l16x2
        have l16x2d1 := le_up 1 l16x2
        simp only [upN] at l16x2d0 l16x2d1
        have c16x3 := Own.cell O16 3 rfl
        have f16x3 := Own.free O16 3 rfl
        have l16x3 := Own.lt O16 3 rfl
        have l16x3d0 := le_up 0 l16x3
        have l16x3d1 := le_up 1 l16x3
        simp only [upN] at l16x3d0 l16x3d1
        have HO16 := Lib.hid O16
        clear O16
        go_upto_region 4 with (fail)
        refine wp_name fun wn4y hwn4y => ?_
        have hOwn4y := (show Own _ wn4y by rw [hwn4y]; exact (Own.set HO16.out 1 rfl (Ne1.cons (by first | omega | (simp; omega)) (Ne1.cons (by first | omega | (simp; omega)) (Ne1.cons (by first | omega | (simp; omega)) Ne1.nil)))))
        try simp only [List.setIfInBounds_toArray, List.set_cons_zero, List.set_cons_succ] at hOwn4y
        have hBwn4y : Below w.heap.size w wn4y := by rw [hwn4y]; go_grown
        clear hwn4y
        have bw17 := hBwn4y
        clear c16x0 f16x0 l16x0 l16x0d0 l16x0d1 c16x1 f16x1 l16x1 l16x1d0 l16x1d1 c16x2 f16x2 l16x2 l16x2d0 l16x2d1 c16x3 f16x3 l16x3 l16x3d0 l16x3d1
        have O17 := hOwn4y
        have c17x0 := Own.cell O17 0 rfl
        have f17x0 := Own.free O17 0 rfl
        have l17x0 := Own.lt O17 0 rfl
        have l17x0d0 := le_up 0 l17x0
        have l17x0d1 := le_up 1 l17x0
        simp only [upN] at l17x0d0 l17x0d1
        have c17x1 := Own.cell O17 1 rfl
        have f17x1 := Own.free O17 1 rfl
        have l17x1 := Own.lt O17 1 rfl
        have l17x1d0 := le_up 0 l17x1
        have l17x1d1 := le_up 1 l17x1
        simp only [upN] at l17x1d0 l17x1d1
        have c17x2 := Own.cell O17 2 rfl
        have f17x2 := Own.free O17 2 rfl
        have l17x2 := Own.lt O17 2 rfl
        have l17x2d0 := le_up 0 l17x2
        have l17x2d1 := le_up 1 l17x2
        simp only [upN] at l17x2d0 l17x2d1
        have c17x3 := Own.cell O17 3 rfl
        have f17x3 := Own.free O17 3 rfl
        have l17x3 := Own.lt O17 3 rfl
        have l17x3d0 := le_up 0 l17x3
        have l17x3d1 := le_up 1 l17x3
        simp only [upN] at l17x3d0 l17x3d1
        have HO17 := Lib.hid O17
        clear O17
        go_wp2_with fail
        refine ⟨⟨j, by omega, rfl, ?_, by go_grown⟩, by simp only [intOf]; omega⟩
        dsimp only; rw [hr1, hq1]; exact Own.eqv HO17.out (by first | rfl | simp only [List.setIfInBounds_toArray, List.set_cons_zero, List.set_cons_succ])
      · subst hc
        rw [decide_eq_false hc2] at hge
        rw [decide_eq_false hc2, show (false || false) = false from rfl, if_neg (by simp)] at HR1 HQ1
        obtain rfl := HR1.out
        obtain rfl := HQ1.out
        clear HR1 HQ1
        clear hc2
        clear hor h1 h2 h3
        have O18 := hO
        have c18x0 := Own.cell O18 0 rfl
        have f18x0 := Own.free O18 0 rfl
        have l18x0 := Own.lt O18 0 rfl
        have l18x0d0 := le_up 0 l18x0
        have l18x0d1 := le_up 1 l18x0
        simp only [upN] at l18x0d0 l18x0d1
        have c18x1 := Own.cell O18 1 rfl
        have f18x1 := Own.free O18 1 rfl
        have l18x1 := Own.lt O18 1 rfl
        have l18x1d0 := le_up 0 l18x1
        have l18x1d1 := le_up 1 l18x1
        simp only [upN] at l18x1d0 l18x1d1
        have c18x2 := Own.cell O18 2 rfl
        have f18x2 := Own.free O18 2 rfl
        have l18x2 := Own.lt O18 2 rfl
        have l18x2d0 := le_up 0 l18x2
        have l18x2d1 := le_up 1 l18x2
        simp only [upN] at l18x2d0 l18x2d1
        have c18x3 := Own.cell O18 3 rfl
        have f18x3 := Own.free O18 3 rfl
        have l18x3 := Own.lt O18 3 rfl
        have l18x3d0 := le_up 0 l18x3
        have l18x3d1 := le_up 1 l18x3
        simp only [upN] at l18x3d0 l18x3d1
        have HO18 := Lib.hid O18
        clear O18
        have hz0 := l18x0
        have hz1 := l18x1
        have hz2 := l18x2
        have hz3 := l18x3
        go_wp2_with fail
        refine (HT2.out _).mono ?_
        rintro e w19 ⟨rfl, hb19⟩
        have O19 := Own.grow' hb19 HO18.out
        try simp only [List.setIfInBounds_toArray, List.set_cons_zero, List.set_cons_succ] at O19
        have bw19 : Below w.heap.size w w19 := Below.trans (by go_grown) (Below.mono hb19 (by first | omega | (simp; done) | (simp; omega)))
        have zw19 := Below.size hb19
        try simp only [World.size_alloc, World.size_drew, World.size_setCell] at zw19
        clear c18x0 f18x0 l18x0 l18x0d0 l18x0d1 c18x1 f18x1 l18x1 l18x1d0 l18x1d1 c18x2 f18x2 l18x2 l18x2d0 l18x2d1 c18x3 f18x3 l18x3 l18x3d0 l18x3d1
        have c19x0 := Own.cell O19 0 rfl
        have f19x0 := Own.free O19 0 rfl
        have l19x0 := Own.lt O19 0 rfl
        have l19x0d0 := le_up 0 l19x0
        have l19x0d1 := le_up 1 l19x0
        simp only [upN] at l19x0d0 l19x0d1
        have c19x1 := Own.cell O19 1 rfl
        have f19x1 := Own.free O19 1 rfl
        have l19x1 := Own.lt O19 1 rfl
        have l19x1d0 := le_up 0 l19x1
        have l19x1d1 := le_up 1 l19x1
        simp only [upN] at l19x1d0 l19x1d1
        have c19x2 := Own.cell O19 2 rfl
        have f19x2 := Own.free O19 2 rfl
        have l19x2 := Own.lt O19 2 rfl
        have l19x2d0 := le_up 0 l19x2
        have l19x2d1 := le_up 1 l19x2
        simp only [upN] at l19x2d0 l19x2d1
        have c19x3 := Own.cell O19 3 rfl
        have f19x3 := Own.free O19 3 rfl
        have l19x3 := Own.lt O19 3 rfl
        have l19x3d0 := le_up 0 l19x3
        have l19x3d1 := le_up 1 l19x3
        simp only [upN] at l19x3d0 l19x3d1
        have HO19 := Lib.hid O19
        clear O19 hb19
        go_upto_region 8 with (fail)
        refine wp_name fun wn8z hwn8z => ?_
        have hOwn8z := (show Own _ wn8z by rw [hwn8z]; exact (Own.set (Own.set (Own.set (Own.set HO19.out 1 rfl (Ne1.cons (by first | omega | (simp; omega)) (Ne1.cons (by first | omega | (simp; omega)) (Ne1.cons (by first | omega | (simp; omega)) Ne1.nil)))) 1 rfl (Ne1.cons (by first | omega | (simp; omega)) (Ne1.cons (by first | omega | (simp; omega)) (Ne1.cons (by first | omega | (simp; omega)) Ne1.nil)))) 1 rfl (Ne1.cons (by first | omega | (simp; omega)) (Ne1.cons (by first | omega | (simp; omega)) (Ne1.cons (by first | omega | (simp; omega)) Ne1.nil)))) 1 rfl (Ne1.cons (by first | omega | (simp; omega)) (Ne1.cons (by first | omega | (simp; omega)) (Ne1.cons (by first | omega | (simp; omega)) Ne1.nil)))))
        try simp only [List.setIfInBounds_toArray, List.set_cons_zero, List.set_cons_succ] at hOwn8z
        have hBwn8z : Below w.heap.size w wn8z := by rw [hwn8z]; go_grown
        clear hwn8z
        have bw20 := hBwn8z
        clear c19x0 f19x0 l19x0 l19x0d0 l19x0d1 c19x1 f19x1 l19x1 l19x1d0 l19x1d1 c19x2 f19x2 l19x2 l19x2d0 l19x2d1 c19x3 f19x3 l19x3 l19x3d0 l19x3d1
        have O20 := hOwn8z
        have c20x0 := Own.cell O20 0 rfl
        have f20x0 := Own.free O20 0 rfl
        have l20x0 := Own.lt O20 0 rfl
        have l20x0d0 := le_up 0 l20x0
        have l20x0d1 := le_up 1 l20x0
        simp only [upN] at l20x0d0 l20x0d1
        have c20x1 := Own.cell O20 1 rfl
        have f20x1 := Own.free O20 1 rfl
        have l20x1 := Own.lt O20 1 rfl
        have l20x1d0 := le_up 0 l20x1
        have l20x1d1 := le_up 1 l20x1
        simp only [upN] at l20x1d0 l20x1d1
        have c20x2 := Own.cell O20 2 rfl
        have f20x2 := Own.free O20 2 rfl
        have l20x2 := Own.lt O20 2 rfl
        have l20x2d0 := le_up 0 l20x2
        have l20x2d1 := le_up 1 l20x2
        simp only [upN] at l20x2d0 l20x2d1
        have c20x3 := Own.cell O20 3 rfl
        have f20x3 := Own.free O20 3 rfl
        have l20x3 := Own.lt O20 3 rfl
        have l20x3d0 := le_up 0 l20x3
        have l20x3d1 := le_up 1 l20x3
        simp only [upN] at l20x3d0 l20x3d1
        have HO20 := Lib.hid O20
        clear O20
        go_wp2_with fail
        refine wp_region_grow w.heap.size 16 16384 0 [(0, 0, 8388608, 128), (1, 0, 16777216, 32), (2, 0, 33554432, 64), (3, 4, 67108864, 33554432), (4, 8, 134217728, 67108872), (5, 16, 268435456, 134217728), (6, 0, 536870912, 64), (7, 64, 1073741824, 536870912), (8, 160, 2147483648, 1342177280), (9, 256, 4294967296, 2147483648), (10, 515, 8589934592, 4320133120), (11, 1024, 4194304, 8589934592), (12, 2048, 17179869184, 4194304), (13, 2048, 34359738368, 4194304), (14, 8191, 0, 17179869216), (15, 32767, 256, 34359738368)] [(.p 0, 1), (.q 1, 3), (.p 2, 7), (.p 3, 15), (.p 4, 31), (.p 5, 63), (.p 6, 127), (.p 7, 255), (.p 8, 511), (.p 9, 1023), (.p 10, 2047), (.p 11, 4095), (.p 12, 8191), (.p 13, 16383), (.c 14, 32767), (.p 15, 65535)] [] (List.eraseIdx _ 0) (fun p hp => List.mem_of_mem_eraseIdx hp) (by first | omega | (simp; done) | (simp; omega)) (by kernel_rfl) (by kernel_rfl) HO20.out ?_
        refine wpG_move (i := 0) rfl rfl rfl (by rfl) rfl ?_
        simp only [List.set_cons_zero, List.set_cons_succ]
        refine wpG_op (i := 1) (v := ?v21x1) rfl rfl (by rfl) (fun w hB hG K hK => ?h21x1) ?_
        case h21x1 =>
          have cx := Own.cell hG 0 rfl
          go_wp2_with fail
          exact hK _ (Below.refl _ _)
        simp only [List.set_cons_zero, List.set_cons_succ]
        refine wpG_move (i := 2) rfl rfl rfl (by rfl) rfl ?_
        simp only [List.set_cons_zero, List.set_cons_succ]
        refine wpG_pure (i := 3) (v := ?v21x3) rfl rfl (by rfl) (fun w hB hG K hK => ?h21x3) ?_
        case h21x3 =>
          go_wp2_with fail
          exact hK _ (Below.refl _ _)
        simp only [List.set_cons_zero, List.set_cons_succ]
        refine wpG_pure (i := 4) (v := ?v21x4) rfl rfl (by rfl) (fun w hB hG K hK => ?h21x4) ?_
        case h21x4 =>
          go_wp2_with fail
          exact hK _ (Below.refl _ _)
        simp only [List.set_cons_zero, List.set_cons_succ]
        refine wpG_pure (i := 5) (v := ?v21x5) rfl rfl (by rfl) (fun w hB hG K hK => ?h21x5) ?_
        case h21x5 =>
          have hcx := (hG.cell 1 rfl (j / 64)).trans h8
          have cx := Own.cell hG 1 rfl
          go_wp2_with fail
          exact hK _ (Below.refl _ _)
        simp only [List.set_cons_zero, List.set_cons_succ]
        refine wpG_move (i := 6) rfl rfl rfl (by rfl) rfl ?_
        simp only [List.set_cons_zero, List.set_cons_succ]
        refine wpG_pure (i := 7) (v := ?v21x7) rfl rfl (by rfl) (fun w hB hG K hK => ?h21x7) ?_
        case h21x7 =>
          go_wp2_with fail
          exact hK _ (Below.refl _ _)
        simp only [List.set_cons_zero, List.set_cons_succ]
        refine wpG_pure (i := 8) (v := ?v21x8) rfl rfl (by rfl) (fun w hB hG K hK => ?h21x8) ?_
        case h21x8 =>
          go_wp2_with fail
          exact hK _ (Below.refl _ _)
        simp only [List.set_cons_zero, List.set_cons_succ]
        refine wpG_pure (i := 9) (v := ?v21x9) rfl rfl (by rfl) (fun w hB hG K hK => ?h21x9) ?_
        case h21x9 =>
          go_wp2_with fail
          exact hK _ (Below.refl _ _)
        simp only [List.set_cons_zero, List.set_cons_succ]
        refine wpG_pure (i := 10) (v := ?v21x10) rfl rfl (by rfl) (fun w hB hG K hK => ?h21x10) ?_
        case h21x10 =>
          go_wp2_with fail
          refine (HT1.out _).mono ?_
          rintro e wx ⟨rfl, hbx⟩
          exact hK _ hbx
        simp only [List.set_cons_zero, List.set_cons_succ]
        refine wpG_move (i := 11) rfl rfl rfl (by rfl) rfl ?_
        simp only [List.set_cons_zero, List.set_cons_succ]
        refine wpG_pure (i := 12) (v := ?v21x12) rfl rfl (by rfl) (fun w hB hG K hK => ?h21x12) ?_
        case h21x12 =>
          go_wp2_with fail
          exact hK _ (Below.refl _ _)
        simp only [List.set_cons_zero, List.set_cons_succ]
        refine wpG_pure (i := 13) (v := ?v21x13) rfl rfl (by rfl) (fun w hB hG K hK => ?h21x13) ?_
        case h21x13 =>
          go_wp2_with fail
          exact hK _ (Below.refl _ _)
        simp only [List.set_cons_zero, List.set_cons_succ]
        refine wpG_store (i := 14) (c' := ?c21x14) 0 rfl (Ne1.cons (by first | omega | (simp; omega)) (Ne1.cons (by first | omega | (simp; omega)) (Ne1.cons (by first | omega | (simp; omega)) Ne1.nil))) (by first | omega | (simp; omega)) (fun p hp => mem_set_erase hp) rfl rfl (by rfl) (fun w hB hF hG K hK => ?h21x14) ?_
        case h21x14 =>
          have cx := hF.cell
          have fx := hF.free
          go_wp2_with fail
          refine hK _ (Same.set (Same.set (Same.set (Same.set (Same.refl _ _) _ _) _ _) _ _) _ _) ?_
          exact (Blk.set (Blk.set (Blk.set (Blk.set hF _ _) _ _) _ _) _ _)
        simp only [List.set_cons_zero, List.set_cons_succ, List.setIfInBounds_toArray]
        refine wpG_assign (i := 15) rfl rfl rfl (by rfl) rfl ?_
        simp only [List.set_cons_zero, List.set_cons_succ]
        refine wpG_nil (fun w21 hb21 hG21 => ?_)
        simp only [List.append_eq, List.cons_append, List.nil_append, List.drop_succ_cons, List.drop_zero, List.drop_nil]
        have O21 := Own.of hG21
        try simp only [List.setIfInBounds_toArray, List.set_cons_zero, List.set_cons_succ] at O21
        have bw21 : Below w.heap.size w w21 := Below.trans (by go_grown) (Below.mono hb21 (by first | omega | (simp; done) | (simp; omega)))
        have zw21 := Below.size hb21
        try simp only [World.size_alloc, World.size_drew, World.size_setCell] at zw21
        clear c20x0 f20x0 l20x0 l20x0d0 l20x0d1 c20x1 f20x1 l20x1 l20x1d0 l20x1d1 c20x2 f20x2 l20x2 l20x2d0 l20x2d1 c20x3 f20x3 l20x3 l20x3d0 l20x3d1
        have c21x0 := Own.cell O21 0 rfl
        have f21x0 := Own.free O21 0 rfl
        have l21x0 := Own.lt O21 0 rfl
        have l21x0d0 := le_up 0 l21x0
        have l21x0d1 := le_up 1 l21x0
        simp only [upN] at l21x0d0 l21x0d1
        have c21x1 := Own.cell O21 1 rfl
        have f21x1 := Own.free O21 1 rfl
        have l21x1 := Own.lt O21 1 rfl
        have l21x1d0 := le_up 0 l21x1
        have l21x1d1 := le_up 1 l21x1
        simp only [upN] at l21x1d0 l21x1d1
        have c21x2 := Own.cell O21 2 rfl
        have f21x2 := Own.free O21 2 rfl
        have l21x2 := Own.lt O21 2 rfl
        have l21x2d0 := le_up 0 l21x2
        have l21x2d1 := le_up 1 l21x2
        simp only [upN] at l21x2d0 l21x2d1
        have c21x3 := Own.cell O21 3 rfl
        have f21x3 := Own.free O21 3 rfl
        have l21x3 := Own.lt O21 3 rfl
        have l21x3d0 := le_up 0 l21x3
        have l21x3d1 := le_up 1 l21x3
        simp only [upN] at l21x3d0 l21x3d1
        have HO21 := Lib.hid O21
        clear O21 hb21
        go_wp2_with fail
        refine (HOD.out _).mono ?_
        rintro e w22 ⟨rfl, hb22⟩
        have O22 := Own.grow' hb22 HO21.out
        try simp only [List.setIfInBounds_toArray, List.set_cons_zero, List.set_cons_succ] at O22
        have bw22 : Below w.heap.size w w22 := Below.trans (by go_grown) (Below.mono hb22 (by first | omega | (simp; done) | (simp; omega)))
        have zw22 := Below.size hb22
        try simp only [World.size_alloc, World.size_drew, World.size_setCell] at zw22
        clear c21x0 f21x0 l21x0 l21x0d0 l21x0d1 c21x1 f21x1 l21x1 l21x1d0 l21x1d1 c21x2 f21x2 l21x2 l21x2d0 l21x2d1 c21x3 f21x3 l21x3 l21x3d0 l21x3d1
        have c22x0 := Own.cell O22 0 rfl
        have f22x0 := Own.free O22 0 rfl
        have l22x0 := Own.lt O22 0 rfl
        have l22x0d0 := le_up 0 l22x0
        have l22x0d1 := le_up 1 l22x0
        simp only [upN] at l22x0d0 l22x0d1
        have c22x1 := Own.cell O22 1 rfl
        have f22x1 := Own.free O22 1 rfl
        have l22x1 := Own.lt O22 1 rfl
        have l22x1d0 := le_up 0 l22x1
        have l22x1d1 := le_up 1 l22x1
        simp only [upN] at l22x1d0 l22x1d1
        have c22x2 := Own.cell O22 2 rfl
        have f22x2 := Own.free O22 2 rfl
        have l22x2 := Own.lt O22 2 rfl
        have l22x2d0 := le_up 0 l22x2
        have l22x2d1 := le_up 1 l22x2
        simp only [upN] at l22x2d0 l22x2d1
        have c22x3 := Own.cell O22 3 rfl
        have f22x3 := Own.free O22 3 rfl
        have l22x3 := Own.lt O22 3 rfl
        have l22x3d0 := le_up 0 l22x3
        have l22x3d1 := le_up 1 l22x3
        simp only [upN] at l22x3d0 l22x3d1
        have HO22 := Lib.hid O22
        clear O22 hb22
        go_wp2_with fail
        refine ⟨⟨j, by omega, rfl, ?_, by go_grown⟩, by simp only [intOf]; omega⟩
        dsimp only; rw [hr1, hq1]; exact Own.eqv HO22.out (by first | rfl | simp only [List.setIfInBounds_toArray, List.set_cons_zero, List.set_cons_succ])
end Go.Proofs.Ytjmaigienigpnaa
