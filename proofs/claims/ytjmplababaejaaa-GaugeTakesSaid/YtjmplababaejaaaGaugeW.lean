/- The rows of the chapter: works. -/
import Derived.Test.YtjmplababaejaaaGaugeT
import Derived.Test.YtjmplababaejaaaReg
set_option linter.unusedVariables false
set_option linter.unusedSimpArgs false
namespace Go.Proofs.Ytjmplababaejaaa
open Go.RowKit

theorem tk1 (w : World) : Calls Try.prog 17 #[.agg #[.int .u64 100, .int .u64 100, .int .u64 100, .int .u64 0], .agg #[.int .u64 30, .int .u64 30, .int .u64 30, .int .u64 0]] w fun e w' => e = .returned (.tuple #[.agg #[.int .u64 70, .int .u64 70, .int .u64 70, .int .u64 0], .int .i64 0, .int .i64 0]) ∧ Below w.heap.size w w' :=
  (take_right ⟨100, 100, 100, 0⟩ ⟨30, 30, 30, 0⟩ w (by decide) ⟨by decide, by decide⟩ ⟨by decide, by decide⟩).mono fun e w' ⟨he, hb⟩ => ⟨he.trans (congrArg Ending.returned (by kernel_rfl)), hb⟩
theorem tk2 (w : World) : Calls Try.prog 17 #[.agg #[.int .u64 100, .int .u64 100, .int .u64 100, .int .u64 0], .agg #[.int .u64 101, .int .u64 101, .int .u64 101, .int .u64 0]] w fun e w' => e = .returned (.tuple #[.agg #[.int .u64 100, .int .u64 100, .int .u64 100, .int .u64 0], .int .i64 1, .int .i64 0]) ∧ Below w.heap.size w w' :=
  (take_right ⟨100, 100, 100, 0⟩ ⟨101, 101, 101, 0⟩ w (by decide) ⟨by decide, by decide⟩ ⟨by decide, by decide⟩).mono fun e w' ⟨he, hb⟩ => ⟨he.trans (congrArg Ending.returned (by kernel_rfl)), hb⟩
theorem tk3 (w : World) : Calls Try.prog 17 #[.agg #[.int .u64 50, .int .u64 40, .int .u64 60, .int .u64 1], .agg #[.int .u64 45, .int .u64 45, .int .u64 45, .int .u64 0]] w fun e w' => e = .returned (.tuple #[.agg #[.int .u64 50, .int .u64 40, .int .u64 60, .int .u64 1], .int .i64 2, .int .i64 0]) ∧ Below w.heap.size w w' :=
  (take_right ⟨50, 40, 60, 1⟩ ⟨45, 45, 45, 0⟩ w (by decide) ⟨by decide, by decide⟩ ⟨by decide, by decide⟩).mono fun e w' ⟨he, hb⟩ => ⟨he.trans (congrArg Ending.returned (by kernel_rfl)), hb⟩
theorem tk4 (w : World) : Calls Try.prog 17 #[.agg #[.int .u64 50, .int .u64 40, .int .u64 60, .int .u64 1], .agg #[.int .u64 20, .int .u64 10, .int .u64 30, .int .u64 2]] w fun e w' => e = .returned (.tuple #[.agg #[.int .u64 30, .int .u64 10, .int .u64 50, .int .u64 3], .int .i64 0, .int .i64 0]) ∧ Below w.heap.size w w' :=
  (take_right ⟨50, 40, 60, 1⟩ ⟨20, 10, 30, 2⟩ w (by decide) ⟨by decide, by decide⟩ ⟨by decide, by decide⟩).mono fun e w' ⟨he, hb⟩ => ⟨he.trans (congrArg Ending.returned (by kernel_rfl)), hb⟩
theorem sp1 (w : World) : Calls Try.prog 7 #[.agg #[.int .u64 640, .int .u64 640, .int .u64 640, .int .u64 0], .int .u64 1000] w fun e w' => e = .returned (.tuple #[.agg #[.int .u64 630, .int .u64 630, .int .u64 630, .int .u64 0], .agg #[.int .u64 10, .int .u64 10, .int .u64 10, .int .u64 0], .int .i64 0]) ∧ Below w.heap.size w w' :=
  (split_any ⟨640, 640, 640, 0⟩ 1000 w (by decide) (by decide)).mono fun e w' ⟨he, hb⟩ => ⟨he.trans (congrArg Ending.returned (by kernel_rfl)), hb⟩
theorem sp2 (w : World) : Calls Try.prog 7 #[.agg #[.int .u64 640, .int .u64 640, .int .u64 640, .int .u64 0], .int .u64 5] w fun e w' => e = .returned (.tuple #[.agg #[.int .u64 5, .int .u64 5, .int .u64 5, .int .u64 0], .agg #[.int .u64 635, .int .u64 635, .int .u64 635, .int .u64 0], .int .i64 0]) ∧ Below w.heap.size w w' :=
  (split_any ⟨640, 640, 640, 0⟩ 5 w (by decide) (by decide)).mono fun e w' ⟨he, hb⟩ => ⟨he.trans (congrArg Ending.returned (by kernel_rfl)), hb⟩
theorem bk1 (w : World) : Calls Try.prog 9 #[.int .u64 1000, .agg #[.int .u64 400, .int .u64 400, .int .u64 400, .int .u64 0], .agg #[.int .u64 200, .int .u64 200, .int .u64 200, .int .u64 0]] w fun e w' => e = .returned (.tuple #[.agg #[.int .u64 600, .int .u64 600, .int .u64 600, .int .u64 0], .agg #[.int .u64 120, .int .u64 120, .int .u64 120, .int .u64 0], .int .i64 0]) ∧ Below w.heap.size w w' :=
  (back_any ⟨400, 400, 400, 0⟩ ⟨200, 200, 200, 0⟩ 1000 w (by decide) (by decide) (by decide) ⟨by decide, by decide⟩).mono fun e w' ⟨he, hb⟩ => ⟨he.trans (congrArg Ending.returned (by kernel_rfl)), hb⟩
theorem bk2 (w : World) : Calls Try.prog 9 #[.int .u64 1000, .agg #[.int .u64 900, .int .u64 900, .int .u64 900, .int .u64 0], .agg #[.int .u64 500, .int .u64 500, .int .u64 500, .int .u64 0]] w fun e w' => e = .returned (.tuple #[.agg #[.int .u64 100, .int .u64 100, .int .u64 100, .int .u64 0], .agg #[.int .u64 20, .int .u64 20, .int .u64 20, .int .u64 0], .int .i64 0]) ∧ Below w.heap.size w w' :=
  (back_any ⟨900, 900, 900, 0⟩ ⟨500, 500, 500, 0⟩ 1000 w (by decide) (by decide) (by decide) ⟨by decide, by decide⟩).mono fun e w' ⟨he, hb⟩ => ⟨he.trans (congrArg Ending.returned (by kernel_rfl)), hb⟩

set_option maxHeartbeats 16000000 in
set_option maxRecDepth 100000 in
theorem works_any (w : World) : Calls Try.prog 14 #[] w fun e w' => e = .returned (.bool true) ∧ Below w.heap.size w w' := by
  have Htk1 := Lib.hid fun W => tk1 W
  have Htk2 := Lib.hid fun W => tk2 W
  have Htk3 := Lib.hid fun W => tk3 W
  have Htk4 := Lib.hid fun W => tk4 W
  have Hsp1 := Lib.hid fun W => sp1 W
  have Hsp2 := Lib.hid fun W => sp2 W
  have Hbk1 := Lib.hid fun W => bk1 W
  have Hbk2 := Lib.hid fun W => bk2 W
  go_enter Try.func14, Try.ntmps14
  go_wp2_with fail
  refine (refOf_any _ _).mono ?_
  rintro e w1 ⟨rfl, hb1⟩
  have O1 := Own.grow' hb1 (Own.nil w)
  try simp only [List.setIfInBounds_toArray, List.set_cons_zero, List.set_cons_succ] at O1
  have bw1 : Below w.heap.size w w1 := Below.trans (by go_grown) (Below.mono hb1 (by first | omega | (simp; done) | (simp; omega)))
  have zw1 := Below.size hb1
  try simp only [World.size_alloc, World.size_drew, World.size_setCell] at zw1
  have HO1 := Lib.hid O1
  clear O1 hb1
  go_wp2_with fail
  refine (refFixed_any _ _).mono ?_
  rintro e w2 ⟨rfl, hb2⟩
  have O2 := Own.grow' hb2 HO1.out
  try simp only [List.setIfInBounds_toArray, List.set_cons_zero, List.set_cons_succ] at O2
  have bw2 : Below w.heap.size w w2 := Below.trans (by go_grown) (Below.mono hb2 (by first | omega | (simp; done) | (simp; omega)))
  have zw2 := Below.size hb2
  try simp only [World.size_alloc, World.size_drew, World.size_setCell] at zw2
  have HO2 := Lib.hid O2
  clear O2 hb2
  go_wp2_with fail
  refine (Htk1.out _).mono ?_
  rintro e w3 ⟨rfl, hb3⟩
  have O3 := Own.grow' hb3 HO2.out
  try simp only [List.setIfInBounds_toArray, List.set_cons_zero, List.set_cons_succ] at O3
  have bw3 : Below w.heap.size w w3 := Below.trans (by go_grown) (Below.mono hb3 (by first | omega | (simp; done) | (simp; omega)))
  have zw3 := Below.size hb3
  try simp only [World.size_alloc, World.size_drew, World.size_setCell] at zw3
  have HO3 := Lib.hid O3
  clear O3 hb3
  go_wp2_with fail
  refine (refOf_any _ _).mono ?_
  rintro e w4 ⟨rfl, hb4⟩
  have O4 := Own.grow' hb4 (Own.new HO3.out (w3.heap.size) rfl)
  try simp only [List.setIfInBounds_toArray, List.set_cons_zero, List.set_cons_succ] at O4
  have bw4 : Below w.heap.size w w4 := Below.trans (by go_grown) (Below.mono hb4 (by first | omega | (simp; done) | (simp; omega)))
  have zw4 := Below.size hb4
  try simp only [World.size_alloc, World.size_drew, World.size_setCell] at zw4
  have c4x0 := O4.cell 0 rfl
  have f4x0 := O4.free 0 rfl
  have l4x0 := O4.lt 0 rfl
  have l4x0d0 := le_up 0 l4x0
  simp only [upN] at l4x0d0
  have HO4 := Lib.hid O4
  clear O4 hb4
  go_wp2_with fail
  refine (refFixed_any _ _).mono ?_
  rintro e w5 ⟨rfl, hb5⟩
  have O5 := Own.grow' hb5 HO4.out
  try simp only [List.setIfInBounds_toArray, List.set_cons_zero, List.set_cons_succ] at O5
  have bw5 : Below w.heap.size w w5 := Below.trans (by go_grown) (Below.mono hb5 (by first | omega | (simp; done) | (simp; omega)))
  have zw5 := Below.size hb5
  try simp only [World.size_alloc, World.size_drew, World.size_setCell] at zw5
  clear c4x0 f4x0 l4x0 l4x0d0
  have c5x0 := O5.cell 0 rfl
  have f5x0 := O5.free 0 rfl
  have l5x0 := O5.lt 0 rfl
  have l5x0d0 := le_up 0 l5x0
  simp only [upN] at l5x0d0
  have HO5 := Lib.hid O5
  clear O5 hb5
  go_wp2_with fail
  refine (Htk2.out _).mono ?_
  rintro e w6 ⟨rfl, hb6⟩
  have O6 := Own.grow' hb6 HO5.out
  try simp only [List.setIfInBounds_toArray, List.set_cons_zero, List.set_cons_succ] at O6
  have bw6 : Below w.heap.size w w6 := Below.trans (by go_grown) (Below.mono hb6 (by first | omega | (simp; done) | (simp; omega)))
  have zw6 := Below.size hb6
  try simp only [World.size_alloc, World.size_drew, World.size_setCell] at zw6
  clear c5x0 f5x0 l5x0 l5x0d0
  have c6x0 := O6.cell 0 rfl
  have f6x0 := O6.free 0 rfl
  have l6x0 := O6.lt 0 rfl
  have l6x0d0 := le_up 0 l6x0
  simp only [upN] at l6x0d0
  have HO6 := Lib.hid O6
  clear O6 hb6
  go_wp2_with fail
  refine wp_region_grow w.heap.size 11 256 128 [(0, 0, 4398046511104, 128), (1, 0, 8796093022208, 0), (2, 3, 17592186044416, 13194139533312), (3, 4, 2199023255552, 17592186044416), (4, 8, 35184372088832, 2199023255552), (5, 8, 70368744177664, 2199023255552), (6, 8, 140737488355328, 2199023255552), (7, 0, 256, 0), (8, 159, 0, 35184372089088), (9, 447, 512, 70368744177664), (10, 1023, 1024, 140737488355328)] [(.p 0, 1), (.p 1, 3), (.p 2, 7), (.p 3, 15), (.p 4, 31), (.p 5, 63), (.p 6, 127), (.g 7, 255), (.c 8, 511), (.p 9, 1023), (.p 10, 2047)] [] _ (fun p hp => hp) (by first | omega | (simp; done) | (simp; omega)) (by kernel_rfl) (by kernel_rfl) (Own.new (Own.new HO6.out (w6.heap.size) rfl) (w6.heap.size + 1) (by simp)) ?_
  refine wpG_pure (i := 0) (v := ?v7x0) rfl rfl (by rfl) (fun w hB hG K hK => ?h7x0) ?_
  case h7x0 =>
    have cx := hG.cell 0 rfl
    go_wp2_with fail
    exact hK _ (Below.refl _ _)
  simp only [List.set_cons_zero, List.set_cons_succ]
  refine wpG_pure (i := 1) (v := ?v7x1) rfl rfl (by rfl) (fun w hB hG K hK => ?h7x1) ?_
  case h7x1 =>
    go_wp2_with fail
    refine (refFixed_any _ _).mono ?_
    rintro e wx ⟨rfl, hbx⟩
    exact hK _ hbx
  simp only [List.set_cons_zero, List.set_cons_succ]
  refine wpG_pure (i := 2) (v := ?v7x2) rfl rfl (by rfl) (fun w hB hG K hK => ?h7x2) ?_
  case h7x2 =>
    go_wp2_with fail
    refine (Htk3.out _).mono ?_
    rintro e wx ⟨rfl, hbx⟩
    exact hK _ hbx
  simp only [List.set_cons_zero, List.set_cons_succ]
  refine wpG_move (i := 3) rfl rfl rfl (by rfl) rfl ?_
  simp only [List.set_cons_zero, List.set_cons_succ]
  refine wpG_pure (i := 4) (v := ?v7x4) rfl rfl (by rfl) (fun w hB hG K hK => ?h7x4) ?_
  case h7x4 =>
    go_wp2_with fail
    exact hK _ (Below.refl _ _)
  simp only [List.set_cons_zero, List.set_cons_succ]
  refine wpG_pure (i := 5) (v := ?v7x5) rfl rfl (by rfl) (fun w hB hG K hK => ?h7x5) ?_
  case h7x5 =>
    go_wp2_with fail
    exact hK _ (Below.refl _ _)
  simp only [List.set_cons_zero, List.set_cons_succ]
  refine wpG_pure (i := 6) (v := ?v7x6) rfl rfl (by rfl) (fun w hB hG K hK => ?h7x6) ?_
  case h7x6 =>
    go_wp2_with fail
    exact hK _ (Below.refl _ _)
  simp only [List.set_cons_zero, List.set_cons_succ]
  refine wpG_make (i := 7) (c := ?c7x7) (t := ?t7x7) (fun b => .pointer (some ⟨b, 0, none⟩)) rfl rfl (by rfl) (fun w hB hG K hK => ?h7x7) (fun v7g1 l7g1 n7g1 => ?_)
  case h7x7 =>
    go_wp2_with fail
    exact hK
  simp only [List.set_cons_zero, List.set_cons_succ]
  try simp only [World.size_alloc, World.size_drew, World.size_setCell] at l7g1
  clear n7g1
  refine wpG_store (i := 8) (c' := ?c7x8) 0 rfl (Ne1.cons (by first | omega | (simp; omega)) (Ne1.cons (by first | omega | (simp; omega)) (Ne1.cons (by first | omega | (simp; omega)) Ne1.nil))) (by first | omega | (simp; omega)) (fun p hp => List.mem_cons_of_mem _ (hp)) rfl rfl (by rfl) (fun w hB hF hG K hK => ?h7x8) ?_
  case h7x8 =>
    have cx := hF.cell
    have fx := hF.free
    go_wp2_with fail
    refine hK _ (Same.set (Same.set (Same.set (Same.set (Same.refl _ _) _ _) _ _) _ _) _ _) ?_
    exact (Blk.set (Blk.set (Blk.set (Blk.set hF _ _) _ _) _ _) _ _)
  simp only [List.set_cons_zero, List.set_cons_succ, List.setIfInBounds_toArray]
  refine wpG_assign (i := 9) rfl rfl rfl (by rfl) rfl ?_
  simp only [List.set_cons_zero, List.set_cons_succ]
  refine wpG_assign (i := 10) rfl rfl rfl (by rfl) rfl ?_
  simp only [List.set_cons_zero, List.set_cons_succ]
  refine wpG_nil (fun w7 hb7 hG7 => ?_)
  simp only [List.append_eq, List.cons_append, List.nil_append, List.drop_succ_cons, List.drop_zero, List.drop_nil]
  have u7g1 := Own.lt hG7 0 rfl
  have O7 := Own.of hG7
  try simp only [List.setIfInBounds_toArray, List.set_cons_zero, List.set_cons_succ] at O7
  have bw7 : Below w.heap.size w w7 := Below.trans (by go_grown) (Below.mono hb7 (by first | omega | (simp; done) | (simp; omega)))
  have zw7 := Below.size hb7
  try simp only [World.size_alloc, World.size_drew, World.size_setCell] at zw7
  clear c6x0 f6x0 l6x0 l6x0d0
  have c7x0 := O7.cell 0 rfl
  have f7x0 := O7.free 0 rfl
  have l7x0 := O7.lt 0 rfl
  have l7x0d0 := le_up 0 l7x0
  simp only [upN] at l7x0d0
  have c7x1 := O7.cell 1 rfl
  have f7x1 := O7.free 1 rfl
  have l7x1 := O7.lt 1 rfl
  have l7x1d0 := le_up 0 l7x1
  simp only [upN] at l7x1d0
  have c7x2 := O7.cell 2 rfl
  have f7x2 := O7.free 2 rfl
  have l7x2 := O7.lt 2 rfl
  have l7x2d0 := le_up 0 l7x2
  simp only [upN] at l7x2d0
  have c7x3 := O7.cell 3 rfl
  have f7x3 := O7.free 3 rfl
  have l7x3 := O7.lt 3 rfl
  have l7x3d0 := le_up 0 l7x3
  simp only [upN] at l7x3d0
  have HO7 := Lib.hid O7
  clear O7 hb7
  go_wp2_with fail
  refine (Htk4.out _).mono ?_
  rintro e w8 ⟨rfl, hb8⟩
  have O8 := Own.grow' hb8 HO7.out
  try simp only [List.setIfInBounds_toArray, List.set_cons_zero, List.set_cons_succ] at O8
  have bw8 : Below w.heap.size w w8 := Below.trans (by go_grown) (Below.mono hb8 (by first | omega | (simp; done) | (simp; omega)))
  have zw8 := Below.size hb8
  try simp only [World.size_alloc, World.size_drew, World.size_setCell] at zw8
  clear c7x0 f7x0 l7x0 l7x0d0 c7x1 f7x1 l7x1 l7x1d0 c7x2 f7x2 l7x2 l7x2d0 c7x3 f7x3 l7x3 l7x3d0
  have c8x0 := O8.cell 0 rfl
  have f8x0 := O8.free 0 rfl
  have l8x0 := O8.lt 0 rfl
  have l8x0d0 := le_up 0 l8x0
  simp only [upN] at l8x0d0
  have c8x1 := O8.cell 1 rfl
  have f8x1 := O8.free 1 rfl
  have l8x1 := O8.lt 1 rfl
  have l8x1d0 := le_up 0 l8x1
  simp only [upN] at l8x1d0
  have c8x2 := O8.cell 2 rfl
  have f8x2 := O8.free 2 rfl
  have l8x2 := O8.lt 2 rfl
  have l8x2d0 := le_up 0 l8x2
  simp only [upN] at l8x2d0
  have c8x3 := O8.cell 3 rfl
  have f8x3 := O8.free 3 rfl
  have l8x3 := O8.lt 3 rfl
  have l8x3d0 := le_up 0 l8x3
  simp only [upN] at l8x3d0
  have HO8 := Lib.hid O8
  clear O8 hb8
  go_wp2_with fail
  refine (refOf_any _ _).mono ?_
  rintro e w9 ⟨rfl, hb9⟩
  have O9 := Own.grow' hb9 (Own.new HO8.out (w8.heap.size) rfl)
  try simp only [List.setIfInBounds_toArray, List.set_cons_zero, List.set_cons_succ] at O9
  have bw9 : Below w.heap.size w w9 := Below.trans (by go_grown) (Below.mono hb9 (by first | omega | (simp; done) | (simp; omega)))
  have zw9 := Below.size hb9
  try simp only [World.size_alloc, World.size_drew, World.size_setCell] at zw9
  clear c8x0 f8x0 l8x0 l8x0d0 c8x1 f8x1 l8x1 l8x1d0 c8x2 f8x2 l8x2 l8x2d0 c8x3 f8x3 l8x3 l8x3d0
  have c9x0 := O9.cell 0 rfl
  have f9x0 := O9.free 0 rfl
  have l9x0 := O9.lt 0 rfl
  have l9x0d0 := le_up 0 l9x0
  simp only [upN] at l9x0d0
  have c9x1 := O9.cell 1 rfl
  have f9x1 := O9.free 1 rfl
  have l9x1 := O9.lt 1 rfl
  have l9x1d0 := le_up 0 l9x1
  simp only [upN] at l9x1d0
  have c9x2 := O9.cell 2 rfl
  have f9x2 := O9.free 2 rfl
  have l9x2 := O9.lt 2 rfl
  have l9x2d0 := le_up 0 l9x2
  simp only [upN] at l9x2d0
  have c9x3 := O9.cell 3 rfl
  have f9x3 := O9.free 3 rfl
  have l9x3 := O9.lt 3 rfl
  have l9x3d0 := le_up 0 l9x3
  simp only [upN] at l9x3d0
  have c9x4 := O9.cell 4 rfl
  have f9x4 := O9.free 4 rfl
  have l9x4 := O9.lt 4 rfl
  have l9x4d0 := le_up 0 l9x4
  simp only [upN] at l9x4d0
  have HO9 := Lib.hid O9
  clear O9 hb9
  go_wp2_with fail
  refine (Hsp1.out _).mono ?_
  rintro e w10 ⟨rfl, hb10⟩
  have O10 := Own.grow' hb10 HO9.out
  try simp only [List.setIfInBounds_toArray, List.set_cons_zero, List.set_cons_succ] at O10
  have bw10 : Below w.heap.size w w10 := Below.trans (by go_grown) (Below.mono hb10 (by first | omega | (simp; done) | (simp; omega)))
  have zw10 := Below.size hb10
  try simp only [World.size_alloc, World.size_drew, World.size_setCell] at zw10
  clear c9x0 f9x0 l9x0 l9x0d0 c9x1 f9x1 l9x1 l9x1d0 c9x2 f9x2 l9x2 l9x2d0 c9x3 f9x3 l9x3 l9x3d0 c9x4 f9x4 l9x4 l9x4d0
  have c10x0 := O10.cell 0 rfl
  have f10x0 := O10.free 0 rfl
  have l10x0 := O10.lt 0 rfl
  have l10x0d0 := le_up 0 l10x0
  simp only [upN] at l10x0d0
  have c10x1 := O10.cell 1 rfl
  have f10x1 := O10.free 1 rfl
  have l10x1 := O10.lt 1 rfl
  have l10x1d0 := le_up 0 l10x1
  simp only [upN] at l10x1d0
  have c10x2 := O10.cell 2 rfl
  have f10x2 := O10.free 2 rfl
  have l10x2 := O10.lt 2 rfl
  have l10x2d0 := le_up 0 l10x2
  simp only [upN] at l10x2d0
  have c10x3 := O10.cell 3 rfl
  have f10x3 := O10.free 3 rfl
  have l10x3 := O10.lt 3 rfl
  have l10x3d0 := le_up 0 l10x3
  simp only [upN] at l10x3d0
  have c10x4 := O10.cell 4 rfl
  have f10x4 := O10.free 4 rfl
  have l10x4 := O10.lt 4 rfl
  have l10x4d0 := le_up 0 l10x4
  simp only [upN] at l10x4d0
  have HO10 := Lib.hid O10
  clear O10 hb10
  go_wp2_with fail
  refine (refOf_any _ _).mono ?_
  rintro e w11 ⟨rfl, hb11⟩
  have O11 := Own.grow' hb11 (Own.new (Own.new HO10.out (w10.heap.size) rfl) (w10.heap.size + 1) (by simp))
  try simp only [List.setIfInBounds_toArray, List.set_cons_zero, List.set_cons_succ] at O11
  have bw11 : Below w.heap.size w w11 := Below.trans (by go_grown) (Below.mono hb11 (by first | omega | (simp; done) | (simp; omega)))
  have zw11 := Below.size hb11
  try simp only [World.size_alloc, World.size_drew, World.size_setCell] at zw11
  clear c10x0 f10x0 l10x0 l10x0d0 c10x1 f10x1 l10x1 l10x1d0 c10x2 f10x2 l10x2 l10x2d0 c10x3 f10x3 l10x3 l10x3d0 c10x4 f10x4 l10x4 l10x4d0
  have c11x0 := O11.cell 0 rfl
  have f11x0 := O11.free 0 rfl
  have l11x0 := O11.lt 0 rfl
  have l11x0d0 := le_up 0 l11x0
  simp only [upN] at l11x0d0
  have c11x1 := O11.cell 1 rfl
  have f11x1 := O11.free 1 rfl
  have l11x1 := O11.lt 1 rfl
  have l11x1d0 := le_up 0 l11x1
  simp only [upN] at l11x1d0
  have c11x2 := O11.cell 2 rfl
  have f11x2 := O11.free 2 rfl
  have l11x2 := O11.lt 2 rfl
  have l11x2d0 := le_up 0 l11x2
  simp only [upN] at l11x2d0
  have c11x3 := O11.cell 3 rfl
  have f11x3 := O11.free 3 rfl
  have l11x3 := O11.lt 3 rfl
  have l11x3d0 := le_up 0 l11x3
  simp only [upN] at l11x3d0
  have c11x4 := O11.cell 4 rfl
  have f11x4 := O11.free 4 rfl
  have l11x4 := O11.lt 4 rfl
  have l11x4d0 := le_up 0 l11x4
  simp only [upN] at l11x4d0
  have c11x5 := O11.cell 5 rfl
  have f11x5 := O11.free 5 rfl
  have l11x5 := O11.lt 5 rfl
  have l11x5d0 := le_up 0 l11x5
  simp only [upN] at l11x5d0
  have c11x6 := O11.cell 6 rfl
  have f11x6 := O11.free 6 rfl
  have l11x6 := O11.lt 6 rfl
  have l11x6d0 := le_up 0 l11x6
  simp only [upN] at l11x6d0
  have HO11 := Lib.hid O11
  clear O11 hb11
  go_wp2_with fail
  refine (Hsp2.out _).mono ?_
  rintro e w12 ⟨rfl, hb12⟩
  have O12 := Own.grow' hb12 HO11.out
  try simp only [List.setIfInBounds_toArray, List.set_cons_zero, List.set_cons_succ] at O12
  have bw12 : Below w.heap.size w w12 := Below.trans (by go_grown) (Below.mono hb12 (by first | omega | (simp; done) | (simp; omega)))
  have zw12 := Below.size hb12
  try simp only [World.size_alloc, World.size_drew, World.size_setCell] at zw12
  clear c11x0 f11x0 l11x0 l11x0d0 c11x1 f11x1 l11x1 l11x1d0 c11x2 f11x2 l11x2 l11x2d0 c11x3 f11x3 l11x3 l11x3d0 c11x4 f11x4 l11x4 l11x4d0 c11x5 f11x5 l11x5 l11x5d0 c11x6 f11x6 l11x6 l11x6d0
  have c12x0 := O12.cell 0 rfl
  have f12x0 := O12.free 0 rfl
  have l12x0 := O12.lt 0 rfl
  have l12x0d0 := le_up 0 l12x0
  simp only [upN] at l12x0d0
  have c12x1 := O12.cell 1 rfl
  have f12x1 := O12.free 1 rfl
  have l12x1 := O12.lt 1 rfl
  have l12x1d0 := le_up 0 l12x1
  simp only [upN] at l12x1d0
  have c12x2 := O12.cell 2 rfl
  have f12x2 := O12.free 2 rfl
  have l12x2 := O12.lt 2 rfl
  have l12x2d0 := le_up 0 l12x2
  simp only [upN] at l12x2d0
  have c12x3 := O12.cell 3 rfl
  have f12x3 := O12.free 3 rfl
  have l12x3 := O12.lt 3 rfl
  have l12x3d0 := le_up 0 l12x3
  simp only [upN] at l12x3d0
  have c12x4 := O12.cell 4 rfl
  have f12x4 := O12.free 4 rfl
  have l12x4 := O12.lt 4 rfl
  have l12x4d0 := le_up 0 l12x4
  simp only [upN] at l12x4d0
  have c12x5 := O12.cell 5 rfl
  have f12x5 := O12.free 5 rfl
  have l12x5 := O12.lt 5 rfl
  have l12x5d0 := le_up 0 l12x5
  simp only [upN] at l12x5d0
  have c12x6 := O12.cell 6 rfl
  have f12x6 := O12.free 6 rfl
  have l12x6 := O12.lt 6 rfl
  have l12x6d0 := le_up 0 l12x6
  simp only [upN] at l12x6d0
  have HO12 := Lib.hid O12
  clear O12 hb12
  go_wp2_with fail
  refine (refOf_any _ _).mono ?_
  rintro e w13 ⟨rfl, hb13⟩
  have O13 := Own.grow' hb13 (Own.new (Own.new HO12.out (w12.heap.size) rfl) (w12.heap.size + 1) (by simp))
  try simp only [List.setIfInBounds_toArray, List.set_cons_zero, List.set_cons_succ] at O13
  have bw13 : Below w.heap.size w w13 := Below.trans (by go_grown) (Below.mono hb13 (by first | omega | (simp; done) | (simp; omega)))
  have zw13 := Below.size hb13
  try simp only [World.size_alloc, World.size_drew, World.size_setCell] at zw13
  clear c12x0 f12x0 l12x0 l12x0d0 c12x1 f12x1 l12x1 l12x1d0 c12x2 f12x2 l12x2 l12x2d0 c12x3 f12x3 l12x3 l12x3d0 c12x4 f12x4 l12x4 l12x4d0 c12x5 f12x5 l12x5 l12x5d0 c12x6 f12x6 l12x6 l12x6d0
  have c13x0 := O13.cell 0 rfl
  have f13x0 := O13.free 0 rfl
  have l13x0 := O13.lt 0 rfl
  have l13x0d0 := le_up 0 l13x0
  simp only [upN] at l13x0d0
  have c13x1 := O13.cell 1 rfl
  have f13x1 := O13.free 1 rfl
  have l13x1 := O13.lt 1 rfl
  have l13x1d0 := le_up 0 l13x1
  simp only [upN] at l13x1d0
  have c13x2 := O13.cell 2 rfl
  have f13x2 := O13.free 2 rfl
  have l13x2 := O13.lt 2 rfl
  have l13x2d0 := le_up 0 l13x2
  simp only [upN] at l13x2d0
  have c13x3 := O13.cell 3 rfl
  have f13x3 := O13.free 3 rfl
  have l13x3 := O13.lt 3 rfl
  have l13x3d0 := le_up 0 l13x3
  simp only [upN] at l13x3d0
  have c13x4 := O13.cell 4 rfl
  have f13x4 := O13.free 4 rfl
  have l13x4 := O13.lt 4 rfl
  have l13x4d0 := le_up 0 l13x4
  simp only [upN] at l13x4d0
  have c13x5 := O13.cell 5 rfl
  have f13x5 := O13.free 5 rfl
  have l13x5 := O13.lt 5 rfl
  have l13x5d0 := le_up 0 l13x5
  simp only [upN] at l13x5d0
  have c13x6 := O13.cell 6 rfl
  have f13x6 := O13.free 6 rfl
  have l13x6 := O13.lt 6 rfl
  have l13x6d0 := le_up 0 l13x6
  simp only [upN] at l13x6d0
  have c13x7 := O13.cell 7 rfl
  have f13x7 := O13.free 7 rfl
  have l13x7 := O13.lt 7 rfl
  have l13x7d0 := le_up 0 l13x7
  simp only [upN] at l13x7d0
  have c13x8 := O13.cell 8 rfl
  have f13x8 := O13.free 8 rfl
  have l13x8 := O13.lt 8 rfl
  have l13x8d0 := le_up 0 l13x8
  simp only [upN] at l13x8d0
  have HO13 := Lib.hid O13
  clear O13 hb13
  go_wp2_with fail
  refine (refOf_any _ _).mono ?_
  rintro e w14 ⟨rfl, hb14⟩
  have O14 := Own.grow' hb14 HO13.out
  try simp only [List.setIfInBounds_toArray, List.set_cons_zero, List.set_cons_succ] at O14
  have bw14 : Below w.heap.size w w14 := Below.trans (by go_grown) (Below.mono hb14 (by first | omega | (simp; done) | (simp; omega)))
  have zw14 := Below.size hb14
  try simp only [World.size_alloc, World.size_drew, World.size_setCell] at zw14
  clear c13x0 f13x0 l13x0 l13x0d0 c13x1 f13x1 l13x1 l13x1d0 c13x2 f13x2 l13x2 l13x2d0 c13x3 f13x3 l13x3 l13x3d0 c13x4 f13x4 l13x4 l13x4d0 c13x5 f13x5 l13x5 l13x5d0 c13x6 f13x6 l13x6 l13x6d0 c13x7 f13x7 l13x7 l13x7d0 c13x8 f13x8 l13x8 l13x8d0
  have c14x0 := O14.cell 0 rfl
  have f14x0 := O14.free 0 rfl
  have l14x0 := O14.lt 0 rfl
  have l14x0d0 := le_up 0 l14x0
  simp only [upN] at l14x0d0
  have c14x1 := O14.cell 1 rfl
  have f14x1 := O14.free 1 rfl
  have l14x1 := O14.lt 1 rfl
  have l14x1d0 := le_up 0 l14x1
  simp only [upN] at l14x1d0
  have c14x2 := O14.cell 2 rfl
  have f14x2 := O14.free 2 rfl
  have l14x2 := O14.lt 2 rfl
  have l14x2d0 := le_up 0 l14x2
  simp only [upN] at l14x2d0
  have c14x3 := O14.cell 3 rfl
  have f14x3 := O14.free 3 rfl
  have l14x3 := O14.lt 3 rfl
  have l14x3d0 := le_up 0 l14x3
  simp only [upN] at l14x3d0
  have c14x4 := O14.cell 4 rfl
  have f14x4 := O14.free 4 rfl
  have l14x4 := O14.lt 4 rfl
  have l14x4d0 := le_up 0 l14x4
  simp only [upN] at l14x4d0
  have c14x5 := O14.cell 5 rfl
  have f14x5 := O14.free 5 rfl
  have l14x5 := O14.lt 5 rfl
  have l14x5d0 := le_up 0 l14x5
  simp only [upN] at l14x5d0
  have c14x6 := O14.cell 6 rfl
  have f14x6 := O14.free 6 rfl
  have l14x6 := O14.lt 6 rfl
  have l14x6d0 := le_up 0 l14x6
  simp only [upN] at l14x6d0
  have c14x7 := O14.cell 7 rfl
  have f14x7 := O14.free 7 rfl
  have l14x7 := O14.lt 7 rfl
  have l14x7d0 := le_up 0 l14x7
  simp only [upN] at l14x7d0
  have c14x8 := O14.cell 8 rfl
  have f14x8 := O14.free 8 rfl
  have l14x8 := O14.lt 8 rfl
  have l14x8d0 := le_up 0 l14x8
  simp only [upN] at l14x8d0
  have HO14 := Lib.hid O14
  clear O14 hb14
  go_wp2_with fail
  refine (Hbk1.out _).mono ?_
  rintro e w15 ⟨rfl, hb15⟩
  have O15 := Own.grow' hb15 HO14.out
  try simp only [List.setIfInBounds_toArray, List.set_cons_zero, List.set_cons_succ] at O15
  have bw15 : Below w.heap.size w w15 := Below.trans (by go_grown) (Below.mono hb15 (by first | omega | (simp; done) | (simp; omega)))
  have zw15 := Below.size hb15
  try simp only [World.size_alloc, World.size_drew, World.size_setCell] at zw15
  clear c14x0 f14x0 l14x0 l14x0d0 c14x1 f14x1 l14x1 l14x1d0 c14x2 f14x2 l14x2 l14x2d0 c14x3 f14x3 l14x3 l14x3d0 c14x4 f14x4 l14x4 l14x4d0 c14x5 f14x5 l14x5 l14x5d0 c14x6 f14x6 l14x6 l14x6d0 c14x7 f14x7 l14x7 l14x7d0 c14x8 f14x8 l14x8 l14x8d0
  have c15x0 := O15.cell 0 rfl
  have f15x0 := O15.free 0 rfl
  have l15x0 := O15.lt 0 rfl
  have l15x0d0 := le_up 0 l15x0
  simp only [upN] at l15x0d0
  have c15x1 := O15.cell 1 rfl
  have f15x1 := O15.free 1 rfl
  have l15x1 := O15.lt 1 rfl
  have l15x1d0 := le_up 0 l15x1
  simp only [upN] at l15x1d0
  have c15x2 := O15.cell 2 rfl
  have f15x2 := O15.free 2 rfl
  have l15x2 := O15.lt 2 rfl
  have l15x2d0 := le_up 0 l15x2
  simp only [upN] at l15x2d0
  have c15x3 := O15.cell 3 rfl
  have f15x3 := O15.free 3 rfl
  have l15x3 := O15.lt 3 rfl
  have l15x3d0 := le_up 0 l15x3
  simp only [upN] at l15x3d0
  have c15x4 := O15.cell 4 rfl
  have f15x4 := O15.free 4 rfl
  have l15x4 := O15.lt 4 rfl
  have l15x4d0 := le_up 0 l15x4
  simp only [upN] at l15x4d0
  have c15x5 := O15.cell 5 rfl
  have f15x5 := O15.free 5 rfl
  have l15x5 := O15.lt 5 rfl
  have l15x5d0 := le_up 0 l15x5
  simp only [upN] at l15x5d0
  have c15x6 := O15.cell 6 rfl
  have f15x6 := O15.free 6 rfl
  have l15x6 := O15.lt 6 rfl
  have l15x6d0 := le_up 0 l15x6
  simp only [upN] at l15x6d0
  have c15x7 := O15.cell 7 rfl
  have f15x7 := O15.free 7 rfl
  have l15x7 := O15.lt 7 rfl
  have l15x7d0 := le_up 0 l15x7
  simp only [upN] at l15x7d0
  have c15x8 := O15.cell 8 rfl
  have f15x8 := O15.free 8 rfl
  have l15x8 := O15.lt 8 rfl
  have l15x8d0 := le_up 0 l15x8
  simp only [upN] at l15x8d0
  have HO15 := Lib.hid O15
  clear O15 hb15
  go_wp2_with fail
  refine (refOf_any _ _).mono ?_
  rintro e w16 ⟨rfl, hb16⟩
  have O16 := Own.grow' hb16 (Own.new (Own.new HO15.out (w15.heap.size) rfl) (w15.heap.size + 1) (by simp))
  try simp only [List.setIfInBounds_toArray, List.set_cons_zero, List.set_cons_succ] at O16
  have bw16 : Below w.heap.size w w16 := Below.trans (by go_grown) (Below.mono hb16 (by first | omega | (simp; done) | (simp; omega)))
  have zw16 := Below.size hb16
  try simp only [World.size_alloc, World.size_drew, World.size_setCell] at zw16
  clear c15x0 f15x0 l15x0 l15x0d0 c15x1 f15x1 l15x1 l15x1d0 c15x2 f15x2 l15x2 l15x2d0 c15x3 f15x3 l15x3 l15x3d0 c15x4 f15x4 l15x4 l15x4d0 c15x5 f15x5 l15x5 l15x5d0 c15x6 f15x6 l15x6 l15x6d0 c15x7 f15x7 l15x7 l15x7d0 c15x8 f15x8 l15x8 l15x8d0
  have c16x0 := O16.cell 0 rfl
  have f16x0 := O16.free 0 rfl
  have l16x0 := O16.lt 0 rfl
  have l16x0d0 := le_up 0 l16x0
  simp only [upN] at l16x0d0
  have c16x1 := O16.cell 1 rfl
  have f16x1 := O16.free 1 rfl
  have l16x1 := O16.lt 1 rfl
  have l16x1d0 := le_up 0 l16x1
  simp only [upN] at l16x1d0
  have c16x2 := O16.cell 2 rfl
  have f16x2 := O16.free 2 rfl
  have l16x2 := O16.lt 2 rfl
  have l16x2d0 := le_up 0 l16x2
  simp only [upN] at l16x2d0
  have c16x3 := O16.cell 3 rfl
  have f16x3 := O16.free 3 rfl
  have l16x3 := O16.lt 3 rfl
  have l16x3d0 := le_up 0 l16x3
  simp only [upN] at l16x3d0
  have c16x4 := O16.cell 4 rfl
  have f16x4 := O16.free 4 rfl
  have l16x4 := O16.lt 4 rfl
  have l16x4d0 := le_up 0 l16x4
  simp only [upN] at l16x4d0
  have c16x5 := O16.cell 5 rfl
  have f16x5 := O16.free 5 rfl
  have l16x5 := O16.lt 5 rfl
  have l16x5d0 := le_up 0 l16x5
  simp only [upN] at l16x5d0
  have c16x6 := O16.cell 6 rfl
  have f16x6 := O16.free 6 rfl
  have l16x6 := O16.lt 6 rfl
  have l16x6d0 := le_up 0 l16x6
  simp only [upN] at l16x6d0
  have c16x7 := O16.cell 7 rfl
  have f16x7 := O16.free 7 rfl
  have l16x7 := O16.lt 7 rfl
  have l16x7d0 := le_up 0 l16x7
  simp only [upN] at l16x7d0
  have c16x8 := O16.cell 8 rfl
  have f16x8 := O16.free 8 rfl
  have l16x8 := O16.lt 8 rfl
  have l16x8d0 := le_up 0 l16x8
  simp only [upN] at l16x8d0
  have c16x9 := O16.cell 9 rfl
  have f16x9 := O16.free 9 rfl
  have l16x9 := O16.lt 9 rfl
  have l16x9d0 := le_up 0 l16x9
  simp only [upN] at l16x9d0
  have c16x10 := O16.cell 10 rfl
  have f16x10 := O16.free 10 rfl
  have l16x10 := O16.lt 10 rfl
  have l16x10d0 := le_up 0 l16x10
  simp only [upN] at l16x10d0
  have HO16 := Lib.hid O16
  clear O16 hb16
  go_wp2_with fail
  refine (refOf_any _ _).mono ?_
  rintro e w17 ⟨rfl, hb17⟩
  have O17 := Own.grow' hb17 HO16.out
  try simp only [List.setIfInBounds_toArray, List.set_cons_zero, List.set_cons_succ] at O17
  have bw17 : Below w.heap.size w w17 := Below.trans (by go_grown) (Below.mono hb17 (by first | omega | (simp; done) | (simp; omega)))
  have zw17 := Below.size hb17
  try simp only [World.size_alloc, World.size_drew, World.size_setCell] at zw17
  clear c16x0 f16x0 l16x0 l16x0d0 c16x1 f16x1 l16x1 l16x1d0 c16x2 f16x2 l16x2 l16x2d0 c16x3 f16x3 l16x3 l16x3d0 c16x4 f16x4 l16x4 l16x4d0 c16x5 f16x5 l16x5 l16x5d0 c16x6 f16x6 l16x6 l16x6d0 c16x7 f16x7 l16x7 l16x7d0 c16x8 f16x8 l16x8 l16x8d0 c16x9 f16x9 l16x9 l16x9d0 c16x10 f16x10 l16x10 l16x10d0
  have c17x0 := O17.cell 0 rfl
  have f17x0 := O17.free 0 rfl
  have l17x0 := O17.lt 0 rfl
  have l17x0d0 := le_up 0 l17x0
  simp only [upN] at l17x0d0
  have c17x1 := O17.cell 1 rfl
  have f17x1 := O17.free 1 rfl
  have l17x1 := O17.lt 1 rfl
  have l17x1d0 := le_up 0 l17x1
  simp only [upN] at l17x1d0
  have c17x2 := O17.cell 2 rfl
  have f17x2 := O17.free 2 rfl
  have l17x2 := O17.lt 2 rfl
  have l17x2d0 := le_up 0 l17x2
  simp only [upN] at l17x2d0
  have c17x3 := O17.cell 3 rfl
  have f17x3 := O17.free 3 rfl
  have l17x3 := O17.lt 3 rfl
  have l17x3d0 := le_up 0 l17x3
  simp only [upN] at l17x3d0
  have c17x4 := O17.cell 4 rfl
  have f17x4 := O17.free 4 rfl
  have l17x4 := O17.lt 4 rfl
  have l17x4d0 := le_up 0 l17x4
  simp only [upN] at l17x4d0
  have c17x5 := O17.cell 5 rfl
  have f17x5 := O17.free 5 rfl
  have l17x5 := O17.lt 5 rfl
  have l17x5d0 := le_up 0 l17x5
  simp only [upN] at l17x5d0
  have c17x6 := O17.cell 6 rfl
  have f17x6 := O17.free 6 rfl
  have l17x6 := O17.lt 6 rfl
  have l17x6d0 := le_up 0 l17x6
  simp only [upN] at l17x6d0
  have c17x7 := O17.cell 7 rfl
  have f17x7 := O17.free 7 rfl
  have l17x7 := O17.lt 7 rfl
  have l17x7d0 := le_up 0 l17x7
  simp only [upN] at l17x7d0
  have c17x8 := O17.cell 8 rfl
  have f17x8 := O17.free 8 rfl
  have l17x8 := O17.lt 8 rfl
  have l17x8d0 := le_up 0 l17x8
  simp only [upN] at l17x8d0
  have c17x9 := O17.cell 9 rfl
  have f17x9 := O17.free 9 rfl
  have l17x9 := O17.lt 9 rfl
  have l17x9d0 := le_up 0 l17x9
  simp only [upN] at l17x9d0
  have c17x10 := O17.cell 10 rfl
  have f17x10 := O17.free 10 rfl
  have l17x10 := O17.lt 10 rfl
  have l17x10d0 := le_up 0 l17x10
  simp only [upN] at l17x10d0
  have HO17 := Lib.hid O17
  clear O17 hb17
  go_wp2_with fail
  refine (Hbk2.out _).mono ?_
  rintro e w18 ⟨rfl, hb18⟩
  have O18 := Own.grow' hb18 HO17.out
  try simp only [List.setIfInBounds_toArray, List.set_cons_zero, List.set_cons_succ] at O18
  have bw18 : Below w.heap.size w w18 := Below.trans (by go_grown) (Below.mono hb18 (by first | omega | (simp; done) | (simp; omega)))
  have zw18 := Below.size hb18
  try simp only [World.size_alloc, World.size_drew, World.size_setCell] at zw18
  clear c17x0 f17x0 l17x0 l17x0d0 c17x1 f17x1 l17x1 l17x1d0 c17x2 f17x2 l17x2 l17x2d0 c17x3 f17x3 l17x3 l17x3d0 c17x4 f17x4 l17x4 l17x4d0 c17x5 f17x5 l17x5 l17x5d0 c17x6 f17x6 l17x6 l17x6d0 c17x7 f17x7 l17x7 l17x7d0 c17x8 f17x8 l17x8 l17x8d0 c17x9 f17x9 l17x9 l17x9d0 c17x10 f17x10 l17x10 l17x10d0
  have c18x0 := O18.cell 0 rfl
  have f18x0 := O18.free 0 rfl
  have l18x0 := O18.lt 0 rfl
  have l18x0d0 := le_up 0 l18x0
  simp only [upN] at l18x0d0
  have c18x1 := O18.cell 1 rfl
  have f18x1 := O18.free 1 rfl
  have l18x1 := O18.lt 1 rfl
  have l18x1d0 := le_up 0 l18x1
  simp only [upN] at l18x1d0
  have c18x2 := O18.cell 2 rfl
  have f18x2 := O18.free 2 rfl
  have l18x2 := O18.lt 2 rfl
  have l18x2d0 := le_up 0 l18x2
  simp only [upN] at l18x2d0
  have c18x3 := O18.cell 3 rfl
  have f18x3 := O18.free 3 rfl
  have l18x3 := O18.lt 3 rfl
  have l18x3d0 := le_up 0 l18x3
  simp only [upN] at l18x3d0
  have c18x4 := O18.cell 4 rfl
  have f18x4 := O18.free 4 rfl
  have l18x4 := O18.lt 4 rfl
  have l18x4d0 := le_up 0 l18x4
  simp only [upN] at l18x4d0
  have c18x5 := O18.cell 5 rfl
  have f18x5 := O18.free 5 rfl
  have l18x5 := O18.lt 5 rfl
  have l18x5d0 := le_up 0 l18x5
  simp only [upN] at l18x5d0
  have c18x6 := O18.cell 6 rfl
  have f18x6 := O18.free 6 rfl
  have l18x6 := O18.lt 6 rfl
  have l18x6d0 := le_up 0 l18x6
  simp only [upN] at l18x6d0
  have c18x7 := O18.cell 7 rfl
  have f18x7 := O18.free 7 rfl
  have l18x7 := O18.lt 7 rfl
  have l18x7d0 := le_up 0 l18x7
  simp only [upN] at l18x7d0
  have c18x8 := O18.cell 8 rfl
  have f18x8 := O18.free 8 rfl
  have l18x8 := O18.lt 8 rfl
  have l18x8d0 := le_up 0 l18x8
  simp only [upN] at l18x8d0
  have c18x9 := O18.cell 9 rfl
  have f18x9 := O18.free 9 rfl
  have l18x9 := O18.lt 9 rfl
  have l18x9d0 := le_up 0 l18x9
  simp only [upN] at l18x9d0
  have c18x10 := O18.cell 10 rfl
  have f18x10 := O18.free 10 rfl
  have l18x10 := O18.lt 10 rfl
  have l18x10d0 := le_up 0 l18x10
  simp only [upN] at l18x10d0
  have HO18 := Lib.hid O18
  clear O18 hb18
  go_wp2_with fail
  refine wp_region_grow w.heap.size 90 0 0 [(0, 0, 2417851639229258349412352, 8), (1, 1, 4835703278458516698824704, 2417851639229258349412352), (2, 0, 9671406556917033397649408, 64), (3, 6, 19342813113834066795298816, 9671406556917033397649408), (4, 10, 38685626227668133590597632, 24178516392292583494123520), (5, 0, 77371252455336267181195264, 1024), (6, 40, 154742504910672534362390528, 77371252455336267181195264), (7, 80, 309485009821345068724781056, 193428131138340667952988160), (8, 0, 618970019642690137449562112, 8192), (9, 320, 1237940039285380274899124224, 618970019642690137449562112), (10, 640, 2475880078570760549798248448, 1547425049106725343623905280), (11, 0, 4951760157141521099596496896, 65536), (12, 2560, 9903520314283042199192993792, 4951760157141521099596496896), (13, 5120, 19807040628566084398385987584, 12379400392853802748991242240), (14, 0, 39614081257132168796771975168, 524288), (15, 20480, 79228162514264337593543950336, 39614081257132168796771975168), (16, 40960, 158456325028528675187087900672, 99035203142830421991929937920), (17, 0, 316912650057057350374175801344, 4194304), (18, 163840, 633825300114114700748351602688, 316912650057057350374175801344), (19, 327680, 1267650600228229401496703205376, 792281625142643375935439503360), (20, 0, 2535301200456458802993406410752, 33554432), (21, 1310720, 5070602400912917605986812821504, 2535301200456458802993406410752), (22, 2621440, 10141204801825835211973625643008, 6338253001141147007483516026880), (23, 4194304, 20282409603651670423947251286016, 10141204801825835211973625643008), (24, 10485760, 40564819207303340847894502572032, 20282409603651670423947251286016), (25, 16777216, 81129638414606681695789005144064, 40564819207303340847894502572034), (26, 16777216, 162259276829213363391578010288128, 40564819207303340847894502572032), (27, 117440512, 324518553658426726783156020576256, 283953734451123385935261518004224), (28, 150994944, 649037107316853453566312041152512, 365083372865730067631050523148288), (29, 335544320, 1298074214633706907132624082305024, 649037107316853453566312041152512), (30, 536870912, 2596148429267413814265248164610048, 1298074214633706907132624082305028), (31, 1610612736, 5192296858534827628530496329220096, 3894222643901120721397872246915072), (32, 2684354560, 10384593717069655257060992658440192, 6490371073168534535663120411525120), (33, 4831838208, 20769187434139310514121985316880384, 10384593717069655257060992658440192), (34, 8589934592, 41538374868278621028243970633760768, 20769187434139310514121985316880416), (35, 25769803776, 83076749736557242056487941267521536, 62307562302417931542365955950641152), (36, 42949672960, 166153499473114484112975882535043072, 103845937170696552570609926584401920), (37, 77309411328, 332306998946228968225951765070086144, 166153499473114484112975882535043072), (38, 137438953472, 664613997892457936451903530140172288, 332306998946228968225951765070086656), (39, 412316860416, 1329227995784915872903807060280344576, 996920996838686904677855295210258432), (40, 687194767360, 2658455991569831745807614120560689152, 1661534994731144841129758825350430720), (41, 1236950581248, 5316911983139663491615228241121378304, 2658455991569831745807614120560689152), (42, 2199023255552, 10633823966279326983230456482242756608, 5316911983139663491615228241121380352), (43, 2199023255552, 21267647932558653966460912964485513216, 5316911983139663491615228241121378304), (44, 15393162788864, 42535295865117307932921825928971026432, 37218383881977644441306597687849648128), (45, 19791209299968, 85070591730234615865843651857942052864, 47852207848256971424537054170092404736), (46, 37383395344384, 170141183460469231731687303715884105728, 85070591730234615865843651857942052864), (47, 70368744177664, 340282366920938463463374607431768211456, 170141183460469231731687303715884109824), (48, 211106232532992, 680564733841876926926749214863536422912, 510423550381407695195061911147652317184), (49, 351843720888320, 1361129467683753853853498429727072845824, 850705917302346158658436518579420528640), (50, 633318697598976, 2722258935367507707706996859454145691648, 1361129467683753853853498429727072845824), (51, 1125899906842624, 5444517870735015415413993718908291383296, 2722258935367507707706996859454145708032), (52, 1125899906842624, 10889035741470030830827987437816582766592, 2722258935367507707706996859454145691648), (53, 7881299347898368, 21778071482940061661655974875633165533184, 19055812547572553953948978016179019841536), (54, 10133099161583616, 43556142965880123323311949751266331066368, 24500330418307569369362971735087311224832), (55, 22517998136852480, 87112285931760246646623899502532662132736, 43556142965880123323311949751266331066368), (56, 36028797018963968, 174224571863520493293247799005065324265472, 87112285931760246646623899502532662165504), (57, 36028797018963968, 348449143727040986586495598010130648530944, 87112285931760246646623899502532662132736), (58, 252201579132747776, 696898287454081973172991196020261297061888, 609786001522321726526367296517728634929152), (59, 324259173170675712, 1393796574908163946345982392040522594123776, 784010573385842219819615095522793959194624), (60, 720575940379279360, 2787593149816327892691964784081045188247552, 1393796574908163946345982392040522594123776), (61, 1152921504606846976, 5575186299632655785383929568162090376495104, 2787593149816327892691964784081045188378624), (62, 1152921504606846976, 11150372599265311570767859136324180752990208, 2787593149816327892691964784081045188247552), (63, 8070450532247928832, 22300745198530623141535718272648361505980416, 19513152048714295248843753488567316317732864), (64, 10376293541461622784, 44601490397061246283071436545296723011960832, 25088338348346951034227683056729406694227968), (65, 23058430092136939520, 89202980794122492566142873090593446023921664, 44601490397061246283071436545296723011960832), (66, 36893488147419103232, 178405961588244985132285746181186892047843328, 89202980794122492566142873090593446024183808), (67, 36893488147419103232, 356811923176489970264571492362373784095686656, 89202980794122492566142873090593446023921664), (68, 258254417031933722624, 713623846352979940529142984724747568191373312, 624420865558857447963000111634154122167451648), (69, 332041393326771929088, 1427247692705959881058285969449495136382746624, 802826827147102433095285857815341014215294976), (70, 737869762948382064640, 2854495385411919762116571938898990272765493248, 1427247692705959881058285969449495136382746624), (71, 1180591620717411303424, 5708990770823839524233143877797980545530986496, 2854495385411919762116571938898990272766541824), (72, 1180591620717411303424, 11417981541647679048466287755595961091061972992, 2854495385411919762116571938898990272765493248), (73, 8264141345021879123968, 22835963083295358096932575511191922182123945984, 19981467697883438334816003572292931909358452736), (74, 10625324586456701730816, 45671926166590716193865151022383844364247891968, 25690458468707277859049147450090912454889439232), (75, 23611832414348226068480, 91343852333181432387730302044767688728495783936, 45671926166590716193865151022383844364247891968), (76, 37778931862957161709568, 182687704666362864775460604089535377456991567872, 91343852333181432387730302044767688728497881088), (77, 37778931862957161709568, 365375409332725729550921208179070754913983135744, 91343852333181432387730302044767688728495783936), (78, 264452523040700131966976, 730750818665451459101842416358141509827966271488, 639406966332270026714112114313373821099470487552), (79, 340010386766614455386112, 1461501637330902918203684832716283019655932542976, 822094670998632891489572718402909198556462055424), (80, 755578637259143234191360, 2923003274661805836407369665432566039311865085952, 1461501637330902918203684832716283019655932542976), (81, 1208925819614629174706176, 5846006549323611672814739330865132078623730171904, 2923003274661805836407369665432566039311873474560), (82, 1208925819614629174706176, 11692013098647223345629478661730264157247460343808, 2923003274661805836407369665432566039311865085952), (83, 8462480737302404222943232, 23384026197294446691258957323460528314494920687616, 20461022922632640854851587658027962275183055601664), (84, 10880332376531662572355584, 46768052394588893382517914646921056628989841375232, 26307029471956252527666326988893094353806785773568), (85, 24178516392292583494123520, 93536104789177786765035829293842113257979682750464, 46768052394588893382517914646921056628989841375232), (86, 38685626227668133590597632, 187072209578355573530071658587684226515959365500928, 93536104789177786765035829293842113257979699527680), (87, 38685626227668133590597632, 374144419156711147060143317175368453031918731001856, 93536104789177786765035829293842113257979682750464), (88, 270799383593676935134183424, 748288838313422294120286634350736906063837462003712, 654752733524244507355250805056894792805857779253248), (89, 348170636049013202315378688, 1496577676626844588240573268701473812127674924007424, 841824943102600080885322463644579019321817144754176), (90, 1237940039285380274899124223, 1, 1496577676626844588240573268701473812127674924007424)] [(.p 0, 1), (.p 1, 3), (.p 2, 7), (.p 3, 15), (.p 4, 31), (.p 5, 63), (.p 6, 127), (.p 7, 255), (.p 8, 511), (.p 9, 1023), (.p 10, 2047), (.p 11, 4095), (.p 12, 8191), (.p 13, 16383), (.p 14, 32767), (.p 15, 65535), (.p 16, 131071), (.p 17, 262143), (.p 18, 524287), (.p 19, 1048575), (.p 20, 2097151), (.p 21, 4194303), (.p 22, 8388607), (.p 23, 16777215), (.p 24, 33554431), (.p 25, 67108863), (.p 26, 134217727), (.p 27, 268435455), (.p 28, 536870911), (.p 29, 1073741823), (.p 30, 2147483647), (.p 31, 4294967295), (.p 32, 8589934591), (.p 33, 17179869183), (.p 34, 34359738367), (.p 35, 68719476735), (.p 36, 137438953471), (.p 37, 274877906943), (.p 38, 549755813887), (.p 39, 1099511627775), (.p 40, 2199023255551), (.p 41, 4398046511103), (.p 42, 8796093022207), (.p 43, 17592186044415), (.p 44, 35184372088831), (.p 45, 70368744177663), (.p 46, 140737488355327), (.p 47, 281474976710655), (.p 48, 562949953421311), (.p 49, 1125899906842623), (.p 50, 2251799813685247), (.p 51, 4503599627370495), (.p 52, 9007199254740991), (.p 53, 18014398509481983), (.p 54, 36028797018963967), (.p 55, 72057594037927935), (.p 56, 144115188075855871), (.p 57, 288230376151711743), (.p 58, 576460752303423487), (.p 59, 1152921504606846975), (.p 60, 2305843009213693951), (.p 61, 4611686018427387903), (.p 62, 9223372036854775807), (.p 63, 18446744073709551615), (.p 64, 36893488147419103231), (.p 65, 73786976294838206463), (.p 66, 147573952589676412927), (.p 67, 295147905179352825855), (.p 68, 590295810358705651711), (.p 69, 1180591620717411303423), (.p 70, 2361183241434822606847), (.p 71, 4722366482869645213695), (.p 72, 9444732965739290427391), (.p 73, 18889465931478580854783), (.p 74, 37778931862957161709567), (.p 75, 75557863725914323419135), (.p 76, 151115727451828646838271), (.p 77, 302231454903657293676543), (.p 78, 604462909807314587353087), (.p 79, 1208925819614629174706175), (.p 80, 2417851639229258349412351), (.p 81, 4835703278458516698824703), (.p 82, 9671406556917033397649407), (.p 83, 19342813113834066795298815), (.p 84, 38685626227668133590597631), (.p 85, 77371252455336267181195263), (.p 86, 154742504910672534362390527), (.p 87, 309485009821345068724781055), (.p 88, 618970019642690137449562111), (.p 89, 1237940039285380274899124223)] [(90, 2475880078570760549798248447)] _ (fun p hp => hp) (by first | omega | (simp; done) | (simp; omega)) (by kernel_rfl) (by kernel_rfl) (Own.new (Own.new HO18.out (w18.heap.size) rfl) (w18.heap.size + 1) (by simp)) ?_
  refine wpG_move (i := 0) rfl rfl rfl (by rfl) rfl ?_
  simp only [List.set_cons_zero, List.set_cons_succ]
  refine wpG_pure (i := 1) (v := ?v19x1) rfl rfl (by rfl) (fun w hB hG K hK => ?h19x1) ?_
  case h19x1 =>
    go_wp2_with fail
    refine (num_any _ _).mono ?_
    rintro e wx ⟨rfl, rfl⟩
    exact hK _ (Below.refl _ _)
  simp only [List.set_cons_zero, List.set_cons_succ]
  refine wpG_move (i := 2) rfl rfl rfl (by rfl) rfl ?_
  simp only [List.set_cons_zero, List.set_cons_succ]
  refine wpG_pure (i := 3) (v := ?v19x3) rfl rfl (by rfl) (fun w hB hG K hK => ?h19x3) ?_
  case h19x3 =>
    go_wp2_with fail
    refine (num_any _ _).mono ?_
    rintro e wx ⟨rfl, rfl⟩
    exact hK _ (Below.refl _ _)
  simp only [List.set_cons_zero, List.set_cons_succ]
  refine wpG_pure (i := 4) (v := ?v19x4) rfl rfl (by rfl) (fun w hB hG K hK => ?h19x4) ?_
  case h19x4 =>
    go_wp2_with fail
    exact hK _ (Below.refl _ _)
  simp only [List.set_cons_zero, List.set_cons_succ]
  refine wpG_move (i := 5) rfl rfl rfl (by rfl) rfl ?_
  simp only [List.set_cons_zero, List.set_cons_succ]
  refine wpG_pure (i := 6) (v := ?v19x6) rfl rfl (by rfl) (fun w hB hG K hK => ?h19x6) ?_
  case h19x6 =>
    go_wp2_with fail
    refine (num_any _ _).mono ?_
    rintro e wx ⟨rfl, rfl⟩
    exact hK _ (Below.refl _ _)
  simp only [List.set_cons_zero, List.set_cons_succ]
  refine wpG_pure (i := 7) (v := ?v19x7) rfl rfl (by rfl) (fun w hB hG K hK => ?h19x7) ?_
  case h19x7 =>
    go_wp2_with fail
    exact hK _ (Below.refl _ _)
  simp only [List.set_cons_zero, List.set_cons_succ]
  refine wpG_move (i := 8) rfl rfl rfl (by rfl) rfl ?_
  simp only [List.set_cons_zero, List.set_cons_succ]
  refine wpG_pure (i := 9) (v := ?v19x9) rfl rfl (by rfl) (fun w hB hG K hK => ?h19x9) ?_
  case h19x9 =>
    go_wp2_with fail
    refine (num_any _ _).mono ?_
    rintro e wx ⟨rfl, rfl⟩
    exact hK _ (Below.refl _ _)
  simp only [List.set_cons_zero, List.set_cons_succ]
  refine wpG_pure (i := 10) (v := ?v19x10) rfl rfl (by rfl) (fun w hB hG K hK => ?h19x10) ?_
  case h19x10 =>
    go_wp2_with fail
    exact hK _ (Below.refl _ _)
  simp only [List.set_cons_zero, List.set_cons_succ]
  refine wpG_move (i := 11) rfl rfl rfl (by rfl) rfl ?_
  simp only [List.set_cons_zero, List.set_cons_succ]
  refine wpG_pure (i := 12) (v := ?v19x12) rfl rfl (by rfl) (fun w hB hG K hK => ?h19x12) ?_
  case h19x12 =>
    go_wp2_with fail
    refine (num_any _ _).mono ?_
    rintro e wx ⟨rfl, rfl⟩
    exact hK _ (Below.refl _ _)
  simp only [List.set_cons_zero, List.set_cons_succ]
  refine wpG_pure (i := 13) (v := ?v19x13) rfl rfl (by rfl) (fun w hB hG K hK => ?h19x13) ?_
  case h19x13 =>
    go_wp2_with fail
    exact hK _ (Below.refl _ _)
  simp only [List.set_cons_zero, List.set_cons_succ]
  refine wpG_move (i := 14) rfl rfl rfl (by rfl) rfl ?_
  simp only [List.set_cons_zero, List.set_cons_succ]
  refine wpG_pure (i := 15) (v := ?v19x15) rfl rfl (by rfl) (fun w hB hG K hK => ?h19x15) ?_
  case h19x15 =>
    go_wp2_with fail
    refine (num_any _ _).mono ?_
    rintro e wx ⟨rfl, rfl⟩
    exact hK _ (Below.refl _ _)
  simp only [List.set_cons_zero, List.set_cons_succ]
  refine wpG_pure (i := 16) (v := ?v19x16) rfl rfl (by rfl) (fun w hB hG K hK => ?h19x16) ?_
  case h19x16 =>
    go_wp2_with fail
    exact hK _ (Below.refl _ _)
  simp only [List.set_cons_zero, List.set_cons_succ]
  refine wpG_move (i := 17) rfl rfl rfl (by rfl) rfl ?_
  simp only [List.set_cons_zero, List.set_cons_succ]
  refine wpG_pure (i := 18) (v := ?v19x18) rfl rfl (by rfl) (fun w hB hG K hK => ?h19x18) ?_
  case h19x18 =>
    go_wp2_with fail
    refine (num_any _ _).mono ?_
    rintro e wx ⟨rfl, rfl⟩
    exact hK _ (Below.refl _ _)
  simp only [List.set_cons_zero, List.set_cons_succ]
  refine wpG_pure (i := 19) (v := ?v19x19) rfl rfl (by rfl) (fun w hB hG K hK => ?h19x19) ?_
  case h19x19 =>
    go_wp2_with fail
    exact hK _ (Below.refl _ _)
  simp only [List.set_cons_zero, List.set_cons_succ]
  refine wpG_move (i := 20) rfl rfl rfl (by rfl) rfl ?_
  simp only [List.set_cons_zero, List.set_cons_succ]
  refine wpG_pure (i := 21) (v := ?v19x21) rfl rfl (by rfl) (fun w hB hG K hK => ?h19x21) ?_
  case h19x21 =>
    go_wp2_with fail
    refine (num_any _ _).mono ?_
    rintro e wx ⟨rfl, rfl⟩
    exact hK _ (Below.refl _ _)
  simp only [List.set_cons_zero, List.set_cons_succ]
  refine wpG_pure (i := 22) (v := ?v19x22) rfl rfl (by rfl) (fun w hB hG K hK => ?h19x22) ?_
  case h19x22 =>
    go_wp2_with fail
    exact hK _ (Below.refl _ _)
  simp only [List.set_cons_zero, List.set_cons_succ]
  refine wpG_pure (i := 23) (v := ?v19x23) rfl rfl (by rfl) (fun w hB hG K hK => ?h19x23) ?_
  case h19x23 =>
    go_wp2_with fail
    exact hK _ (Below.refl _ _)
  simp only [List.set_cons_zero, List.set_cons_succ]
  refine wpG_move (i := 24) rfl rfl rfl (by rfl) rfl ?_
  simp only [List.set_cons_zero, List.set_cons_succ]
  refine wpG_pure (i := 25) (v := ?v19x25) rfl rfl (by rfl) (fun w hB hG K hK => ?h19x25) ?_
  case h19x25 =>
    have cx := hG.cell 12 rfl
    go_wp2_with fail
    exact hK _ (Below.refl _ _)
  simp only [List.set_cons_zero, List.set_cons_succ]
  refine wpG_pure (i := 26) (v := ?v19x26) rfl rfl (by rfl) (fun w hB hG K hK => ?h19x26) ?_
  case h19x26 =>
    go_wp2_with fail
    refine (refOf_any _ _).mono ?_
    rintro e wx ⟨rfl, hbx⟩
    exact hK _ hbx
  simp only [List.set_cons_zero, List.set_cons_succ]
  refine wpG_pure (i := 27) (v := ?v19x27) rfl rfl (by rfl) (fun w hB hG K hK => ?h19x27) ?_
  case h19x27 =>
    go_wp2_with fail
    exact hK _ (Below.refl _ _)
  simp only [List.set_cons_zero, List.set_cons_succ]
  refine wpG_pure (i := 28) (v := ?v19x28) rfl rfl (by rfl) (fun w hB hG K hK => ?h19x28) ?_
  case h19x28 =>
    go_wp2_with fail
    exact hK _ (Below.refl _ _)
  simp only [List.set_cons_zero, List.set_cons_succ]
  refine wpG_move (i := 29) rfl rfl rfl (by rfl) rfl ?_
  simp only [List.set_cons_zero, List.set_cons_succ]
  refine wpG_move (i := 30) rfl rfl rfl (by rfl) rfl ?_
  simp only [List.set_cons_zero, List.set_cons_succ]
  refine wpG_pure (i := 31) (v := ?v19x31) rfl rfl (by rfl) (fun w hB hG K hK => ?h19x31) ?_
  case h19x31 =>
    go_wp2_with fail
    exact hK _ (Below.refl _ _)
  simp only [List.set_cons_zero, List.set_cons_succ]
  refine wpG_pure (i := 32) (v := ?v19x32) rfl rfl (by rfl) (fun w hB hG K hK => ?h19x32) ?_
  case h19x32 =>
    go_wp2_with fail
    exact hK _ (Below.refl _ _)
  simp only [List.set_cons_zero, List.set_cons_succ]
  refine wpG_move (i := 33) rfl rfl rfl (by rfl) rfl ?_
  simp only [List.set_cons_zero, List.set_cons_succ]
  refine wpG_move (i := 34) rfl rfl rfl (by rfl) rfl ?_
  simp only [List.set_cons_zero, List.set_cons_succ]
  refine wpG_pure (i := 35) (v := ?v19x35) rfl rfl (by rfl) (fun w hB hG K hK => ?h19x35) ?_
  case h19x35 =>
    go_wp2_with fail
    exact hK _ (Below.refl _ _)
  simp only [List.set_cons_zero, List.set_cons_succ]
  refine wpG_pure (i := 36) (v := ?v19x36) rfl rfl (by rfl) (fun w hB hG K hK => ?h19x36) ?_
  case h19x36 =>
    go_wp2_with fail
    exact hK _ (Below.refl _ _)
  simp only [List.set_cons_zero, List.set_cons_succ]
  refine wpG_move (i := 37) rfl rfl rfl (by rfl) rfl ?_
  simp only [List.set_cons_zero, List.set_cons_succ]
  refine wpG_move (i := 38) rfl rfl rfl (by rfl) rfl ?_
  simp only [List.set_cons_zero, List.set_cons_succ]
  refine wpG_pure (i := 39) (v := ?v19x39) rfl rfl (by rfl) (fun w hB hG K hK => ?h19x39) ?_
  case h19x39 =>
    go_wp2_with fail
    exact hK _ (Below.refl _ _)
  simp only [List.set_cons_zero, List.set_cons_succ]
  refine wpG_pure (i := 40) (v := ?v19x40) rfl rfl (by rfl) (fun w hB hG K hK => ?h19x40) ?_
  case h19x40 =>
    go_wp2_with fail
    exact hK _ (Below.refl _ _)
  simp only [List.set_cons_zero, List.set_cons_succ]
  refine wpG_move (i := 41) rfl rfl rfl (by rfl) rfl ?_
  simp only [List.set_cons_zero, List.set_cons_succ]
  refine wpG_pure (i := 42) (v := ?v19x42) rfl rfl (by rfl) (fun w hB hG K hK => ?h19x42) ?_
  case h19x42 =>
    have cx := hG.cell 8 rfl
    go_wp2_with fail
    exact hK _ (Below.refl _ _)
  simp only [List.set_cons_zero, List.set_cons_succ]
  refine wpG_pure (i := 43) (v := ?v19x43) rfl rfl (by rfl) (fun w hB hG K hK => ?h19x43) ?_
  case h19x43 =>
    go_wp2_with fail
    exact hK _ (Below.refl _ _)
  simp only [List.set_cons_zero, List.set_cons_succ]
  refine wpG_pure (i := 44) (v := ?v19x44) rfl rfl (by rfl) (fun w hB hG K hK => ?h19x44) ?_
  case h19x44 =>
    go_wp2_with fail
    exact hK _ (Below.refl _ _)
  simp only [List.set_cons_zero, List.set_cons_succ]
  refine wpG_pure (i := 45) (v := ?v19x45) rfl rfl (by rfl) (fun w hB hG K hK => ?h19x45) ?_
  case h19x45 =>
    go_wp2_with fail
    exact hK _ (Below.refl _ _)
  simp only [List.set_cons_zero, List.set_cons_succ]
  refine wpG_move (i := 46) rfl rfl rfl (by rfl) rfl ?_
  simp only [List.set_cons_zero, List.set_cons_succ]
  refine wpG_move (i := 47) rfl rfl rfl (by rfl) rfl ?_
  simp only [List.set_cons_zero, List.set_cons_succ]
  refine wpG_pure (i := 48) (v := ?v19x48) rfl rfl (by rfl) (fun w hB hG K hK => ?h19x48) ?_
  case h19x48 =>
    go_wp2_with fail
    exact hK _ (Below.refl _ _)
  simp only [List.set_cons_zero, List.set_cons_succ]
  refine wpG_pure (i := 49) (v := ?v19x49) rfl rfl (by rfl) (fun w hB hG K hK => ?h19x49) ?_
  case h19x49 =>
    go_wp2_with fail
    exact hK _ (Below.refl _ _)
  simp only [List.set_cons_zero, List.set_cons_succ]
  refine wpG_move (i := 50) rfl rfl rfl (by rfl) rfl ?_
  simp only [List.set_cons_zero, List.set_cons_succ]
  refine wpG_pure (i := 51) (v := ?v19x51) rfl rfl (by rfl) (fun w hB hG K hK => ?h19x51) ?_
  case h19x51 =>
    have cx := hG.cell 7 rfl
    go_wp2_with fail
    exact hK _ (Below.refl _ _)
  simp only [List.set_cons_zero, List.set_cons_succ]
  refine wpG_pure (i := 52) (v := ?v19x52) rfl rfl (by rfl) (fun w hB hG K hK => ?h19x52) ?_
  case h19x52 =>
    go_wp2_with fail
    refine (refOf_any _ _).mono ?_
    rintro e wx ⟨rfl, hbx⟩
    exact hK _ hbx
  simp only [List.set_cons_zero, List.set_cons_succ]
  refine wpG_pure (i := 53) (v := ?v19x53) rfl rfl (by rfl) (fun w hB hG K hK => ?h19x53) ?_
  case h19x53 =>
    go_wp2_with fail
    exact hK _ (Below.refl _ _)
  simp only [List.set_cons_zero, List.set_cons_succ]
  refine wpG_pure (i := 54) (v := ?v19x54) rfl rfl (by rfl) (fun w hB hG K hK => ?h19x54) ?_
  case h19x54 =>
    go_wp2_with fail
    exact hK _ (Below.refl _ _)
  simp only [List.set_cons_zero, List.set_cons_succ]
  refine wpG_move (i := 55) rfl rfl rfl (by rfl) rfl ?_
  simp only [List.set_cons_zero, List.set_cons_succ]
  refine wpG_pure (i := 56) (v := ?v19x56) rfl rfl (by rfl) (fun w hB hG K hK => ?h19x56) ?_
  case h19x56 =>
    have cx := hG.cell 6 rfl
    go_wp2_with fail
    exact hK _ (Below.refl _ _)
  simp only [List.set_cons_zero, List.set_cons_succ]
  refine wpG_pure (i := 57) (v := ?v19x57) rfl rfl (by rfl) (fun w hB hG K hK => ?h19x57) ?_
  case h19x57 =>
    go_wp2_with fail
    refine (refOf_any _ _).mono ?_
    rintro e wx ⟨rfl, hbx⟩
    exact hK _ hbx
  simp only [List.set_cons_zero, List.set_cons_succ]
  refine wpG_pure (i := 58) (v := ?v19x58) rfl rfl (by rfl) (fun w hB hG K hK => ?h19x58) ?_
  case h19x58 =>
    go_wp2_with fail
    exact hK _ (Below.refl _ _)
  simp only [List.set_cons_zero, List.set_cons_succ]
  refine wpG_pure (i := 59) (v := ?v19x59) rfl rfl (by rfl) (fun w hB hG K hK => ?h19x59) ?_
  case h19x59 =>
    go_wp2_with fail
    exact hK _ (Below.refl _ _)
  simp only [List.set_cons_zero, List.set_cons_succ]
  refine wpG_move (i := 60) rfl rfl rfl (by rfl) rfl ?_
  simp only [List.set_cons_zero, List.set_cons_succ]
  refine wpG_pure (i := 61) (v := ?v19x61) rfl rfl (by rfl) (fun w hB hG K hK => ?h19x61) ?_
  case h19x61 =>
    have cx := hG.cell 5 rfl
    go_wp2_with fail
    exact hK _ (Below.refl _ _)
  simp only [List.set_cons_zero, List.set_cons_succ]
  refine wpG_pure (i := 62) (v := ?v19x62) rfl rfl (by rfl) (fun w hB hG K hK => ?h19x62) ?_
  case h19x62 =>
    go_wp2_with fail
    refine (refOf_any _ _).mono ?_
    rintro e wx ⟨rfl, hbx⟩
    exact hK _ hbx
  simp only [List.set_cons_zero, List.set_cons_succ]
  refine wpG_pure (i := 63) (v := ?v19x63) rfl rfl (by rfl) (fun w hB hG K hK => ?h19x63) ?_
  case h19x63 =>
    go_wp2_with fail
    exact hK _ (Below.refl _ _)
  simp only [List.set_cons_zero, List.set_cons_succ]
  refine wpG_pure (i := 64) (v := ?v19x64) rfl rfl (by rfl) (fun w hB hG K hK => ?h19x64) ?_
  case h19x64 =>
    go_wp2_with fail
    exact hK _ (Below.refl _ _)
  simp only [List.set_cons_zero, List.set_cons_succ]
  refine wpG_move (i := 65) rfl rfl rfl (by rfl) rfl ?_
  simp only [List.set_cons_zero, List.set_cons_succ]
  refine wpG_pure (i := 66) (v := ?v19x66) rfl rfl (by rfl) (fun w hB hG K hK => ?h19x66) ?_
  case h19x66 =>
    have cx := hG.cell 4 rfl
    go_wp2_with fail
    exact hK _ (Below.refl _ _)
  simp only [List.set_cons_zero, List.set_cons_succ]
  refine wpG_pure (i := 67) (v := ?v19x67) rfl rfl (by rfl) (fun w hB hG K hK => ?h19x67) ?_
  case h19x67 =>
    go_wp2_with fail
    refine (refOf_any _ _).mono ?_
    rintro e wx ⟨rfl, hbx⟩
    exact hK _ hbx
  simp only [List.set_cons_zero, List.set_cons_succ]
  refine wpG_pure (i := 68) (v := ?v19x68) rfl rfl (by rfl) (fun w hB hG K hK => ?h19x68) ?_
  case h19x68 =>
    go_wp2_with fail
    exact hK _ (Below.refl _ _)
  simp only [List.set_cons_zero, List.set_cons_succ]
  refine wpG_pure (i := 69) (v := ?v19x69) rfl rfl (by rfl) (fun w hB hG K hK => ?h19x69) ?_
  case h19x69 =>
    go_wp2_with fail
    exact hK _ (Below.refl _ _)
  simp only [List.set_cons_zero, List.set_cons_succ]
  refine wpG_move (i := 70) rfl rfl rfl (by rfl) rfl ?_
  simp only [List.set_cons_zero, List.set_cons_succ]
  refine wpG_pure (i := 71) (v := ?v19x71) rfl rfl (by rfl) (fun w hB hG K hK => ?h19x71) ?_
  case h19x71 =>
    have cx := hG.cell 3 rfl
    go_wp2_with fail
    exact hK _ (Below.refl _ _)
  simp only [List.set_cons_zero, List.set_cons_succ]
  refine wpG_pure (i := 72) (v := ?v19x72) rfl rfl (by rfl) (fun w hB hG K hK => ?h19x72) ?_
  case h19x72 =>
    go_wp2_with fail
    refine (refOf_any _ _).mono ?_
    rintro e wx ⟨rfl, hbx⟩
    exact hK _ hbx
  simp only [List.set_cons_zero, List.set_cons_succ]
  refine wpG_pure (i := 73) (v := ?v19x73) rfl rfl (by rfl) (fun w hB hG K hK => ?h19x73) ?_
  case h19x73 =>
    go_wp2_with fail
    exact hK _ (Below.refl _ _)
  simp only [List.set_cons_zero, List.set_cons_succ]
  refine wpG_pure (i := 74) (v := ?v19x74) rfl rfl (by rfl) (fun w hB hG K hK => ?h19x74) ?_
  case h19x74 =>
    go_wp2_with fail
    exact hK _ (Below.refl _ _)
  simp only [List.set_cons_zero, List.set_cons_succ]
  refine wpG_move (i := 75) rfl rfl rfl (by rfl) rfl ?_
  simp only [List.set_cons_zero, List.set_cons_succ]
  refine wpG_pure (i := 76) (v := ?v19x76) rfl rfl (by rfl) (fun w hB hG K hK => ?h19x76) ?_
  case h19x76 =>
    have cx := hG.cell 2 rfl
    go_wp2_with fail
    exact hK _ (Below.refl _ _)
  simp only [List.set_cons_zero, List.set_cons_succ]
  refine wpG_pure (i := 77) (v := ?v19x77) rfl rfl (by rfl) (fun w hB hG K hK => ?h19x77) ?_
  case h19x77 =>
    go_wp2_with fail
    refine (refOf_any _ _).mono ?_
    rintro e wx ⟨rfl, hbx⟩
    exact hK _ hbx
  simp only [List.set_cons_zero, List.set_cons_succ]
  refine wpG_pure (i := 78) (v := ?v19x78) rfl rfl (by rfl) (fun w hB hG K hK => ?h19x78) ?_
  case h19x78 =>
    go_wp2_with fail
    exact hK _ (Below.refl _ _)
  simp only [List.set_cons_zero, List.set_cons_succ]
  refine wpG_pure (i := 79) (v := ?v19x79) rfl rfl (by rfl) (fun w hB hG K hK => ?h19x79) ?_
  case h19x79 =>
    go_wp2_with fail
    exact hK _ (Below.refl _ _)
  simp only [List.set_cons_zero, List.set_cons_succ]
  refine wpG_move (i := 80) rfl rfl rfl (by rfl) rfl ?_
  simp only [List.set_cons_zero, List.set_cons_succ]
  refine wpG_pure (i := 81) (v := ?v19x81) rfl rfl (by rfl) (fun w hB hG K hK => ?h19x81) ?_
  case h19x81 =>
    have cx := hG.cell 1 rfl
    go_wp2_with fail
    exact hK _ (Below.refl _ _)
  simp only [List.set_cons_zero, List.set_cons_succ]
  refine wpG_pure (i := 82) (v := ?v19x82) rfl rfl (by rfl) (fun w hB hG K hK => ?h19x82) ?_
  case h19x82 =>
    go_wp2_with fail
    refine (refOf_any _ _).mono ?_
    rintro e wx ⟨rfl, hbx⟩
    exact hK _ hbx
  simp only [List.set_cons_zero, List.set_cons_succ]
  refine wpG_pure (i := 83) (v := ?v19x83) rfl rfl (by rfl) (fun w hB hG K hK => ?h19x83) ?_
  case h19x83 =>
    go_wp2_with fail
    exact hK _ (Below.refl _ _)
  simp only [List.set_cons_zero, List.set_cons_succ]
  refine wpG_pure (i := 84) (v := ?v19x84) rfl rfl (by rfl) (fun w hB hG K hK => ?h19x84) ?_
  case h19x84 =>
    go_wp2_with fail
    exact hK _ (Below.refl _ _)
  simp only [List.set_cons_zero, List.set_cons_succ]
  refine wpG_move (i := 85) rfl rfl rfl (by rfl) rfl ?_
  simp only [List.set_cons_zero, List.set_cons_succ]
  refine wpG_pure (i := 86) (v := ?v19x86) rfl rfl (by rfl) (fun w hB hG K hK => ?h19x86) ?_
  case h19x86 =>
    have cx := hG.cell 0 rfl
    go_wp2_with fail
    exact hK _ (Below.refl _ _)
  simp only [List.set_cons_zero, List.set_cons_succ]
  refine wpG_pure (i := 87) (v := ?v19x87) rfl rfl (by rfl) (fun w hB hG K hK => ?h19x87) ?_
  case h19x87 =>
    go_wp2_with fail
    refine (refOf_any _ _).mono ?_
    rintro e wx ⟨rfl, hbx⟩
    exact hK _ hbx
  simp only [List.set_cons_zero, List.set_cons_succ]
  refine wpG_pure (i := 88) (v := ?v19x88) rfl rfl (by rfl) (fun w hB hG K hK => ?h19x88) ?_
  case h19x88 =>
    go_wp2_with fail
    exact hK _ (Below.refl _ _)
  simp only [List.set_cons_zero, List.set_cons_succ]
  refine wpG_pure (i := 89) (v := ?v19x89) rfl rfl (by rfl) (fun w hB hG K hK => ?h19x89) ?_
  case h19x89 =>
    go_wp2_with fail
    exact hK _ (Below.refl _ _)
  simp only [List.set_cons_zero, List.set_cons_succ]
  refine wpG_nil (fun w19 hb19 hG19 => ?_)
  simp only [List.append_eq, List.cons_append, List.nil_append, List.drop_succ_cons, List.drop_zero, List.drop_nil]
  have O19 := Own.of hG19
  try simp only [List.setIfInBounds_toArray, List.set_cons_zero, List.set_cons_succ] at O19
  have bw19 : Below w.heap.size w w19 := Below.trans (by go_grown) (Below.mono hb19 (by first | omega | (simp; done) | (simp; omega)))
  have zw19 := Below.size hb19
  try simp only [World.size_alloc, World.size_drew, World.size_setCell] at zw19
  clear c18x0 f18x0 l18x0 l18x0d0 c18x1 f18x1 l18x1 l18x1d0 c18x2 f18x2 l18x2 l18x2d0 c18x3 f18x3 l18x3 l18x3d0 c18x4 f18x4 l18x4 l18x4d0 c18x5 f18x5 l18x5 l18x5d0 c18x6 f18x6 l18x6 l18x6d0 c18x7 f18x7 l18x7 l18x7d0 c18x8 f18x8 l18x8 l18x8d0 c18x9 f18x9 l18x9 l18x9d0 c18x10 f18x10 l18x10 l18x10d0
  have c19x0 := O19.cell 0 rfl
  have f19x0 := O19.free 0 rfl
  have l19x0 := O19.lt 0 rfl
  have l19x0d0 := le_up 0 l19x0
  simp only [upN] at l19x0d0
  have c19x1 := O19.cell 1 rfl
  have f19x1 := O19.free 1 rfl
  have l19x1 := O19.lt 1 rfl
  have l19x1d0 := le_up 0 l19x1
  simp only [upN] at l19x1d0
  have c19x2 := O19.cell 2 rfl
  have f19x2 := O19.free 2 rfl
  have l19x2 := O19.lt 2 rfl
  have l19x2d0 := le_up 0 l19x2
  simp only [upN] at l19x2d0
  have c19x3 := O19.cell 3 rfl
  have f19x3 := O19.free 3 rfl
  have l19x3 := O19.lt 3 rfl
  have l19x3d0 := le_up 0 l19x3
  simp only [upN] at l19x3d0
  have c19x4 := O19.cell 4 rfl
  have f19x4 := O19.free 4 rfl
  have l19x4 := O19.lt 4 rfl
  have l19x4d0 := le_up 0 l19x4
  simp only [upN] at l19x4d0
  have c19x5 := O19.cell 5 rfl
  have f19x5 := O19.free 5 rfl
  have l19x5 := O19.lt 5 rfl
  have l19x5d0 := le_up 0 l19x5
  simp only [upN] at l19x5d0
  have c19x6 := O19.cell 6 rfl
  have f19x6 := O19.free 6 rfl
  have l19x6 := O19.lt 6 rfl
  have l19x6d0 := le_up 0 l19x6
  simp only [upN] at l19x6d0
  have c19x7 := O19.cell 7 rfl
  have f19x7 := O19.free 7 rfl
  have l19x7 := O19.lt 7 rfl
  have l19x7d0 := le_up 0 l19x7
  simp only [upN] at l19x7d0
  have c19x8 := O19.cell 8 rfl
  have f19x8 := O19.free 8 rfl
  have l19x8 := O19.lt 8 rfl
  have l19x8d0 := le_up 0 l19x8
  simp only [upN] at l19x8d0
  have c19x9 := O19.cell 9 rfl
  have f19x9 := O19.free 9 rfl
  have l19x9 := O19.lt 9 rfl
  have l19x9d0 := le_up 0 l19x9
  simp only [upN] at l19x9d0
  have c19x10 := O19.cell 10 rfl
  have f19x10 := O19.free 10 rfl
  have l19x10 := O19.lt 10 rfl
  have l19x10d0 := le_up 0 l19x10
  simp only [upN] at l19x10d0
  have c19x11 := O19.cell 11 rfl
  have f19x11 := O19.free 11 rfl
  have l19x11 := O19.lt 11 rfl
  have l19x11d0 := le_up 0 l19x11
  simp only [upN] at l19x11d0
  have c19x12 := O19.cell 12 rfl
  have f19x12 := O19.free 12 rfl
  have l19x12 := O19.lt 12 rfl
  have l19x12d0 := le_up 0 l19x12
  simp only [upN] at l19x12d0
  have HO19 := Lib.hid O19
  clear O19 hb19
  go_wp2_with fail
  go_ret
  exact ⟨rfl, by go_grown⟩

end Go.Proofs.Ytjmplababaejaaa
