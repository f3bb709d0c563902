/- Walks of package store: what the rules give. -/
import Derived.Test.YtiglfbnicihpmaaStoreA
set_option linter.unusedVariables false
set_option linter.unusedSimpArgs false
namespace Go.Proofs.Ytiglfbnicihpmaa
open Go.RowKit

set_option maxHeartbeats 1000000 in
set_option maxRecDepth 20000 in
theorem either_t (a b : Int) (w : World)  :
    Calls Try.prog 21 #[.bool true, .agg #[.int .u64 a, .int .u64 b]] w fun e w' => e = .returned (.int .u64 b) ∧ Below w.heap.size w w' := by
  go_enter Try.func21, Try.ntmps21
  go_wp2_with fail
  go_ret
  exact ⟨rfl, by go_grown⟩

set_option maxHeartbeats 1000000 in
set_option maxRecDepth 20000 in
theorem either_f (a b : Int) (w : World)  :
    Calls Try.prog 21 #[.bool false, .agg #[.int .u64 a, .int .u64 b]] w fun e w' => e = .returned (.int .u64 a) ∧ Below w.heap.size w w' := by
  go_enter Try.func21, Try.ntmps21
  go_wp2_with fail
  go_ret
  exact ⟨rfl, by go_grown⟩

theorem told_any (b : Nat) (n : Int) (x y z : Vl) (w : World) (hB : Blk w b #[.int .u64 n, .int .u64 0, .int .u64 0] 63) :
    Calls Try.prog 36 #[.agg #[.int .u64 x.a, .int .u64 x.b, .int .u64 x.c, .int .u64 x.d, .int .u64 x.l, .int .u64 y.a, .int .u64 y.b, .int .u64 y.c, .int .u64 y.d, .int .u64 y.l, .int .u64 z.a, .int .u64 z.b, .int .u64 z.c, .int .u64 z.d, .int .u64 z.l], .pointer (some ⟨b, 0, none⟩)] w fun e w' => e = .returned (.agg #[.int .u64 n, .int .u64 0, .int .u64 0]) ∧ Below w.heap.size w w' := by
  have hl := hB.lt
  have hc := hB.cell
  go_enter Try.func36, Try.ntmps36
  go_wp2_with fail
  refine bodyPost_ret (v := .agg #[.int .u64 n, .int .u64 0, .int .u64 0]) (by simp [results, Try.results36, go_sem, *]) rfl ?_
  exact ⟨rfl, by go_grown⟩
theorem flat_any (n : Int) (w : World) :
    Calls Try.prog 35 #[.agg #[.int .u64 n, .int .u64 0, .int .u64 0]] w fun e w' => e = .returned (.func (.func 36) #[] #[.pointer (some ⟨w.heap.size, 0, none⟩)]) ∧ w' = w.alloc (.cells #[.int .u64 n, .int .u64 0, .int .u64 0] 63) := by
  go_enter Try.func35, Try.ntmps35
  go_wp2_with fail
  go_ret
  exact ⟨rfl, rfl⟩

set_option maxHeartbeats 1000000 in
set_option maxRecDepth 20000 in
theorem fresh_0 (x y z : Vl) (w : World) (h : noW z = false) :
    Calls Try.prog 42 #[.agg #[.int .u64 x.a, .int .u64 x.b, .int .u64 x.c, .int .u64 x.d, .int .u64 x.l, .int .u64 y.a, .int .u64 y.b, .int .u64 y.c, .int .u64 y.d, .int .u64 y.l, .int .u64 z.a, .int .u64 z.b, .int .u64 z.c, .int .u64 z.d, .int .u64 z.l]] w fun e w' => e = .returned (.agg #[.int .u64 2900, .int .u64 0, .int .u64 0]) ∧ Below w.heap.size w w' := by
  have U53 := u53
  have I53 := i53
  have HS := fun V : World => nought2_any x y z V
  rw [h] at HS
  go_enter Try.func42, Try.ntmps42
  go_wp2_with (first | (refine wpList_load_row rfl 53 (.tmp 3) (by with_reducible rfl) _ rfl _ _ (0, 0) _ (Own.get (Own.new (Own.new (Own.nil w) (w.heap.size) rfl) (w.heap.size + 1) (by simp)) 1 rfl) U53 rfl I53 ?_))
  refine (HS _).mono ?_
  rintro e w1 ⟨rfl, hb1⟩
  have O1 := Own.grow' hb1 (Own.new (Own.new (Own.nil w) (w.heap.size) rfl) (w.heap.size + 1) (by simp))
  try simp only [List.setIfInBounds_toArray, List.set_cons_zero, List.set_cons_succ] at O1
  have bw1 : Below w.heap.size w w1 := Below.trans (by go_grown) (Below.mono hb1 (by first | omega | (simp; done) | (simp; omega)))
  have zw1 := Below.size hb1
  try simp only [World.size_alloc, World.size_drew, World.size_setCell] at zw1
  have c1x0 := Own.cell O1 0 rfl
  have f1x0 := Own.free O1 0 rfl
  have l1x0 := Own.lt O1 0 rfl
  have l1x0d0 := le_up 0 l1x0
  have l1x0d1 := le_up 1 l1x0
  simp only [upN] at l1x0d0 l1x0d1
  have c1x1 := Own.cell O1 1 rfl
  have f1x1 := Own.free O1 1 rfl
  have l1x1 := Own.lt O1 1 rfl
  have l1x1d0 := le_up 0 l1x1
  have l1x1d1 := le_up 1 l1x1
  simp only [upN] at l1x1d0 l1x1d1
  have HO1 := Lib.hid O1
  clear O1 hb1
  go_wp2_with fail
  refine bodyPost_ret (v := .agg #[.int .u64 2900, .int .u64 0, .int .u64 0]) (by simp [results, Try.results42, go_sem, *]) rfl ?_
  exact ⟨rfl, by go_grown⟩

set_option maxHeartbeats 1000000 in
set_option maxRecDepth 20000 in
theorem fresh_1 (x y z : Vl) (w : World) (h : noW z = true) :
    Calls Try.prog 42 #[.agg #[.int .u64 x.a, .int .u64 x.b, .int .u64 x.c, .int .u64 x.d, .int .u64 x.l, .int .u64 y.a, .int .u64 y.b, .int .u64 y.c, .int .u64 y.d, .int .u64 y.l, .int .u64 z.a, .int .u64 z.b, .int .u64 z.c, .int .u64 z.d, .int .u64 z.l]] w fun e w' => e = .returned (.agg #[.int .u64 2900, .int .u64 4800, .int .u64 0]) ∧ Below w.heap.size w w' := by
  have U53 := u53
  have I53 := i53
  have HS := fun V : World => nought2_any x y z V
  rw [h] at HS
  go_enter Try.func42, Try.ntmps42
  go_wp2_with (first | (refine wpList_load_row rfl 53 (.tmp 3) (by with_reducible rfl) _ rfl _ _ (0, 0) _ (Own.get (Own.new (Own.new (Own.nil w) (w.heap.size) rfl) (w.heap.size + 1) (by simp)) 1 rfl) U53 rfl I53 ?_))
  refine (HS _).mono ?_
  rintro e w1 ⟨rfl, hb1⟩
  have O1 := Own.grow' hb1 (Own.new (Own.new (Own.nil w) (w.heap.size) rfl) (w.heap.size + 1) (by simp))
  try simp only [List.setIfInBounds_toArray, List.set_cons_zero, List.set_cons_succ] at O1
  have bw1 : Below w.heap.size w w1 := Below.trans (by go_grown) (Below.mono hb1 (by first | omega | (simp; done) | (simp; omega)))
  have zw1 := Below.size hb1
  try simp only [World.size_alloc, World.size_drew, World.size_setCell] at zw1
  have c1x0 := Own.cell O1 0 rfl
  have f1x0 := Own.free O1 0 rfl
  have l1x0 := Own.lt O1 0 rfl
  have l1x0d0 := le_up 0 l1x0
  have l1x0d1 := le_up 1 l1x0
  simp only [upN] at l1x0d0 l1x0d1
  have c1x1 := Own.cell O1 1 rfl
  have f1x1 := Own.free O1 1 rfl
  have l1x1 := Own.lt O1 1 rfl
  have l1x1d0 := le_up 0 l1x1
  have l1x1d1 := le_up 1 l1x1
  simp only [upN] at l1x1d0 l1x1d1
  have HO1 := Lib.hid O1
  clear O1 hb1
  go_wp2_with fail
  refine bodyPost_ret (v := .agg #[.int .u64 2900, .int .u64 4800, .int .u64 0]) (by simp [results, Try.results42, go_sem, *]) rfl ?_
  exact ⟨rfl, by go_grown⟩

set_option maxHeartbeats 1000000 in
set_option maxRecDepth 20000 in
theorem again_0 (x y z : Vl) (w : World) (hr : noW x = true) (hu : sameW z x = true) :
    Calls Try.prog 44 #[.agg #[.int .u64 x.a, .int .u64 x.b, .int .u64 x.c, .int .u64 x.d, .int .u64 x.l, .int .u64 y.a, .int .u64 y.b, .int .u64 y.c, .int .u64 y.d, .int .u64 y.l, .int .u64 z.a, .int .u64 z.b, .int .u64 z.c, .int .u64 z.d, .int .u64 z.l]] w fun e w' => e = .returned (.agg #[.int .u64 100, .int .u64 19900, .int .u64 0]) ∧ Below w.heap.size w w' := by
  have U53 := u53
  have I53 := i53
  have HR := fun V : World => nought0_any x y z V
  rw [hr] at HR
  have HU := fun V : World => same20_any x y z V
  rw [hu] at HU
  go_enter Try.func44, Try.ntmps44
  go_wp2_with (first | (refine wpList_load_row rfl 53 (.tmp 4) (by with_reducible rfl) _ rfl _ _ (0, 0) _ (Own.get (Own.new (Own.new (Own.nil w) (w.heap.size) rfl) (w.heap.size + 1) (by simp)) 1 rfl) U53 rfl I53 ?_))
  refine (HR _).mono ?_
  rintro e w1 ⟨rfl, hb1⟩
  have O1 := Own.grow' hb1 (Own.new (Own.new (Own.nil w) (w.heap.size) rfl) (w.heap.size + 1) (by simp))
  try simp only [List.setIfInBounds_toArray, List.set_cons_zero, List.set_cons_succ] at O1
  have bw1 : Below w.heap.size w w1 := Below.trans (by go_grown) (Below.mono hb1 (by first | omega | (simp; done) | (simp; omega)))
  have zw1 := Below.size hb1
  try simp only [World.size_alloc, World.size_drew, World.size_setCell] at zw1
  have c1x0 := Own.cell O1 0 rfl
  have f1x0 := Own.free O1 0 rfl
  have l1x0 := Own.lt O1 0 rfl
  have l1x0d0 := le_up 0 l1x0
  have l1x0d1 := le_up 1 l1x0
  simp only [upN] at l1x0d0 l1x0d1
  have c1x1 := Own.cell O1 1 rfl
  have f1x1 := Own.free O1 1 rfl
  have l1x1 := Own.lt O1 1 rfl
  have l1x1d0 := le_up 0 l1x1
  have l1x1d1 := le_up 1 l1x1
  simp only [upN] at l1x1d0 l1x1d1
  have HO1 := Lib.hid O1
  clear O1 hb1
  go_wp2_with (first | (refine wpList_load_row rfl 53 (.tmp 9) (by with_reducible rfl) _ rfl _ _ (0, 0) _ (Own.get HO1.out 1 rfl) U53 rfl I53 ?_) | (refine wpList_load_row rfl 53 (.tmp 14) (by with_reducible rfl) _ rfl _ _ (0, 0) _ (Own.get HO1.out 1 rfl) U53 rfl I53 ?_))
  refine (HR _).mono ?_
  rintro e w2 ⟨rfl, hb2⟩
  have O2 := Own.grow' hb2 HO1.out
  try simp only [List.setIfInBounds_toArray, List.set_cons_zero, List.set_cons_succ] at O2
  have bw2 : Below w.heap.size w w2 := Below.trans (by go_grown) (Below.mono hb2 (by first | omega | (simp; done) | (simp; omega)))
  have zw2 := Below.size hb2
  try simp only [World.size_alloc, World.size_drew, World.size_setCell] at zw2
  clear c1x0 f1x0 l1x0 l1x0d0 l1x0d1 c1x1 f1x1 l1x1 l1x1d0 l1x1d1
  have c2x0 := Own.cell O2 0 rfl
  have f2x0 := Own.free O2 0 rfl
  have l2x0 := Own.lt O2 0 rfl
  have l2x0d0 := le_up 0 l2x0
  have l2x0d1 := le_up 1 l2x0
  simp only [upN] at l2x0d0 l2x0d1
  have c2x1 := Own.cell O2 1 rfl
  have f2x1 := Own.free O2 1 rfl
  have l2x1 := Own.lt O2 1 rfl
  have l2x1d0 := le_up 0 l2x1
  have l2x1d1 := le_up 1 l2x1
  simp only [upN] at l2x1d0 l2x1d1
  have HO2 := Lib.hid O2
  clear O2 hb2
  go_wp2_with (first | (refine wpList_load_row rfl 53 (.tmp 19) (by with_reducible rfl) _ rfl _ _ (0, 0) _ (Own.get HO2.out 1 rfl) U53 rfl I53 ?_) | (refine wpList_load_row rfl 53 (.tmp 24) (by with_reducible rfl) _ rfl _ _ (0, 0) _ (Own.get HO2.out 1 rfl) U53 rfl I53 ?_))
  refine (HU _).mono ?_
  rintro e w3 ⟨rfl, hb3⟩
  have O3 := Own.grow' hb3 HO2.out
  try simp only [List.setIfInBounds_toArray, List.set_cons_zero, List.set_cons_succ] at O3
  have bw3 : Below w.heap.size w w3 := Below.trans (by go_grown) (Below.mono hb3 (by first | omega | (simp; done) | (simp; omega)))
  have zw3 := Below.size hb3
  try simp only [World.size_alloc, World.size_drew, World.size_setCell] at zw3
  clear c2x0 f2x0 l2x0 l2x0d0 l2x0d1 c2x1 f2x1 l2x1 l2x1d0 l2x1d1
  have c3x0 := Own.cell O3 0 rfl
  have f3x0 := Own.free O3 0 rfl
  have l3x0 := Own.lt O3 0 rfl
  have l3x0d0 := le_up 0 l3x0
  have l3x0d1 := le_up 1 l3x0
  simp only [upN] at l3x0d0 l3x0d1
  have c3x1 := Own.cell O3 1 rfl
  have f3x1 := Own.free O3 1 rfl
  have l3x1 := Own.lt O3 1 rfl
  have l3x1d0 := le_up 0 l3x1
  have l3x1d1 := le_up 1 l3x1
  simp only [upN] at l3x1d0 l3x1d1
  have HO3 := Lib.hid O3
  clear O3 hb3
  go_wp2_with fail
  refine wp_region_grow w.heap.size 9 0 0 [(0, 0, 134217728, 4), (1, 1, 268435456, 134217728), (2, 0, 536870912, 2), (3, 4, 1073741824, 536870912), (4, 8, 2147483648, 1073741824), (5, 0, 4294967296, 0), (6, 48, 8589934592, 6442450944), (7, 66, 17179869184, 8858370048), (8, 255, 34359738368, 4), (9, 511, 0, 51539607552)] [(.p 0, 1), (.p 1, 3), (.p 2, 7), (.p 3, 15), (.p 4, 31), (.p 5, 63), (.p 6, 127), (.p 7, 255), (.p 8, 511)] [(9, 1023)] _ (fun p hp => hp) (by first | omega | (simp; done) | (simp; omega)) (by kernel_rfl) (by kernel_rfl) HO3.out ?_
  refine wpG_pure (i := 0) (v := ?v4x0) rfl rfl (by rfl) (fun w hB hG K hK => ?h4x0) ?_
  case h4x0 =>
    go_wp2_with fail
    exact hK _ (Below.refl _ _)
  simp only [List.set_cons_zero, List.set_cons_succ]
  refine wpG_pure (i := 1) (v := ?v4x1) rfl rfl (by rfl) (fun w hB hG K hK => ?h4x1) ?_
  case h4x1 =>
    have cx := Own.cell hG 0 rfl
    go_wp2_with fail
    exact hK _ (Below.refl _ _)
  simp only [List.set_cons_zero, List.set_cons_succ]
  refine wpG_pure (i := 2) (v := ?v4x2) rfl rfl (by rfl) (fun w hB hG K hK => ?h4x2) ?_
  case h4x2 =>
    go_wp2_with fail
    exact hK _ (Below.refl _ _)
  simp only [List.set_cons_zero, List.set_cons_succ]
  refine wpG_pure (i := 3) (v := ?v4x3) rfl rfl (by rfl) (fun w hB hG K hK => ?h4x3) ?_
  case h4x3 =>
    refine wp_load_row 53 (.tmp 29) (by with_reducible rfl) _ rfl _ _ (0, 0) _ (Own.get hG 1 rfl) U53 rfl I53 ?_
    exact hK _ (Below.refl _ _)
  simp only [List.set_cons_zero, List.set_cons_succ]
  refine wpG_pure (i := 4) (v := ?v4x4) rfl rfl (by rfl) (fun w hB hG K hK => ?h4x4) ?_
  case h4x4 =>
    go_wp2_with fail
    refine (HR _).mono ?_
    rintro e wx ⟨rfl, hbx⟩
    exact hK _ hbx
  simp only [List.set_cons_zero, List.set_cons_succ]
  refine wpG_pure (i := 5) (v := ?v4x5) rfl rfl (by rfl) (fun w hB hG K hK => ?h4x5) ?_
  case h4x5 =>
    go_wp2_with fail
    exact hK _ (Below.refl _ _)
  simp only [List.set_cons_zero, List.set_cons_succ]
  refine wpG_pure (i := 6) (v := ?v4x6) rfl rfl (by rfl) (fun w hB hG K hK => ?h4x6) ?_
  case h4x6 =>
    go_wp2_with fail
    refine (either_t 2800 19900 _).mono ?_
    rintro e wx ⟨rfl, hbx⟩
    exact hK _ hbx
  simp only [List.set_cons_zero, List.set_cons_succ]
  refine wpG_pure (i := 7) (v := ?v4x7) rfl rfl (by rfl) (fun w hB hG K hK => ?h4x7) ?_
  case h4x7 =>
    go_wp2_with fail
    exact hK _ (Below.refl _ _)
  simp only [List.set_cons_zero, List.set_cons_succ]
  refine wpG_pure (i := 8) (v := ?v4x8) rfl rfl (by rfl) (fun w hB hG K hK => ?h4x8) ?_
  case h4x8 =>
    go_wp2_with fail
    exact hK _ (Below.refl _ _)
  simp only [List.set_cons_zero, List.set_cons_succ]
  refine wpG_nil (fun w4 hb4 hG4 => ?_)
  simp only [List.append_eq, List.cons_append, List.nil_append, List.drop_succ_cons, List.drop_zero, List.drop_nil]
  have O4 := Own.of hG4
  try simp only [List.setIfInBounds_toArray, List.set_cons_zero, List.set_cons_succ] at O4
  have bw4 : Below w.heap.size w w4 := Below.trans (by go_grown) (Below.mono hb4 (by first | omega | (simp; done) | (simp; omega)))
  have zw4 := Below.size hb4
  try simp only [World.size_alloc, World.size_drew, World.size_setCell] at zw4
  clear c3x0 f3x0 l3x0 l3x0d0 l3x0d1 c3x1 f3x1 l3x1 l3x1d0 l3x1d1
  have c4x0 := Own.cell O4 0 rfl
  have f4x0 := Own.free O4 0 rfl
  have l4x0 := Own.lt O4 0 rfl
  have l4x0d0 := le_up 0 l4x0
  have l4x0d1 := le_up 1 l4x0
  simp only [upN] at l4x0d0 l4x0d1
  have c4x1 := Own.cell O4 1 rfl
  have f4x1 := Own.free O4 1 rfl
  have l4x1 := Own.lt O4 1 rfl
  have l4x1d0 := le_up 0 l4x1
  have l4x1d1 := le_up 1 l4x1
  simp only [upN] at l4x1d0 l4x1d1
  have HO4 := Lib.hid O4
  clear O4 hb4
  go_wp2_with (first | (refine wpList_load_row rfl 53 (.tmp 29) (by with_reducible rfl) _ rfl _ _ (0, 0) _ (Own.get HO3.out 1 rfl) U53 rfl I53 ?_))
  refine bodyPost_ret (v := .agg #[.int .u64 100, .int .u64 19900, .int .u64 0]) (by simp [results, Try.results44, go_sem, *]) rfl ?_
  exact ⟨rfl, by go_grown⟩

set_option maxHeartbeats 1000000 in
set_option maxRecDepth 20000 in
theorem again_1 (x y z : Vl) (w : World) (hr : noW x = true) (hu : sameW z x = false) :
    Calls Try.prog 44 #[.agg #[.int .u64 x.a, .int .u64 x.b, .int .u64 x.c, .int .u64 x.d, .int .u64 x.l, .int .u64 y.a, .int .u64 y.b, .int .u64 y.c, .int .u64 y.d, .int .u64 y.l, .int .u64 z.a, .int .u64 z.b, .int .u64 z.c, .int .u64 z.d, .int .u64 z.l]] w fun e w' => e = .returned (.agg #[.int .u64 100, .int .u64 0, .int .u64 0]) ∧ Below w.heap.size w w' := by
  have U53 := u53
  have I53 := i53
  have HR := fun V : World => nought0_any x y z V
  rw [hr] at HR
  have HU := fun V : World => same20_any x y z V
  rw [hu] at HU
  go_enter Try.func44, Try.ntmps44
  go_wp2_with (first | (refine wpList_load_row rfl 53 (.tmp 4) (by with_reducible rfl) _ rfl _ _ (0, 0) _ (Own.get (Own.new (Own.new (Own.nil w) (w.heap.size) rfl) (w.heap.size + 1) (by simp)) 1 rfl) U53 rfl I53 ?_))
  refine (HR _).mono ?_
  rintro e w1 ⟨rfl, hb1⟩
  have O1 := Own.grow' hb1 (Own.new (Own.new (Own.nil w) (w.heap.size) rfl) (w.heap.size + 1) (by simp))
  try simp only [List.setIfInBounds_toArray, List.set_cons_zero, List.set_cons_succ] at O1
  have bw1 : Below w.heap.size w w1 := Below.trans (by go_grown) (Below.mono hb1 (by first | omega | (simp; done) | (simp; omega)))
  have zw1 := Below.size hb1
  try simp only [World.size_alloc, World.size_drew, World.size_setCell] at zw1
  have c1x0 := Own.cell O1 0 rfl
  have f1x0 := Own.free O1 0 rfl
  have l1x0 := Own.lt O1 0 rfl
  have l1x0d0 := le_up 0 l1x0
  have l1x0d1 := le_up 1 l1x0
  simp only [upN] at l1x0d0 l1x0d1
  have c1x1 := Own.cell O1 1 rfl
  have f1x1 := Own.free O1 1 rfl
  have l1x1 := Own.lt O1 1 rfl
  have l1x1d0 := le_up 0 l1x1
  have l1x1d1 := le_up 1 l1x1
  simp only [upN] at l1x1d0 l1x1d1
  have HO1 := Lib.hid O1
  clear O1 hb1
  go_wp2_with (first | (refine wpList_load_row rfl 53 (.tmp 9) (by with_reducible rfl) _ rfl _ _ (0, 0) _ (Own.get HO1.out 1 rfl) U53 rfl I53 ?_) | (refine wpList_load_row rfl 53 (.tmp 14) (by with_reducible rfl) _ rfl _ _ (0, 0) _ (Own.get HO1.out 1 rfl) U53 rfl I53 ?_))
  refine (HR _).mono ?_
  rintro e w2 ⟨rfl, hb2⟩
  have O2 := Own.grow' hb2 HO1.out
  try simp only [List.setIfInBounds_toArray, List.set_cons_zero, List.set_cons_succ] at O2
  have bw2 : Below w.heap.size w w2 := Below.trans (by go_grown) (Below.mono hb2 (by first | omega | (simp; done) | (simp; omega)))
  have zw2 := Below.size hb2
  try simp only [World.size_alloc, World.size_drew, World.size_setCell] at zw2
  clear c1x0 f1x0 l1x0 l1x0d0 l1x0d1 c1x1 f1x1 l1x1 l1x1d0 l1x1d1
  have c2x0 := Own.cell O2 0 rfl
  have f2x0 := Own.free O2 0 rfl
  have l2x0 := Own.lt O2 0 rfl
  have l2x0d0 := le_up 0 l2x0
  have l2x0d1 := le_up 1 l2x0
  simp only [upN] at l2x0d0 l2x0d1
  have c2x1 := Own.cell O2 1 rfl
  have f2x1 := Own.free O2 1 rfl
  have l2x1 := Own.lt O2 1 rfl
  have l2x1d0 := le_up 0 l2x1
  have l2x1d1 := le_up 1 l2x1
  simp only [upN] at l2x1d0 l2x1d1
  have HO2 := Lib.hid O2
  clear O2 hb2
  go_wp2_with (first | (refine wpList_load_row rfl 53 (.tmp 19) (by with_reducible rfl) _ rfl _ _ (0, 0) _ (Own.get HO2.out 1 rfl) U53 rfl I53 ?_) | (refine wpList_load_row rfl 53 (.tmp 24) (by with_reducible rfl) _ rfl _ _ (0, 0) _ (Own.get HO2.out 1 rfl) U53 rfl I53 ?_))
  refine (HU _).mono ?_
  rintro e w3 ⟨rfl, hb3⟩
  have O3 := Own.grow' hb3 HO2.out
  try simp only [List.setIfInBounds_toArray, List.set_cons_zero, List.set_cons_succ] at O3
  have bw3 : Below w.heap.size w w3 := Below.trans (by go_grown) (Below.mono hb3 (by first | omega | (simp; done) | (simp; omega)))
  have zw3 := Below.size hb3
  try simp only [World.size_alloc, World.size_drew, World.size_setCell] at zw3
  clear c2x0 f2x0 l2x0 l2x0d0 l2x0d1 c2x1 f2x1 l2x1 l2x1d0 l2x1d1
  have c3x0 := Own.cell O3 0 rfl
  have f3x0 := Own.free O3 0 rfl
  have l3x0 := Own.lt O3 0 rfl
  have l3x0d0 := le_up 0 l3x0
  have l3x0d1 := le_up 1 l3x0
  simp only [upN] at l3x0d0 l3x0d1
  have c3x1 := Own.cell O3 1 rfl
  have f3x1 := Own.free O3 1 rfl
  have l3x1 := Own.lt O3 1 rfl
  have l3x1d0 := le_up 0 l3x1
  have l3x1d1 := le_up 1 l3x1
  simp only [upN] at l3x1d0 l3x1d1
  have HO3 := Lib.hid O3
  clear O3 hb3
  go_wp2_with fail
  refine bodyPost_ret (v := .agg #[.int .u64 100, .int .u64 0, .int .u64 0]) (by simp [results, Try.results44, go_sem, *]) rfl ?_
  exact ⟨rfl, by go_grown⟩

set_option maxHeartbeats 1000000 in
set_option maxRecDepth 20000 in
theorem again_2 (x y z : Vl) (w : World) (hr : noW x = false) (ht : noW y = true) (hs : noW z = true) (hu : sameW z x = true) :
    Calls Try.prog 44 #[.agg #[.int .u64 x.a, .int .u64 x.b, .int .u64 x.c, .int .u64 x.d, .int .u64 x.l, .int .u64 y.a, .int .u64 y.b, .int .u64 y.c, .int .u64 y.d, .int .u64 y.l, .int .u64 z.a, .int .u64 z.b, .int .u64 z.c, .int .u64 z.d, .int .u64 z.l]] w fun e w' => e = .returned (.agg #[.int .u64 100, .int .u64 7600, .int .u64 4800]) ∧ Below w.heap.size w w' := by
  have U53 := u53
  have I53 := i53
  have HR := fun V : World => nought0_any x y z V
  rw [hr] at HR
  have HU := fun V : World => same20_any x y z V
  rw [hu] at HU
  have HT := fun V : World => nought1_any x y z V
  rw [ht] at HT
  have HZ := fun V : World => nought2_any x y z V
  rw [hs] at HZ
  go_enter Try.func44, Try.ntmps44
  go_wp2_with (first | (refine wpList_load_row rfl 53 (.tmp 4) (by with_reducible rfl) _ rfl _ _ (0, 0) _ (Own.get (Own.new (Own.new (Own.nil w) (w.heap.size) rfl) (w.heap.size + 1) (by simp)) 1 rfl) U53 rfl I53 ?_))
  refine (HR _).mono ?_
  rintro e w1 ⟨rfl, hb1⟩
  have O1 := Own.grow' hb1 (Own.new (Own.new (Own.nil w) (w.heap.size) rfl) (w.heap.size + 1) (by simp))
  try simp only [List.setIfInBounds_toArray, List.set_cons_zero, List.set_cons_succ] at O1
  have bw1 : Below w.heap.size w w1 := Below.trans (by go_grown) (Below.mono hb1 (by first | omega | (simp; done) | (simp; omega)))
  have zw1 := Below.size hb1
  try simp only [World.size_alloc, World.size_drew, World.size_setCell] at zw1
  have c1x0 := Own.cell O1 0 rfl
  have f1x0 := Own.free O1 0 rfl
  have l1x0 := Own.lt O1 0 rfl
  have l1x0d0 := le_up 0 l1x0
  have l1x0d1 := le_up 1 l1x0
  simp only [upN] at l1x0d0 l1x0d1
  have c1x1 := Own.cell O1 1 rfl
  have f1x1 := Own.free O1 1 rfl
  have l1x1 := Own.lt O1 1 rfl
  have l1x1d0 := le_up 0 l1x1
  have l1x1d1 := le_up 1 l1x1
  simp only [upN] at l1x1d0 l1x1d1
  have HO1 := Lib.hid O1
  clear O1 hb1
  go_wp2_with (first | (refine wpList_load_row rfl 53 (.tmp 9) (by with_reducible rfl) _ rfl _ _ (0, 0) _ (Own.get HO1.out 1 rfl) U53 rfl I53 ?_))
  refine (HT _).mono ?_
  rintro e w2 ⟨rfl, hb2⟩
  have O2 := Own.grow' hb2 HO1.out
  try simp only [List.setIfInBounds_toArray, List.set_cons_zero, List.set_cons_succ] at O2
  have bw2 : Below w.heap.size w w2 := Below.trans (by go_grown) (Below.mono hb2 (by first | omega | (simp; done) | (simp; omega)))
  have zw2 := Below.size hb2
  try simp only [World.size_alloc, World.size_drew, World.size_setCell] at zw2
  clear c1x0 f1x0 l1x0 l1x0d0 l1x0d1 c1x1 f1x1 l1x1 l1x1d0 l1x1d1
  have c2x0 := Own.cell O2 0 rfl
  have f2x0 := Own.free O2 0 rfl
  have l2x0 := Own.lt O2 0 rfl
  have l2x0d0 := le_up 0 l2x0
  have l2x0d1 := le_up 1 l2x0
  simp only [upN] at l2x0d0 l2x0d1
  have c2x1 := Own.cell O2 1 rfl
  have f2x1 := Own.free O2 1 rfl
  have l2x1 := Own.lt O2 1 rfl
  have l2x1d0 := le_up 0 l2x1
  have l2x1d1 := le_up 1 l2x1
  simp only [upN] at l2x1d0 l2x1d1
  have HO2 := Lib.hid O2
  clear O2 hb2
  go_wp2_with (first | (refine wpList_load_row rfl 53 (.tmp 14) (by with_reducible rfl) _ rfl _ _ (0, 0) _ (Own.get (Own.set HO2.out 0 rfl (Ne1.cons (by first | omega | (simp; omega)) Ne1.nil)) 1 rfl) U53 rfl I53 ?_))
  refine (HR _).mono ?_
  rintro e w3 ⟨rfl, hb3⟩
  have O3 := Own.grow' hb3 (Own.set HO2.out 0 rfl (Ne1.cons (by first | omega | (simp; omega)) Ne1.nil))
  try simp only [List.setIfInBounds_toArray, List.set_cons_zero, List.set_cons_succ] at O3
  have bw3 : Below w.heap.size w w3 := Below.trans (by go_grown) (Below.mono hb3 (by first | omega | (simp; done) | (simp; omega)))
  have zw3 := Below.size hb3
  try simp only [World.size_alloc, World.size_drew, World.size_setCell] at zw3
  clear c2x0 f2x0 l2x0 l2x0d0 l2x0d1 c2x1 f2x1 l2x1 l2x1d0 l2x1d1
  have c3x0 := Own.cell O3 0 rfl
  have f3x0 := Own.free O3 0 rfl
  have l3x0 := Own.lt O3 0 rfl
  have l3x0d0 := le_up 0 l3x0
  have l3x0d1 := le_up 1 l3x0
  simp only [upN] at l3x0d0 l3x0d1
  have c3x1 := Own.cell O3 1 rfl
  have f3x1 := Own.free O3 1 rfl
  have l3x1 := Own.lt O3 1 rfl
  have l3x1d0 := le_up 0 l3x1
  have l3x1d1 := le_up 1 l3x1
  simp only [upN] at l3x1d0 l3x1d1
  have HO3 := Lib.hid O3
  clear O3 hb3
  go_wp2_with (first | (refine wpList_load_row rfl 53 (.tmp 19) (by with_reducible rfl) _ rfl _ _ (0, 0) _ (Own.get HO3.out 1 rfl) U53 rfl I53 ?_))
  refine (HZ _).mono ?_
  rintro e w4 ⟨rfl, hb4⟩
  have O4 := Own.grow' hb4 HO3.out
  try simp only [List.setIfInBounds_toArray, List.set_cons_zero, List.set_cons_succ] at O4
  have bw4 : Below w.heap.size w w4 := Below.trans (by go_grown) (Below.mono hb4 (by first | omega | (simp; done) | (simp; omega)))
  have zw4 := Below.size hb4
  try simp only [World.size_alloc, World.size_drew, World.size_setCell] at zw4
  clear c3x0 f3x0 l3x0 l3x0d0 l3x0d1 c3x1 f3x1 l3x1 l3x1d0 l3x1d1
  have c4x0 := Own.cell O4 0 rfl
  have f4x0 := Own.free O4 0 rfl
  have l4x0 := Own.lt O4 0 rfl
  have l4x0d0 := le_up 0 l4x0
  have l4x0d1 := le_up 1 l4x0
  simp only [upN] at l4x0d0 l4x0d1
  have c4x1 := Own.cell O4 1 rfl
  have f4x1 := Own.free O4 1 rfl
  have l4x1 := Own.lt O4 1 rfl
  have l4x1d0 := le_up 0 l4x1
  have l4x1d1 := le_up 1 l4x1
  simp only [upN] at l4x1d0 l4x1d1
  have HO4 := Lib.hid O4
  clear O4 hb4
  go_wp2_with (first | (refine wpList_load_row rfl 53 (.tmp 24) (by with_reducible rfl) _ rfl _ _ (0, 0) _ (Own.get (Own.set HO4.out 0 rfl (Ne1.cons (by first | omega | (simp; omega)) Ne1.nil)) 1 rfl) U53 rfl I53 ?_))
  refine (HU _).mono ?_
  rintro e w5 ⟨rfl, hb5⟩
  have O5 := Own.grow' hb5 (Own.set HO4.out 0 rfl (Ne1.cons (by first | omega | (simp; omega)) Ne1.nil))
  try simp only [List.setIfInBounds_toArray, List.set_cons_zero, List.set_cons_succ] at O5
  have bw5 : Below w.heap.size w w5 := Below.trans (by go_grown) (Below.mono hb5 (by first | omega | (simp; done) | (simp; omega)))
  have zw5 := Below.size hb5
  try simp only [World.size_alloc, World.size_drew, World.size_setCell] at zw5
  clear c4x0 f4x0 l4x0 l4x0d0 l4x0d1 c4x1 f4x1 l4x1 l4x1d0 l4x1d1
  have c5x0 := Own.cell O5 0 rfl
  have f5x0 := Own.free O5 0 rfl
  have l5x0 := Own.lt O5 0 rfl
  have l5x0d0 := le_up 0 l5x0
  have l5x0d1 := le_up 1 l5x0
  simp only [upN] at l5x0d0 l5x0d1
  have c5x1 := Own.cell O5 1 rfl
  have f5x1 := Own.free O5 1 rfl
  have l5x1 := Own.lt O5 1 rfl
  have l5x1d0 := le_up 0 l5x1
  have l5x1d1 := le_up 1 l5x1
  simp only [upN] at l5x1d0 l5x1d1
  have HO5 := Lib.hid O5
  clear O5 hb5
  go_wp2_with fail
  refine wp_region_grow w.heap.size 9 0 0 [(0, 0, 134217728, 4), (1, 1, 268435456, 134217728), (2, 0, 536870912, 2), (3, 4, 1073741824, 536870912), (4, 8, 2147483648, 1073741824), (5, 0, 4294967296, 0), (6, 48, 8589934592, 6442450944), (7, 66, 17179869184, 8858370048), (8, 255, 34359738368, 4), (9, 511, 0, 51539607552)] [(.p 0, 1), (.p 1, 3), (.p 2, 7), (.p 3, 15), (.p 4, 31), (.p 5, 63), (.p 6, 127), (.p 7, 255), (.p 8, 511)] [(9, 1023)] _ (fun p hp => hp) (by first | omega | (simp; done) | (simp; omega)) (by kernel_rfl) (by kernel_rfl) HO5.out ?_
  refine wpG_pure (i := 0) (v := ?v6x0) rfl rfl (by rfl) (fun w hB hG K hK => ?h6x0) ?_
  case h6x0 =>
    go_wp2_with fail
    exact hK _ (Below.refl _ _)
  simp only [List.set_cons_zero, List.set_cons_succ]
  refine wpG_pure (i := 1) (v := ?v6x1) rfl rfl (by rfl) (fun w hB hG K hK => ?h6x1) ?_
  case h6x1 =>
    have cx := Own.cell hG 0 rfl
    go_wp2_with fail
    exact hK _ (Below.refl _ _)
  simp only [List.set_cons_zero, List.set_cons_succ]
  refine wpG_pure (i := 2) (v := ?v6x2) rfl rfl (by rfl) (fun w hB hG K hK => ?h6x2) ?_
  case h6x2 =>
    go_wp2_with fail
    exact hK _ (Below.refl _ _)
  simp only [List.set_cons_zero, List.set_cons_succ]
  refine wpG_pure (i := 3) (v := ?v6x3) rfl rfl (by rfl) (fun w hB hG K hK => ?h6x3) ?_
  case h6x3 =>
    refine wp_load_row 53 (.tmp 29) (by with_reducible rfl) _ rfl _ _ (0, 0) _ (Own.get hG 1 rfl) U53 rfl I53 ?_
    exact hK _ (Below.refl _ _)
  simp only [List.set_cons_zero, List.set_cons_succ]
  refine wpG_pure (i := 4) (v := ?v6x4) rfl rfl (by rfl) (fun w hB hG K hK => ?h6x4) ?_
  case h6x4 =>
    go_wp2_with fail
    refine (HR _).mono ?_
    rintro e wx ⟨rfl, hbx⟩
    exact hK _ hbx
  simp only [List.set_cons_zero, List.set_cons_succ]
  refine wpG_pure (i := 5) (v := ?v6x5) rfl rfl (by rfl) (fun w hB hG K hK => ?h6x5) ?_
  case h6x5 =>
    go_wp2_with fail
    exact hK _ (Below.refl _ _)
  simp only [List.set_cons_zero, List.set_cons_succ]
  refine wpG_pure (i := 6) (v := ?v6x6) rfl rfl (by rfl) (fun w hB hG K hK => ?h6x6) ?_
  case h6x6 =>
    go_wp2_with fail
    refine (either_f 2800 19900 _).mono ?_
    rintro e wx ⟨rfl, hbx⟩
    exact hK _ hbx
  simp only [List.set_cons_zero, List.set_cons_succ]
  refine wpG_pure (i := 7) (v := ?v6x7) rfl rfl (by rfl) (fun w hB hG K hK => ?h6x7) ?_
  case h6x7 =>
    go_wp2_with fail
    exact hK _ (Below.refl _ _)
  simp only [List.set_cons_zero, List.set_cons_succ]
  refine wpG_pure (i := 8) (v := ?v6x8) rfl rfl (by rfl) (fun w hB hG K hK => ?h6x8) ?_
  case h6x8 =>
    go_wp2_with fail
    exact hK _ (Below.refl _ _)
  simp only [List.set_cons_zero, List.set_cons_succ]
  refine wpG_nil (fun w6 hb6 hG6 => ?_)
  simp only [List.append_eq, List.cons_append, List.nil_append, List.drop_succ_cons, List.drop_zero, List.drop_nil]
  have O6 := Own.of hG6
  try simp only [List.setIfInBounds_toArray, List.set_cons_zero, List.set_cons_succ] at O6
  have bw6 : Below w.heap.size w w6 := Below.trans (by go_grown) (Below.mono hb6 (by first | omega | (simp; done) | (simp; omega)))
  have zw6 := Below.size hb6
  try simp only [World.size_alloc, World.size_drew, World.size_setCell] at zw6
  clear c5x0 f5x0 l5x0 l5x0d0 l5x0d1 c5x1 f5x1 l5x1 l5x1d0 l5x1d1
  have c6x0 := Own.cell O6 0 rfl
  have f6x0 := Own.free O6 0 rfl
  have l6x0 := Own.lt O6 0 rfl
  have l6x0d0 := le_up 0 l6x0
  have l6x0d1 := le_up 1 l6x0
  simp only [upN] at l6x0d0 l6x0d1
  have c6x1 := Own.cell O6 1 rfl
  have f6x1 := Own.free O6 1 rfl
  have l6x1 := Own.lt O6 1 rfl
  have l6x1d0 := le_up 0 l6x1
  have l6x1d1 := le_up 1 l6x1
  simp only [upN] at l6x1d0 l6x1d1
  have HO6 := Lib.hid O6
  clear O6 hb6
  go_wp2_with (first | (refine wpList_load_row rfl 53 (.tmp 29) (by with_reducible rfl) _ rfl _ _ (0, 0) _ (Own.get HO5.out 1 rfl) U53 rfl I53 ?_))
  refine bodyPost_ret (v := .agg #[.int .u64 100, .int .u64 7600, .int .u64 4800]) (by simp [results, Try.results44, go_sem, *]) rfl ?_
  exact ⟨rfl, by go_grown⟩

set_option maxHeartbeats 1000000 in
set_option maxRecDepth 20000 in
theorem again_3 (x y z : Vl) (w : World) (hr : noW x = false) (ht : noW y = true) (hs : noW z = true) (hu : sameW z x = false) :
    Calls Try.prog 44 #[.agg #[.int .u64 x.a, .int .u64 x.b, .int .u64 x.c, .int .u64 x.d, .int .u64 x.l, .int .u64 y.a, .int .u64 y.b, .int .u64 y.c, .int .u64 y.d, .int .u64 y.l, .int .u64 z.a, .int .u64 z.b, .int .u64 z.c, .int .u64 z.d, .int .u64 z.l]] w fun e w' => e = .returned (.agg #[.int .u64 100, .int .u64 4800, .int .u64 4800]) ∧ Below w.heap.size w w' := by
  have U53 := u53
  have I53 := i53
  have HR := fun V : World => nought0_any x y z V
  rw [hr] at HR
  have HU := fun V : World => same20_any x y z V
  rw [hu] at HU
  have HT := fun V : World => nought1_any x y z V
  rw [ht] at HT
  have HZ := fun V : World => nought2_any x y z V
  rw [hs] at HZ
  go_enter Try.func44, Try.ntmps44
  go_wp2_with (first | (refine wpList_load_row rfl 53 (.tmp 4) (by with_reducible rfl) _ rfl _ _ (0, 0) _ (Own.get (Own.new (Own.new (Own.nil w) (w.heap.size) rfl) (w.heap.size + 1) (by simp)) 1 rfl) U53 rfl I53 ?_))
  refine (HR _).mono ?_
  rintro e w1 ⟨rfl, hb1⟩
  have O1 := Own.grow' hb1 (Own.new (Own.new (Own.nil w) (w.heap.size) rfl) (w.heap.size + 1) (by simp))
  try simp only [List.setIfInBounds_toArray, List.set_cons_zero, List.set_cons_succ] at O1
  have bw1 : Below w.heap.size w w1 := Below.trans (by go_grown) (Below.mono hb1 (by first | omega | (simp; done) | (simp; omega)))
  have zw1 := Below.size hb1
  try simp only [World.size_alloc, World.size_drew, World.size_setCell] at zw1
  have c1x0 := Own.cell O1 0 rfl
  have f1x0 := Own.free O1 0 rfl
  have l1x0 := Own.lt O1 0 rfl
  have l1x0d0 := le_up 0 l1x0
  have l1x0d1 := le_up 1 l1x0
  simp only [upN] at l1x0d0 l1x0d1
  have c1x1 := Own.cell O1 1 rfl
  have f1x1 := Own.free O1 1 rfl
  have l1x1 := Own.lt O1 1 rfl
  have l1x1d0 := le_up 0 l1x1
  have l1x1d1 := le_up 1 l1x1
  simp only [upN] at l1x1d0 l1x1d1
  have HO1 := Lib.hid O1
  clear O1 hb1
  go_wp2_with (first | (refine wpList_load_row rfl 53 (.tmp 9) (by with_reducible rfl) _ rfl _ _ (0, 0) _ (Own.get HO1.out 1 rfl) U53 rfl I53 ?_))
  refine (HT _).mono ?_
  rintro e w2 ⟨rfl, hb2⟩
  have O2 := Own.grow' hb2 HO1.out
  try simp only [List.setIfInBounds_toArray, List.set_cons_zero, List.set_cons_succ] at O2
  have bw2 : Below w.heap.size w w2 := Below.trans (by go_grown) (Below.mono hb2 (by first | omega | (simp; done) | (simp; omega)))
  have zw2 := Below.size hb2
  try simp only [World.size_alloc, World.size_drew, World.size_setCell] at zw2
  clear c1x0 f1x0 l1x0 l1x0d0 l1x0d1 c1x1 f1x1 l1x1 l1x1d0 l1x1d1
  have c2x0 := Own.cell O2 0 rfl
  have f2x0 := Own.free O2 0 rfl
  have l2x0 := Own.lt O2 0 rfl
  have l2x0d0 := le_up 0 l2x0
  have l2x0d1 := le_up 1 l2x0
  simp only [upN] at l2x0d0 l2x0d1
  have c2x1 := Own.cell O2 1 rfl
  have f2x1 := Own.free O2 1 rfl
  have l2x1 := Own.lt O2 1 rfl
  have l2x1d0 := le_up 0 l2x1
  have l2x1d1 := le_up 1 l2x1
  simp only [upN] at l2x1d0 l2x1d1
  have HO2 := Lib.hid O2
  clear O2 hb2
  go_wp2_with (first | (refine wpList_load_row rfl 53 (.tmp 14) (by with_reducible rfl) _ rfl _ _ (0, 0) _ (Own.get (Own.set HO2.out 0 rfl (Ne1.cons (by first | omega | (simp; omega)) Ne1.nil)) 1 rfl) U53 rfl I53 ?_))
  refine (HR _).mono ?_
  rintro e w3 ⟨rfl, hb3⟩
  have O3 := Own.grow' hb3 (Own.set HO2.out 0 rfl (Ne1.cons (by first | omega | (simp; omega)) Ne1.nil))
  try simp only [List.setIfInBounds_toArray, List.set_cons_zero, List.set_cons_succ] at O3
  have bw3 : Below w.heap.size w w3 := Below.trans (by go_grown) (Below.mono hb3 (by first | omega | (simp; done) | (simp; omega)))
  have zw3 := Below.size hb3
  try simp only [World.size_alloc, World.size_drew, World.size_setCell] at zw3
  clear c2x0 f2x0 l2x0 l2x0d0 l2x0d1 c2x1 f2x1 l2x1 l2x1d0 l2x1d1
  have c3x0 := Own.cell O3 0 rfl
  have f3x0 := Own.free O3 0 rfl
  have l3x0 := Own.lt O3 0 rfl
  have l3x0d0 := le_up 0 l3x0
  have l3x0d1 := le_up 1 l3x0
  simp only [upN] at l3x0d0 l3x0d1
  have c3x1 := Own.cell O3 1 rfl
  have f3x1 := Own.free O3 1 rfl
  have l3x1 := Own.lt O3 1 rfl
  have l3x1d0 := le_up 0 l3x1
  have l3x1d1 := le_up 1 l3x1
  simp only [upN] at l3x1d0 l3x1d1
  have HO3 := Lib.hid O3
  clear O3 hb3
  go_wp2_with (first | (refine wpList_load_row rfl 53 (.tmp 19) (by with_reducible rfl) _ rfl _ _ (0, 0) _ (Own.get HO3.out 1 rfl) U53 rfl I53 ?_))
  refine (HZ _).mono ?_
  rintro e w4 ⟨rfl, hb4⟩
  have O4 := Own.grow' hb4 HO3.out
  try simp only [List.setIfInBounds_toArray, List.set_cons_zero, List.set_cons_succ] at O4
  have bw4 : Below w.heap.size w w4 := Below.trans (by go_grown) (Below.mono hb4 (by first | omega | (simp; done) | (simp; omega)))
  have zw4 := Below.size hb4
  try simp only [World.size_alloc, World.size_drew, World.size_setCell] at zw4
  clear c3x0 f3x0 l3x0 l3x0d0 l3x0d1 c3x1 f3x1 l3x1 l3x1d0 l3x1d1
  have c4x0 := Own.cell O4 0 rfl
  have f4x0 := Own.free O4 0 rfl
  have l4x0 := Own.lt O4 0 rfl
  have l4x0d0 := le_up 0 l4x0
  have l4x0d1 := le_up 1 l4x0
  simp only [upN] at l4x0d0 l4x0d1
  have c4x1 := Own.cell O4 1 rfl
  have f4x1 := Own.free O4 1 rfl
  have l4x1 := Own.lt O4 1 rfl
  have l4x1d0 := le_up 0 l4x1
  have l4x1d1 := le_up 1 l4x1
  simp only [upN] at l4x1d0 l4x1d1
  have HO4 := Lib.hid O4
  clear O4 hb4
  go_wp2_with (first | (refine wpList_load_row rfl 53 (.tmp 24) (by with_reducible rfl) _ rfl _ _ (0, 0) _ (Own.get (Own.set HO4.out 0 rfl (Ne1.cons (by first | omega | (simp; omega)) Ne1.nil)) 1 rfl) U53 rfl I53 ?_))
  refine (HU _).mono ?_
  rintro e w5 ⟨rfl, hb5⟩
  have O5 := Own.grow' hb5 (Own.set HO4.out 0 rfl (Ne1.cons (by first | omega | (simp; omega)) Ne1.nil))
  try simp only [List.setIfInBounds_toArray, List.set_cons_zero, List.set_cons_succ] at O5
  have bw5 : Below w.heap.size w w5 := Below.trans (by go_grown) (Below.mono hb5 (by first | omega | (simp; done) | (simp; omega)))
  have zw5 := Below.size hb5
  try simp only [World.size_alloc, World.size_drew, World.size_setCell] at zw5
  clear c4x0 f4x0 l4x0 l4x0d0 l4x0d1 c4x1 f4x1 l4x1 l4x1d0 l4x1d1
  have c5x0 := Own.cell O5 0 rfl
  have f5x0 := Own.free O5 0 rfl
  have l5x0 := Own.lt O5 0 rfl
  have l5x0d0 := le_up 0 l5x0
  have l5x0d1 := le_up 1 l5x0
  simp only [upN] at l5x0d0 l5x0d1
  have c5x1 := Own.cell O5 1 rfl
  have f5x1 := Own.free O5 1 rfl
  have l5x1 := Own.lt O5 1 rfl
  have l5x1d0 := le_up 0 l5x1
  have l5x1d1 := le_up 1 l5x1
  simp only [upN] at l5x1d0 l5x1d1
  have HO5 := Lib.hid O5
  clear O5 hb5
  go_wp2_with fail
  refine bodyPost_ret (v := .agg #[.int .u64 100, .int .u64 4800, .int .u64 4800]) (by simp [results, Try.results44, go_sem, *]) rfl ?_
  exact ⟨rfl, by go_grown⟩

set_option maxHeartbeats 1000000 in
set_option maxRecDepth 20000 in
theorem again_4 (x y z : Vl) (w : World) (hr : noW x = false) (ht : noW y = true) (hs : noW z = false) (hu : sameW z x = true) :
    Calls Try.prog 44 #[.agg #[.int .u64 x.a, .int .u64 x.b, .int .u64 x.c, .int .u64 x.d, .int .u64 x.l, .int .u64 y.a, .int .u64 y.b, .int .u64 y.c, .int .u64 y.d, .int .u64 y.l, .int .u64 z.a, .int .u64 z.b, .int .u64 z.c, .int .u64 z.d, .int .u64 z.l]] w fun e w' => e = .returned (.agg #[.int .u64 100, .int .u64 2800, .int .u64 4800]) ∧ Below w.heap.size w w' := by
  have U53 := u53
  have I53 := i53
  have HR := fun V : World => nought0_any x y z V
  rw [hr] at HR
  have HU := fun V : World => same20_any x y z V
  rw [hu] at HU
  have HT := fun V : World => nought1_any x y z V
  rw [ht] at HT
  have HZ := fun V : World => nought2_any x y z V
  rw [hs] at HZ
  go_enter Try.func44, Try.ntmps44
  go_wp2_with (first | (refine wpList_load_row rfl 53 (.tmp 4) (by with_reducible rfl) _ rfl _ _ (0, 0) _ (Own.get (Own.new (Own.new (Own.nil w) (w.heap.size) rfl) (w.heap.size + 1) (by simp)) 1 rfl) U53 rfl I53 ?_))
  refine (HR _).mono ?_
  rintro e w1 ⟨rfl, hb1⟩
  have O1 := Own.grow' hb1 (Own.new (Own.new (Own.nil w) (w.heap.size) rfl) (w.heap.size + 1) (by simp))
  try simp only [List.setIfInBounds_toArray, List.set_cons_zero, List.set_cons_succ] at O1
  have bw1 : Below w.heap.size w w1 := Below.trans (by go_grown) (Below.mono hb1 (by first | omega | (simp; done) | (simp; omega)))
  have zw1 := Below.size hb1
  try simp only [World.size_alloc, World.size_drew, World.size_setCell] at zw1
  have c1x0 := Own.cell O1 0 rfl
  have f1x0 := Own.free O1 0 rfl
  have l1x0 := Own.lt O1 0 rfl
  have l1x0d0 := le_up 0 l1x0
  have l1x0d1 := le_up 1 l1x0
  simp only [upN] at l1x0d0 l1x0d1
  have c1x1 := Own.cell O1 1 rfl
  have f1x1 := Own.free O1 1 rfl
  have l1x1 := Own.lt O1 1 rfl
  have l1x1d0 := le_up 0 l1x1
  have l1x1d1 := le_up 1 l1x1
  simp only [upN] at l1x1d0 l1x1d1
  have HO1 := Lib.hid O1
  clear O1 hb1
  go_wp2_with (first | (refine wpList_load_row rfl 53 (.tmp 9) (by with_reducible rfl) _ rfl _ _ (0, 0) _ (Own.get HO1.out 1 rfl) U53 rfl I53 ?_))
  refine (HT _).mono ?_
  rintro e w2 ⟨rfl, hb2⟩
  have O2 := Own.grow' hb2 HO1.out
  try simp only [List.setIfInBounds_toArray, List.set_cons_zero, List.set_cons_succ] at O2
  have bw2 : Below w.heap.size w w2 := Below.trans (by go_grown) (Below.mono hb2 (by first | omega | (simp; done) | (simp; omega)))
  have zw2 := Below.size hb2
  try simp only [World.size_alloc, World.size_drew, World.size_setCell] at zw2
  clear c1x0 f1x0 l1x0 l1x0d0 l1x0d1 c1x1 f1x1 l1x1 l1x1d0 l1x1d1
  have c2x0 := Own.cell O2 0 rfl
  have f2x0 := Own.free O2 0 rfl
  have l2x0 := Own.lt O2 0 rfl
  have l2x0d0 := le_up 0 l2x0
  have l2x0d1 := le_up 1 l2x0
  simp only [upN] at l2x0d0 l2x0d1
  have c2x1 := Own.cell O2 1 rfl
  have f2x1 := Own.free O2 1 rfl
  have l2x1 := Own.lt O2 1 rfl
  have l2x1d0 := le_up 0 l2x1
  have l2x1d1 := le_up 1 l2x1
  simp only [upN] at l2x1d0 l2x1d1
  have HO2 := Lib.hid O2
  clear O2 hb2
  go_wp2_with (first | (refine wpList_load_row rfl 53 (.tmp 14) (by with_reducible rfl) _ rfl _ _ (0, 0) _ (Own.get (Own.set HO2.out 0 rfl (Ne1.cons (by first | omega | (simp; omega)) Ne1.nil)) 1 rfl) U53 rfl I53 ?_))
  refine (HR _).mono ?_
  rintro e w3 ⟨rfl, hb3⟩
  have O3 := Own.grow' hb3 (Own.set HO2.out 0 rfl (Ne1.cons (by first | omega | (simp; omega)) Ne1.nil))
  try simp only [List.setIfInBounds_toArray, List.set_cons_zero, List.set_cons_succ] at O3
  have bw3 : Below w.heap.size w w3 := Below.trans (by go_grown) (Below.mono hb3 (by first | omega | (simp; done) | (simp; omega)))
  have zw3 := Below.size hb3
  try simp only [World.size_alloc, World.size_drew, World.size_setCell] at zw3
  clear c2x0 f2x0 l2x0 l2x0d0 l2x0d1 c2x1 f2x1 l2x1 l2x1d0 l2x1d1
  have c3x0 := Own.cell O3 0 rfl
  have f3x0 := Own.free O3 0 rfl
  have l3x0 := Own.lt O3 0 rfl
  have l3x0d0 := le_up 0 l3x0
  have l3x0d1 := le_up 1 l3x0
  simp only [upN] at l3x0d0 l3x0d1
  have c3x1 := Own.cell O3 1 rfl
  have f3x1 := Own.free O3 1 rfl
  have l3x1 := Own.lt O3 1 rfl
  have l3x1d0 := le_up 0 l3x1
  have l3x1d1 := le_up 1 l3x1
  simp only [upN] at l3x1d0 l3x1d1
  have HO3 := Lib.hid O3
  clear O3 hb3
  go_wp2_with (first | (refine wpList_load_row rfl 53 (.tmp 19) (by with_reducible rfl) _ rfl _ _ (0, 0) _ (Own.get HO3.out 1 rfl) U53 rfl I53 ?_))
  refine (HZ _).mono ?_
  rintro e w4 ⟨rfl, hb4⟩
  have O4 := Own.grow' hb4 HO3.out
  try simp only [List.setIfInBounds_toArray, List.set_cons_zero, List.set_cons_succ] at O4
  have bw4 : Below w.heap.size w w4 := Below.trans (by go_grown) (Below.mono hb4 (by first | omega | (simp; done) | (simp; omega)))
  have zw4 := Below.size hb4
  try simp only [World.size_alloc, World.size_drew, World.size_setCell] at zw4
  clear c3x0 f3x0 l3x0 l3x0d0 l3x0d1 c3x1 f3x1 l3x1 l3x1d0 l3x1d1
  have c4x0 := Own.cell O4 0 rfl
  have f4x0 := Own.free O4 0 rfl
  have l4x0 := Own.lt O4 0 rfl
  have l4x0d0 := le_up 0 l4x0
  have l4x0d1 := le_up 1 l4x0
  simp only [upN] at l4x0d0 l4x0d1
  have c4x1 := Own.cell O4 1 rfl
  have f4x1 := Own.free O4 1 rfl
  have l4x1 := Own.lt O4 1 rfl
  have l4x1d0 := le_up 0 l4x1
  have l4x1d1 := le_up 1 l4x1
  simp only [upN] at l4x1d0 l4x1d1
  have HO4 := Lib.hid O4
  clear O4 hb4
  go_wp2_with (first | (refine wpList_load_row rfl 53 (.tmp 24) (by with_reducible rfl) _ rfl _ _ (0, 0) _ (Own.get HO4.out 1 rfl) U53 rfl I53 ?_))
  refine (HU _).mono ?_
  rintro e w5 ⟨rfl, hb5⟩
  have O5 := Own.grow' hb5 HO4.out
  try simp only [List.setIfInBounds_toArray, List.set_cons_zero, List.set_cons_succ] at O5
  have bw5 : Below w.heap.size w w5 := Below.trans (by go_grown) (Below.mono hb5 (by first | omega | (simp; done) | (simp; omega)))
  have zw5 := Below.size hb5
  try simp only [World.size_alloc, World.size_drew, World.size_setCell] at zw5
  clear c4x0 f4x0 l4x0 l4x0d0 l4x0d1 c4x1 f4x1 l4x1 l4x1d0 l4x1d1
  have c5x0 := Own.cell O5 0 rfl
  have f5x0 := Own.free O5 0 rfl
  have l5x0 := Own.lt O5 0 rfl
  have l5x0d0 := le_up 0 l5x0
  have l5x0d1 := le_up 1 l5x0
  simp only [upN] at l5x0d0 l5x0d1
  have c5x1 := Own.cell O5 1 rfl
  have f5x1 := Own.free O5 1 rfl
  have l5x1 := Own.lt O5 1 rfl
  have l5x1d0 := le_up 0 l5x1
  have l5x1d1 := le_up 1 l5x1
  simp only [upN] at l5x1d0 l5x1d1
  have HO5 := Lib.hid O5
  clear O5 hb5
  go_wp2_with fail
  refine wp_region_grow w.heap.size 9 0 0 [(0, 0, 134217728, 4), (1, 1, 268435456, 134217728), (2, 0, 536870912, 2), (3, 4, 1073741824, 536870912), (4, 8, 2147483648, 1073741824), (5, 0, 4294967296, 0), (6, 48, 8589934592, 6442450944), (7, 66, 17179869184, 8858370048), (8, 255, 34359738368, 4), (9, 511, 0, 51539607552)] [(.p 0, 1), (.p 1, 3), (.p 2, 7), (.p 3, 15), (.p 4, 31), (.p 5, 63), (.p 6, 127), (.p 7, 255), (.p 8, 511)] [(9, 1023)] _ (fun p hp => hp) (by first | omega | (simp; done) | (simp; omega)) (by kernel_rfl) (by kernel_rfl) HO5.out ?_
  refine wpG_pure (i := 0) (v := ?v6x0) rfl rfl (by rfl) (fun w hB hG K hK => ?h6x0) ?_
  case h6x0 =>
    go_wp2_with fail
    exact hK _ (Below.refl _ _)
  simp only [List.set_cons_zero, List.set_cons_succ]
  refine wpG_pure (i := 1) (v := ?v6x1) rfl rfl (by rfl) (fun w hB hG K hK => ?h6x1) ?_
  case h6x1 =>
    have cx := Own.cell hG 0 rfl
    go_wp2_with fail
    exact hK _ (Below.refl _ _)
  simp only [List.set_cons_zero, List.set_cons_succ]
  refine wpG_pure (i := 2) (v := ?v6x2) rfl rfl (by rfl) (fun w hB hG K hK => ?h6x2) ?_
  case h6x2 =>
    go_wp2_with fail
    exact hK _ (Below.refl _ _)
  simp only [List.set_cons_zero, List.set_cons_succ]
  refine wpG_pure (i := 3) (v := ?v6x3) rfl rfl (by rfl) (fun w hB hG K hK => ?h6x3) ?_
  case h6x3 =>
    refine wp_load_row 53 (.tmp 29) (by with_reducible rfl) _ rfl _ _ (0, 0) _ (Own.get hG 1 rfl) U53 rfl I53 ?_
    exact hK _ (Below.refl _ _)
  simp only [List.set_cons_zero, List.set_cons_succ]
  refine wpG_pure (i := 4) (v := ?v6x4) rfl rfl (by rfl) (fun w hB hG K hK => ?h6x4) ?_
  case h6x4 =>
    go_wp2_with fail
    refine (HR _).mono ?_
    rintro e wx ⟨rfl, hbx⟩
    exact hK _ hbx
  simp only [List.set_cons_zero, List.set_cons_succ]
  refine wpG_pure (i := 5) (v := ?v6x5) rfl rfl (by rfl) (fun w hB hG K hK => ?h6x5) ?_
  case h6x5 =>
    go_wp2_with fail
    exact hK _ (Below.refl _ _)
  simp only [List.set_cons_zero, List.set_cons_succ]
  refine wpG_pure (i := 6) (v := ?v6x6) rfl rfl (by rfl) (fun w hB hG K hK => ?h6x6) ?_
  case h6x6 =>
    go_wp2_with fail
    refine (either_f 2800 19900 _).mono ?_
    rintro e wx ⟨rfl, hbx⟩
    exact hK _ hbx
  simp only [List.set_cons_zero, List.set_cons_succ]
  refine wpG_pure (i := 7) (v := ?v6x7) rfl rfl (by rfl) (fun w hB hG K hK => ?h6x7) ?_
  case h6x7 =>
    go_wp2_with fail
    exact hK _ (Below.refl _ _)
  simp only [List.set_cons_zero, List.set_cons_succ]
  refine wpG_pure (i := 8) (v := ?v6x8) rfl rfl (by rfl) (fun w hB hG K hK => ?h6x8) ?_
  case h6x8 =>
    go_wp2_with fail
    exact hK _ (Below.refl _ _)
  simp only [List.set_cons_zero, List.set_cons_succ]
  refine wpG_nil (fun w6 hb6 hG6 => ?_)
  simp only [List.append_eq, List.cons_append, List.nil_append, List.drop_succ_cons, List.drop_zero, List.drop_nil]
  have O6 := Own.of hG6
  try simp only [List.setIfInBounds_toArray, List.set_cons_zero, List.set_cons_succ] at O6
  have bw6 : Below w.heap.size w w6 := Below.trans (by go_grown) (Below.mono hb6 (by first | omega | (simp; done) | (simp; omega)))
  have zw6 := Below.size hb6
  try simp only [World.size_alloc, World.size_drew, World.size_setCell] at zw6
  clear c5x0 f5x0 l5x0 l5x0d0 l5x0d1 c5x1 f5x1 l5x1 l5x1d0 l5x1d1
  have c6x0 := Own.cell O6 0 rfl
  have f6x0 := Own.free O6 0 rfl
  have l6x0 := Own.lt O6 0 rfl
  have l6x0d0 := le_up 0 l6x0
  have l6x0d1 := le_up 1 l6x0
  simp only [upN] at l6x0d0 l6x0d1
  have c6x1 := Own.cell O6 1 rfl
  have f6x1 := Own.free O6 1 rfl
  have l6x1 := Own.lt O6 1 rfl
  have l6x1d0 := le_up 0 l6x1
  have l6x1d1 := le_up 1 l6x1
  simp only [upN] at l6x1d0 l6x1d1
  have HO6 := Lib.hid O6
  clear O6 hb6
  go_wp2_with (first | (refine wpList_load_row rfl 53 (.tmp 29) (by with_reducible rfl) _ rfl _ _ (0, 0) _ (Own.get HO5.out 1 rfl) U53 rfl I53 ?_))
  refine bodyPost_ret (v := .agg #[.int .u64 100, .int .u64 2800, .int .u64 4800]) (by simp [results, Try.results44, go_sem, *]) rfl ?_
  exact ⟨rfl, by go_grown⟩

set_option maxHeartbeats 1000000 in
set_option maxRecDepth 20000 in
theorem again_5 (x y z : Vl) (w : World) (hr : noW x = false) (ht : noW y = true) (hs : noW z = false) (hu : sameW z x = false) :
    Calls Try.prog 44 #[.agg #[.int .u64 x.a, .int .u64 x.b, .int .u64 x.c, .int .u64 x.d, .int .u64 x.l, .int .u64 y.a, .int .u64 y.b, .int .u64 y.c, .int .u64 y.d, .int .u64 y.l, .int .u64 z.a, .int .u64 z.b, .int .u64 z.c, .int .u64 z.d, .int .u64 z.l]] w fun e w' => e = .returned (.agg #[.int .u64 100, .int .u64 0, .int .u64 4800]) ∧ Below w.heap.size w w' := by
  have U53 := u53
  have I53 := i53
  have HR := fun V : World => nought0_any x y z V
  rw [hr] at HR
  have HU := fun V : World => same20_any x y z V
  rw [hu] at HU
  have HT := fun V : World => nought1_any x y z V
  rw [ht] at HT
  have HZ := fun V : World => nought2_any x y z V
  rw [hs] at HZ
  go_enter Try.func44, Try.ntmps44
  go_wp2_with (first | (refine wpList_load_row rfl 53 (.tmp 4) (by with_reducible rfl) _ rfl _ _ (0, 0) _ (Own.get (Own.new (Own.new (Own.nil w) (w.heap.size) rfl) (w.heap.size + 1) (by simp)) 1 rfl) U53 rfl I53 ?_))
  refine (HR _).mono ?_
  rintro e w1 ⟨rfl, hb1⟩
  have O1 := Own.grow' hb1 (Own.new (Own.new (Own.nil w) (w.heap.size) rfl) (w.heap.size + 1) (by simp))
  try simp only [List.setIfInBounds_toArray, List.set_cons_zero, List.set_cons_succ] at O1
  have bw1 : Below w.heap.size w w1 := Below.trans (by go_grown) (Below.mono hb1 (by first | omega | (simp; done) | (simp; omega)))
  have zw1 := Below.size hb1
  try simp only [World.size_alloc, World.size_drew, World.size_setCell] at zw1
  have c1x0 := Own.cell O1 0 rfl
  have f1x0 := Own.free O1 0 rfl
  have l1x0 := Own.lt O1 0 rfl
  have l1x0d0 := le_up 0 l1x0
  have l1x0d1 := le_up 1 l1x0
  simp only [upN] at l1x0d0 l1x0d1
  have c1x1 := Own.cell O1 1 rfl
  have f1x1 := Own.free O1 1 rfl
  have l1x1 := Own.lt O1 1 rfl
  have l1x1d0 := le_up 0 l1x1
  have l1x1d1 := le_up 1 l1x1
  simp only [upN] at l1x1d0 l1x1d1
  have HO1 := Lib.hid O1
  clear O1 hb1
  go_wp2_with (first | (refine wpList_load_row rfl 53 (.tmp 9) (by with_reducible rfl) _ rfl _ _ (0, 0) _ (Own.get HO1.out 1 rfl) U53 rfl I53 ?_))
  refine (HT _).mono ?_
  rintro e w2 ⟨rfl, hb2⟩
  have O2 := Own.grow' hb2 HO1.out
  try simp only [List.setIfInBounds_toArray, List.set_cons_zero, List.set_cons_succ] at O2
  have bw2 : Below w.heap.size w w2 := Below.trans (by go_grown) (Below.mono hb2 (by first | omega | (simp; done) | (simp; omega)))
  have zw2 := Below.size hb2
  try simp only [World.size_alloc, World.size_drew, World.size_setCell] at zw2
  clear c1x0 f1x0 l1x0 l1x0d0 l1x0d1 c1x1 f1x1 l1x1 l1x1d0 l1x1d1
  have c2x0 := Own.cell O2 0 rfl
  have f2x0 := Own.free O2 0 rfl
  have l2x0 := Own.lt O2 0 rfl
  have l2x0d0 := le_up 0 l2x0
  have l2x0d1 := le_up 1 l2x0
  simp only [upN] at l2x0d0 l2x0d1
  have c2x1 := Own.cell O2 1 rfl
  have f2x1 := Own.free O2 1 rfl
  have l2x1 := Own.lt O2 1 rfl
  have l2x1d0 := le_up 0 l2x1
  have l2x1d1 := le_up 1 l2x1
  simp only [upN] at l2x1d0 l2x1d1
  have HO2 := Lib.hid O2
  clear O2 hb2
  go_wp2_with (first | (refine wpList_load_row rfl 53 (.tmp 14) (by with_reducible rfl) _ rfl _ _ (0, 0) _ (Own.get (Own.set HO2.out 0 rfl (Ne1.cons (by first | omega | (simp; omega)) Ne1.nil)) 1 rfl) U53 rfl I53 ?_))
  refine (HR _).mono ?_
  rintro e w3 ⟨rfl, hb3⟩
  have O3 := Own.grow' hb3 (Own.set HO2.out 0 rfl (Ne1.cons (by first | omega | (simp; omega)) Ne1.nil))
  try simp only [List.setIfInBounds_toArray, List.set_cons_zero, List.set_cons_succ] at O3
  have bw3 : Below w.heap.size w w3 := Below.trans (by go_grown) (Below.mono hb3 (by first | omega | (simp; done) | (simp; omega)))
  have zw3 := Below.size hb3
  try simp only [World.size_alloc, World.size_drew, World.size_setCell] at zw3
  clear c2x0 f2x0 l2x0 l2x0d0 l2x0d1 c2x1 f2x1 l2x1 l2x1d0 l2x1d1
  have c3x0 := Own.cell O3 0 rfl
  have f3x0 := Own.free O3 0 rfl
  have l3x0 := Own.lt O3 0 rfl
  have l3x0d0 := le_up 0 l3x0
  have l3x0d1 := le_up 1 l3x0
  simp only [upN] at l3x0d0 l3x0d1
  have c3x1 := Own.cell O3 1 rfl
  have f3x1 := Own.free O3 1 rfl
  have l3x1 := Own.lt O3 1 rfl
  have l3x1d0 := le_up 0 l3x1
  have l3x1d1 := le_up 1 l3x1
  simp only [upN] at l3x1d0 l3x1d1
  have HO3 := Lib.hid O3
  clear O3 hb3
  go_wp2_with (first | (refine wpList_load_row rfl 53 (.tmp 19) (by with_reducible rfl) _ rfl _ _ (0, 0) _ (Own.get HO3.out 1 rfl) U53 rfl I53 ?_))
  refine (HZ _).mono ?_
  rintro e w4 ⟨rfl, hb4⟩
  have O4 := Own.grow' hb4 HO3.out
  try simp only [List.setIfInBounds_toArray, List.set_cons_zero, List.set_cons_succ] at O4
  have bw4 : Below w.heap.size w w4 := Below.trans (by go_grown) (Below.mono hb4 (by first | omega | (simp; done) | (simp; omega)))
  have zw4 := Below.size hb4
  try simp only [World.size_alloc, World.size_drew, World.size_setCell] at zw4
  clear c3x0 f3x0 l3x0 l3x0d0 l3x0d1 c3x1 f3x1 l3x1 l3x1d0 l3x1d1
  have c4x0 := Own.cell O4 0 rfl
  have f4x0 := Own.free O4 0 rfl
  have l4x0 := Own.lt O4 0 rfl
  have l4x0d0 := le_up 0 l4x0
  have l4x0d1 := le_up 1 l4x0
  simp only [upN] at l4x0d0 l4x0d1
  have c4x1 := Own.cell O4 1 rfl
  have f4x1 := Own.free O4 1 rfl
  have l4x1 := Own.lt O4 1 rfl
  have l4x1d0 := le_up 0 l4x1
  have l4x1d1 := le_up 1 l4x1
  simp only [upN] at l4x1d0 l4x1d1
  have HO4 := Lib.hid O4
  clear O4 hb4
  go_wp2_with (first | (refine wpList_load_row rfl 53 (.tmp 24) (by with_reducible rfl) _ rfl _ _ (0, 0) _ (Own.get HO4.out 1 rfl) U53 rfl I53 ?_))
  refine (HU _).mono ?_
  rintro e w5 ⟨rfl, hb5⟩
  have O5 := Own.grow' hb5 HO4.out
  try simp only [List.setIfInBounds_toArray, List.set_cons_zero, List.set_cons_succ] at O5
  have bw5 : Below w.heap.size w w5 := Below.trans (by go_grown) (Below.mono hb5 (by first | omega | (simp; done) | (simp; omega)))
  have zw5 := Below.size hb5
  try simp only [World.size_alloc, World.size_drew, World.size_setCell] at zw5
  clear c4x0 f4x0 l4x0 l4x0d0 l4x0d1 c4x1 f4x1 l4x1 l4x1d0 l4x1d1
  have c5x0 := Own.cell O5 0 rfl
  have f5x0 := Own.free O5 0 rfl
  have l5x0 := Own.lt O5 0 rfl
  have l5x0d0 := le_up 0 l5x0
  have l5x0d1 := le_up 1 l5x0
  simp only [upN] at l5x0d0 l5x0d1
  have c5x1 := Own.cell O5 1 rfl
  have f5x1 := Own.free O5 1 rfl
  have l5x1 := Own.lt O5 1 rfl
  have l5x1d0 := le_up 0 l5x1
  have l5x1d1 := le_up 1 l5x1
  simp only [upN] at l5x1d0 l5x1d1
  have HO5 := Lib.hid O5
  clear O5 hb5
  go_wp2_with fail
  refine bodyPost_ret (v := .agg #[.int .u64 100, .int .u64 0, .int .u64 4800]) (by simp [results, Try.results44, go_sem, *]) rfl ?_
  exact ⟨rfl, by go_grown⟩

set_option maxHeartbeats 1000000 in
set_option maxRecDepth 20000 in
theorem again_6 (x y z : Vl) (w : World) (hr : noW x = false) (ht : noW y = false) (hs : noW z = true) (hu : sameW z x = true) :
    Calls Try.prog 44 #[.agg #[.int .u64 x.a, .int .u64 x.b, .int .u64 x.c, .int .u64 x.d, .int .u64 x.l, .int .u64 y.a, .int .u64 y.b, .int .u64 y.c, .int .u64 y.d, .int .u64 y.l, .int .u64 z.a, .int .u64 z.b, .int .u64 z.c, .int .u64 z.d, .int .u64 z.l]] w fun e w' => e = .returned (.agg #[.int .u64 100, .int .u64 7600, .int .u64 0]) ∧ Below w.heap.size w w' := by
  have U53 := u53
  have I53 := i53
  have HR := fun V : World => nought0_any x y z V
  rw [hr] at HR
  have HU := fun V : World => same20_any x y z V
  rw [hu] at HU
  have HT := fun V : World => nought1_any x y z V
  rw [ht] at HT
  have HZ := fun V : World => nought2_any x y z V
  rw [hs] at HZ
  go_enter Try.func44, Try.ntmps44
  go_wp2_with (first | (refine wpList_load_row rfl 53 (.tmp 4) (by with_reducible rfl) _ rfl _ _ (0, 0) _ (Own.get (Own.new (Own.new (Own.nil w) (w.heap.size) rfl) (w.heap.size + 1) (by simp)) 1 rfl) U53 rfl I53 ?_))
  refine (HR _).mono ?_
  rintro e w1 ⟨rfl, hb1⟩
  have O1 := Own.grow' hb1 (Own.new (Own.new (Own.nil w) (w.heap.size) rfl) (w.heap.size + 1) (by simp))
  try simp only [List.setIfInBounds_toArray, List.set_cons_zero, List.set_cons_succ] at O1
  have bw1 : Below w.heap.size w w1 := Below.trans (by go_grown) (Below.mono hb1 (by first | omega | (simp; done) | (simp; omega)))
  have zw1 := Below.size hb1
  try simp only [World.size_alloc, World.size_drew, World.size_setCell] at zw1
  have c1x0 := Own.cell O1 0 rfl
  have f1x0 := Own.free O1 0 rfl
  have l1x0 := Own.lt O1 0 rfl
  have l1x0d0 := le_up 0 l1x0
  have l1x0d1 := le_up 1 l1x0
  simp only [upN] at l1x0d0 l1x0d1
  have c1x1 := Own.cell O1 1 rfl
  have f1x1 := Own.free O1 1 rfl
  have l1x1 := Own.lt O1 1 rfl
  have l1x1d0 := le_up 0 l1x1
  have l1x1d1 := le_up 1 l1x1
  simp only [upN] at l1x1d0 l1x1d1
  have HO1 := Lib.hid O1
  clear O1 hb1
  go_wp2_with (first | (refine wpList_load_row rfl 53 (.tmp 9) (by with_reducible rfl) _ rfl _ _ (0, 0) _ (Own.get HO1.out 1 rfl) U53 rfl I53 ?_))
  refine (HT _).mono ?_
  rintro e w2 ⟨rfl, hb2⟩
  have O2 := Own.grow' hb2 HO1.out
  try simp only [List.setIfInBounds_toArray, List.set_cons_zero, List.set_cons_succ] at O2
  have bw2 : Below w.heap.size w w2 := Below.trans (by go_grown) (Below.mono hb2 (by first | omega | (simp; done) | (simp; omega)))
  have zw2 := Below.size hb2
  try simp only [World.size_alloc, World.size_drew, World.size_setCell] at zw2
  clear c1x0 f1x0 l1x0 l1x0d0 l1x0d1 c1x1 f1x1 l1x1 l1x1d0 l1x1d1
  have c2x0 := Own.cell O2 0 rfl
  have f2x0 := Own.free O2 0 rfl
  have l2x0 := Own.lt O2 0 rfl
  have l2x0d0 := le_up 0 l2x0
  have l2x0d1 := le_up 1 l2x0
  simp only [upN] at l2x0d0 l2x0d1
  have c2x1 := Own.cell O2 1 rfl
  have f2x1 := Own.free O2 1 rfl
  have l2x1 := Own.lt O2 1 rfl
  have l2x1d0 := le_up 0 l2x1
  have l2x1d1 := le_up 1 l2x1
  simp only [upN] at l2x1d0 l2x1d1
  have HO2 := Lib.hid O2
  clear O2 hb2
  go_wp2_with (first | (refine wpList_load_row rfl 53 (.tmp 14) (by with_reducible rfl) _ rfl _ _ (0, 0) _ (Own.get HO2.out 1 rfl) U53 rfl I53 ?_))
  refine (HR _).mono ?_
  rintro e w3 ⟨rfl, hb3⟩
  have O3 := Own.grow' hb3 HO2.out
  try simp only [List.setIfInBounds_toArray, List.set_cons_zero, List.set_cons_succ] at O3
  have bw3 : Below w.heap.size w w3 := Below.trans (by go_grown) (Below.mono hb3 (by first | omega | (simp; done) | (simp; omega)))
  have zw3 := Below.size hb3
  try simp only [World.size_alloc, World.size_drew, World.size_setCell] at zw3
  clear c2x0 f2x0 l2x0 l2x0d0 l2x0d1 c2x1 f2x1 l2x1 l2x1d0 l2x1d1
  have c3x0 := Own.cell O3 0 rfl
  have f3x0 := Own.free O3 0 rfl
  have l3x0 := Own.lt O3 0 rfl
  have l3x0d0 := le_up 0 l3x0
  have l3x0d1 := le_up 1 l3x0
  simp only [upN] at l3x0d0 l3x0d1
  have c3x1 := Own.cell O3 1 rfl
  have f3x1 := Own.free O3 1 rfl
  have l3x1 := Own.lt O3 1 rfl
  have l3x1d0 := le_up 0 l3x1
  have l3x1d1 := le_up 1 l3x1
  simp only [upN] at l3x1d0 l3x1d1
  have HO3 := Lib.hid O3
  clear O3 hb3
  go_wp2_with (first | (refine wpList_load_row rfl 53 (.tmp 19) (by with_reducible rfl) _ rfl _ _ (0, 0) _ (Own.get HO3.out 1 rfl) U53 rfl I53 ?_))
  refine (HZ _).mono ?_
  rintro e w4 ⟨rfl, hb4⟩
  have O4 := Own.grow' hb4 HO3.out
  try simp only [List.setIfInBounds_toArray, List.set_cons_zero, List.set_cons_succ] at O4
  have bw4 : Below w.heap.size w w4 := Below.trans (by go_grown) (Below.mono hb4 (by first | omega | (simp; done) | (simp; omega)))
  have zw4 := Below.size hb4
  try simp only [World.size_alloc, World.size_drew, World.size_setCell] at zw4
  clear c3x0 f3x0 l3x0 l3x0d0 l3x0d1 c3x1 f3x1 l3x1 l3x1d0 l3x1d1
  have c4x0 := Own.cell O4 0 rfl
  have f4x0 := Own.free O4 0 rfl
  have l4x0 := Own.lt O4 0 rfl
  have l4x0d0 := le_up 0 l4x0
  have l4x0d1 := le_up 1 l4x0
  simp only [upN] at l4x0d0 l4x0d1
  have c4x1 := Own.cell O4 1 rfl
  have f4x1 := Own.free O4 1 rfl
  have l4x1 := Own.lt O4 1 rfl
  have l4x1d0 := le_up 0 l4x1
  have l4x1d1 := le_up 1 l4x1
  simp only [upN] at l4x1d0 l4x1d1
  have HO4 := Lib.hid O4
  clear O4 hb4
  go_wp2_with (first | (refine wpList_load_row rfl 53 (.tmp 24) (by with_reducible rfl) _ rfl _ _ (0, 0) _ (Own.get (Own.set HO4.out 0 rfl (Ne1.cons (by first | omega | (simp; omega)) Ne1.nil)) 1 rfl) U53 rfl I53 ?_))
  refine (HU _).mono ?_
  rintro e w5 ⟨rfl, hb5⟩
  have O5 := Own.grow' hb5 (Own.set HO4.out 0 rfl (Ne1.cons (by first | omega | (simp; omega)) Ne1.nil))
  try simp only [List.setIfInBounds_toArray, List.set_cons_zero, List.set_cons_succ] at O5
  have bw5 : Below w.heap.size w w5 := Below.trans (by go_grown) (Below.mono hb5 (by first | omega | (simp; done) | (simp; omega)))
  have zw5 := Below.size hb5
  try simp only [World.size_alloc, World.size_drew, World.size_setCell] at zw5
  clear c4x0 f4x0 l4x0 l4x0d0 l4x0d1 c4x1 f4x1 l4x1 l4x1d0 l4x1d1
  have c5x0 := Own.cell O5 0 rfl
  have f5x0 := Own.free O5 0 rfl
  have l5x0 := Own.lt O5 0 rfl
  have l5x0d0 := le_up 0 l5x0
  have l5x0d1 := le_up 1 l5x0
  simp only [upN] at l5x0d0 l5x0d1
  have c5x1 := Own.cell O5 1 rfl
  have f5x1 := Own.free O5 1 rfl
  have l5x1 := Own.lt O5 1 rfl
  have l5x1d0 := le_up 0 l5x1
  have l5x1d1 := le_up 1 l5x1
  simp only [upN] at l5x1d0 l5x1d1
  have HO5 := Lib.hid O5
  clear O5 hb5
  go_wp2_with fail
  refine wp_region_grow w.heap.size 9 0 0 [(0, 0, 134217728, 4), (1, 1, 268435456, 134217728), (2, 0, 536870912, 2), (3, 4, 1073741824, 536870912), (4, 8, 2147483648, 1073741824), (5, 0, 4294967296, 0), (6, 48, 8589934592, 6442450944), (7, 66, 17179869184, 8858370048), (8, 255, 34359738368, 4), (9, 511, 0, 51539607552)] [(.p 0, 1), (.p 1, 3), (.p 2, 7), (.p 3, 15), (.p 4, 31), (.p 5, 63), (.p 6, 127), (.p 7, 255), (.p 8, 511)] [(9, 1023)] _ (fun p hp => hp) (by first | omega | (simp; done) | (simp; omega)) (by kernel_rfl) (by kernel_rfl) HO5.out ?_
  refine wpG_pure (i := 0) (v := ?v6x0) rfl rfl (by rfl) (fun w hB hG K hK => ?h6x0) ?_
  case h6x0 =>
    go_wp2_with fail
    exact hK _ (Below.refl _ _)
  simp only [List.set_cons_zero, List.set_cons_succ]
  refine wpG_pure (i := 1) (v := ?v6x1) rfl rfl (by rfl) (fun w hB hG K hK => ?h6x1) ?_
  case h6x1 =>
    have cx := Own.cell hG 0 rfl
    go_wp2_with fail
    exact hK _ (Below.refl _ _)
  simp only [List.set_cons_zero, List.set_cons_succ]
  refine wpG_pure (i := 2) (v := ?v6x2) rfl rfl (by rfl) (fun w hB hG K hK => ?h6x2) ?_
  case h6x2 =>
    go_wp2_with fail
    exact hK _ (Below.refl _ _)
  simp only [List.set_cons_zero, List.set_cons_succ]
  refine wpG_pure (i := 3) (v := ?v6x3) rfl rfl (by rfl) (fun w hB hG K hK => ?h6x3) ?_
  case h6x3 =>
    refine wp_load_row 53 (.tmp 29) (by with_reducible rfl) _ rfl _ _ (0, 0) _ (Own.get hG 1 rfl) U53 rfl I53 ?_
    exact hK _ (Below.refl _ _)
  simp only [List.set_cons_zero, List.set_cons_succ]
  refine wpG_pure (i := 4) (v := ?v6x4) rfl rfl (by rfl) (fun w hB hG K hK => ?h6x4) ?_
  case h6x4 =>
    go_wp2_with fail
    refine (HR _).mono ?_
    rintro e wx ⟨rfl, hbx⟩
    exact hK _ hbx
  simp only [List.set_cons_zero, List.set_cons_succ]
  refine wpG_pure (i := 5) (v := ?v6x5) rfl rfl (by rfl) (fun w hB hG K hK => ?h6x5) ?_
  case h6x5 =>
    go_wp2_with fail
    exact hK _ (Below.refl _ _)
  simp only [List.set_cons_zero, List.set_cons_succ]
  refine wpG_pure (i := 6) (v := ?v6x6) rfl rfl (by rfl) (fun w hB hG K hK => ?h6x6) ?_
  case h6x6 =>
    go_wp2_with fail
    refine (either_f 2800 19900 _).mono ?_
    rintro e wx ⟨rfl, hbx⟩
    exact hK _ hbx
  simp only [List.set_cons_zero, List.set_cons_succ]
  refine wpG_pure (i := 7) (v := ?v6x7) rfl rfl (by rfl) (fun w hB hG K hK => ?h6x7) ?_
  case h6x7 =>
    go_wp2_with fail
    exact hK _ (Below.refl _ _)
  simp only [List.set_cons_zero, List.set_cons_succ]
  refine wpG_pure (i := 8) (v := ?v6x8) rfl rfl (by rfl) (fun w hB hG K hK => ?h6x8) ?_
  case h6x8 =>
    go_wp2_with fail
    exact hK _ (Below.refl _ _)
  simp only [List.set_cons_zero, List.set_cons_succ]
  refine wpG_nil (fun w6 hb6 hG6 => ?_)
  simp only [List.append_eq, List.cons_append, List.nil_append, List.drop_succ_cons, List.drop_zero, List.drop_nil]
  have O6 := Own.of hG6
  try simp only [List.setIfInBounds_toArray, List.set_cons_zero, List.set_cons_succ] at O6
  have bw6 : Below w.heap.size w w6 := Below.trans (by go_grown) (Below.mono hb6 (by first | omega | (simp; done) | (simp; omega)))
  have zw6 := Below.size hb6
  try simp only [World.size_alloc, World.size_drew, World.size_setCell] at zw6
  clear c5x0 f5x0 l5x0 l5x0d0 l5x0d1 c5x1 f5x1 l5x1 l5x1d0 l5x1d1
  have c6x0 := Own.cell O6 0 rfl
  have f6x0 := Own.free O6 0 rfl
  have l6x0 := Own.lt O6 0 rfl
  have l6x0d0 := le_up 0 l6x0
  have l6x0d1 := le_up 1 l6x0
  simp only [upN] at l6x0d0 l6x0d1
  have c6x1 := Own.cell O6 1 rfl
  have f6x1 := Own.free O6 1 rfl
  have l6x1 := Own.lt O6 1 rfl
  have l6x1d0 := le_up 0 l6x1
  have l6x1d1 := le_up 1 l6x1
  simp only [upN] at l6x1d0 l6x1d1
  have HO6 := Lib.hid O6
  clear O6 hb6
  go_wp2_with (first | (refine wpList_load_row rfl 53 (.tmp 29) (by with_reducible rfl) _ rfl _ _ (0, 0) _ (Own.get HO5.out 1 rfl) U53 rfl I53 ?_))
  refine bodyPost_ret (v := .agg #[.int .u64 100, .int .u64 7600, .int .u64 0]) (by simp [results, Try.results44, go_sem, *]) rfl ?_
  exact ⟨rfl, by go_grown⟩

set_option maxHeartbeats 1000000 in
set_option maxRecDepth 20000 in
theorem again_7 (x y z : Vl) (w : World) (hr : noW x = false) (ht : noW y = false) (hs : noW z = true) (hu : sameW z x = false) :
    Calls Try.prog 44 #[.agg #[.int .u64 x.a, .int .u64 x.b, .int .u64 x.c, .int .u64 x.d, .int .u64 x.l, .int .u64 y.a, .int .u64 y.b, .int .u64 y.c, .int .u64 y.d, .int .u64 y.l, .int .u64 z.a, .int .u64 z.b, .int .u64 z.c, .int .u64 z.d, .int .u64 z.l]] w fun e w' => e = .returned (.agg #[.int .u64 100, .int .u64 4800, .int .u64 0]) ∧ Below w.heap.size w w' := by
  have U53 := u53
  have I53 := i53
  have HR := fun V : World => nought0_any x y z V
  rw [hr] at HR
  have HU := fun V : World => same20_any x y z V
  rw [hu] at HU
  have HT := fun V : World => nought1_any x y z V
  rw [ht] at HT
  have HZ := fun V : World => nought2_any x y z V
  rw [hs] at HZ
  go_enter Try.func44, Try.ntmps44
  go_wp2_with (first | (refine wpList_load_row rfl 53 (.tmp 4) (by with_reducible rfl) _ rfl _ _ (0, 0) _ (Own.get (Own.new (Own.new (Own.nil w) (w.heap.size) rfl) (w.heap.size + 1) (by simp)) 1 rfl) U53 rfl I53 ?_))
  refine (HR _).mono ?_
  rintro e w1 ⟨rfl, hb1⟩
  have O1 := Own.grow' hb1 (Own.new (Own.new (Own.nil w) (w.heap.size) rfl) (w.heap.size + 1) (by simp))
  try simp only [List.setIfInBounds_toArray, List.set_cons_zero, List.set_cons_succ] at O1
  have bw1 : Below w.heap.size w w1 := Below.trans (by go_grown) (Below.mono hb1 (by first | omega | (simp; done) | (simp; omega)))
  have zw1 := Below.size hb1
  try simp only [World.size_alloc, World.size_drew, World.size_setCell] at zw1
  have c1x0 := Own.cell O1 0 rfl
  have f1x0 := Own.free O1 0 rfl
  have l1x0 := Own.lt O1 0 rfl
  have l1x0d0 := le_up 0 l1x0
  have l1x0d1 := le_up 1 l1x0
  simp only [upN] at l1x0d0 l1x0d1
  have c1x1 := Own.cell O1 1 rfl
  have f1x1 := Own.free O1 1 rfl
  have l1x1 := Own.lt O1 1 rfl
  have l1x1d0 := le_up 0 l1x1
  have l1x1d1 := le_up 1 l1x1
  simp only [upN] at l1x1d0 l1x1d1
  have HO1 := Lib.hid O1
  clear O1 hb1
  go_wp2_with (first | (refine wpList_load_row rfl 53 (.tmp 9) (by with_reducible rfl) _ rfl _ _ (0, 0) _ (Own.get HO1.out 1 rfl) U53 rfl I53 ?_))
  refine (HT _).mono ?_
  rintro e w2 ⟨rfl, hb2⟩
  have O2 := Own.grow' hb2 HO1.out
  try simp only [List.setIfInBounds_toArray, List.set_cons_zero, List.set_cons_succ] at O2
  have bw2 : Below w.heap.size w w2 := Below.trans (by go_grown) (Below.mono hb2 (by first | omega | (simp; done) | (simp; omega)))
  have zw2 := Below.size hb2
  try simp only [World.size_alloc, World.size_drew, World.size_setCell] at zw2
  clear c1x0 f1x0 l1x0 l1x0d0 l1x0d1 c1x1 f1x1 l1x1 l1x1d0 l1x1d1
  have c2x0 := Own.cell O2 0 rfl
  have f2x0 := Own.free O2 0 rfl
  have l2x0 := Own.lt O2 0 rfl
  have l2x0d0 := le_up 0 l2x0
  have l2x0d1 := le_up 1 l2x0
  simp only [upN] at l2x0d0 l2x0d1
  have c2x1 := Own.cell O2 1 rfl
  have f2x1 := Own.free O2 1 rfl
  have l2x1 := Own.lt O2 1 rfl
  have l2x1d0 := le_up 0 l2x1
  have l2x1d1 := le_up 1 l2x1
  simp only [upN] at l2x1d0 l2x1d1
  have HO2 := Lib.hid O2
  clear O2 hb2
  go_wp2_with (first | (refine wpList_load_row rfl 53 (.tmp 14) (by with_reducible rfl) _ rfl _ _ (0, 0) _ (Own.get HO2.out 1 rfl) U53 rfl I53 ?_))
  refine (HR _).mono ?_
  rintro e w3 ⟨rfl, hb3⟩
  have O3 := Own.grow' hb3 HO2.out
  try simp only [List.setIfInBounds_toArray, List.set_cons_zero, List.set_cons_succ] at O3
  have bw3 : Below w.heap.size w w3 := Below.trans (by go_grown) (Below.mono hb3 (by first | omega | (simp; done) | (simp; omega)))
  have zw3 := Below.size hb3
  try simp only [World.size_alloc, World.size_drew, World.size_setCell] at zw3
  clear c2x0 f2x0 l2x0 l2x0d0 l2x0d1 c2x1 f2x1 l2x1 l2x1d0 l2x1d1
  have c3x0 := Own.cell O3 0 rfl
  have f3x0 := Own.free O3 0 rfl
  have l3x0 := Own.lt O3 0 rfl
  have l3x0d0 := le_up 0 l3x0
  have l3x0d1 := le_up 1 l3x0
  simp only [upN] at l3x0d0 l3x0d1
  have c3x1 := Own.cell O3 1 rfl
  have f3x1 := Own.free O3 1 rfl
  have l3x1 := Own.lt O3 1 rfl
  have l3x1d0 := le_up 0 l3x1
  have l3x1d1 := le_up 1 l3x1
  simp only [upN] at l3x1d0 l3x1d1
  have HO3 := Lib.hid O3
  clear O3 hb3
  go_wp2_with (first | (refine wpList_load_row rfl 53 (.tmp 19) (by with_reducible rfl) _ rfl _ _ (0, 0) _ (Own.get HO3.out 1 rfl) U53 rfl I53 ?_))
  refine (HZ _).mono ?_
  rintro e w4 ⟨rfl, hb4⟩
  have O4 := Own.grow' hb4 HO3.out
  try simp only [List.setIfInBounds_toArray, List.set_cons_zero, List.set_cons_succ] at O4
  have bw4 : Below w.heap.size w w4 := Below.trans (by go_grown) (Below.mono hb4 (by first | omega | (simp; done) | (simp; omega)))
  have zw4 := Below.size hb4
  try simp only [World.size_alloc, World.size_drew, World.size_setCell] at zw4
  clear c3x0 f3x0 l3x0 l3x0d0 l3x0d1 c3x1 f3x1 l3x1 l3x1d0 l3x1d1
  have c4x0 := Own.cell O4 0 rfl
  have f4x0 := Own.free O4 0 rfl
  have l4x0 := Own.lt O4 0 rfl
  have l4x0d0 := le_up 0 l4x0
  have l4x0d1 := le_up 1 l4x0
  simp only [upN] at l4x0d0 l4x0d1
  have c4x1 := Own.cell O4 1 rfl
  have f4x1 := Own.free O4 1 rfl
  have l4x1 := Own.lt O4 1 rfl
  have l4x1d0 := le_up 0 l4x1
  have l4x1d1 := le_up 1 l4x1
  simp only [upN] at l4x1d0 l4x1d1
  have HO4 := Lib.hid O4
  clear O4 hb4
  go_wp2_with (first | (refine wpList_load_row rfl 53 (.tmp 24) (by with_reducible rfl) _ rfl _ _ (0, 0) _ (Own.get (Own.set HO4.out 0 rfl (Ne1.cons (by first | omega | (simp; omega)) Ne1.nil)) 1 rfl) U53 rfl I53 ?_))
  refine (HU _).mono ?_
  rintro e w5 ⟨rfl, hb5⟩
  have O5 := Own.grow' hb5 (Own.set HO4.out 0 rfl (Ne1.cons (by first | omega | (simp; omega)) Ne1.nil))
  try simp only [List.setIfInBounds_toArray, List.set_cons_zero, List.set_cons_succ] at O5
  have bw5 : Below w.heap.size w w5 := Below.trans (by go_grown) (Below.mono hb5 (by first | omega | (simp; done) | (simp; omega)))
  have zw5 := Below.size hb5
  try simp only [World.size_alloc, World.size_drew, World.size_setCell] at zw5
  clear c4x0 f4x0 l4x0 l4x0d0 l4x0d1 c4x1 f4x1 l4x1 l4x1d0 l4x1d1
  have c5x0 := Own.cell O5 0 rfl
  have f5x0 := Own.free O5 0 rfl
  have l5x0 := Own.lt O5 0 rfl
  have l5x0d0 := le_up 0 l5x0
  have l5x0d1 := le_up 1 l5x0
  simp only [upN] at l5x0d0 l5x0d1
  have c5x1 := Own.cell O5 1 rfl
  have f5x1 := Own.free O5 1 rfl
  have l5x1 := Own.lt O5 1 rfl
  have l5x1d0 := le_up 0 l5x1
  have l5x1d1 := le_up 1 l5x1
  simp only [upN] at l5x1d0 l5x1d1
  have HO5 := Lib.hid O5
  clear O5 hb5
  go_wp2_with fail
  refine bodyPost_ret (v := .agg #[.int .u64 100, .int .u64 4800, .int .u64 0]) (by simp [results, Try.results44, go_sem, *]) rfl ?_
  exact ⟨rfl, by go_grown⟩

set_option maxHeartbeats 1000000 in
set_option maxRecDepth 20000 in
theorem again_8 (x y z : Vl) (w : World) (hr : noW x = false) (ht : noW y = false) (hs : noW z = false) (hu : sameW z x = true) :
    Calls Try.prog 44 #[.agg #[.int .u64 x.a, .int .u64 x.b, .int .u64 x.c, .int .u64 x.d, .int .u64 x.l, .int .u64 y.a, .int .u64 y.b, .int .u64 y.c, .int .u64 y.d, .int .u64 y.l, .int .u64 z.a, .int .u64 z.b, .int .u64 z.c, .int .u64 z.d, .int .u64 z.l]] w fun e w' => e = .returned (.agg #[.int .u64 100, .int .u64 2800, .int .u64 0]) ∧ Below w.heap.size w w' := by
  have U53 := u53
  have I53 := i53
  have HR := fun V : World => nought0_any x y z V
  rw [hr] at HR
  have HU := fun V : World => same20_any x y z V
  rw [hu] at HU
  have HT := fun V : World => nought1_any x y z V
  rw [ht] at HT
  have HZ := fun V : World => nought2_any x y z V
  rw [hs] at HZ
  go_enter Try.func44, Try.ntmps44
  go_wp2_with (first | (refine wpList_load_row rfl 53 (.tmp 4) (by with_reducible rfl) _ rfl _ _ (0, 0) _ (Own.get (Own.new (Own.new (Own.nil w) (w.heap.size) rfl) (w.heap.size + 1) (by simp)) 1 rfl) U53 rfl I53 ?_))
  refine (HR _).mono ?_
  rintro e w1 ⟨rfl, hb1⟩
  have O1 := Own.grow' hb1 (Own.new (Own.new (Own.nil w) (w.heap.size) rfl) (w.heap.size + 1) (by simp))
  try simp only [List.setIfInBounds_toArray, List.set_cons_zero, List.set_cons_succ] at O1
  have bw1 : Below w.heap.size w w1 := Below.trans (by go_grown) (Below.mono hb1 (by first | omega | (simp; done) | (simp; omega)))
  have zw1 := Below.size hb1
  try simp only [World.size_alloc, World.size_drew, World.size_setCell] at zw1
  have c1x0 := Own.cell O1 0 rfl
  have f1x0 := Own.free O1 0 rfl
  have l1x0 := Own.lt O1 0 rfl
  have l1x0d0 := le_up 0 l1x0
  have l1x0d1 := le_up 1 l1x0
  simp only [upN] at l1x0d0 l1x0d1
  have c1x1 := Own.cell O1 1 rfl
  have f1x1 := Own.free O1 1 rfl
  have l1x1 := Own.lt O1 1 rfl
  have l1x1d0 := le_up 0 l1x1
  have l1x1d1 := le_up 1 l1x1
  simp only [upN] at l1x1d0 l1x1d1
  have HO1 := Lib.hid O1
  clear O1 hb1
  go_wp2_with (first | (refine wpList_load_row rfl 53 (.tmp 9) (by with_reducible rfl) _ rfl _ _ (0, 0) _ (Own.get HO1.out 1 rfl) U53 rfl I53 ?_))
  refine (HT _).mono ?_
  rintro e w2 ⟨rfl, hb2⟩
  have O2 := Own.grow' hb2 HO1.out
  try simp only [List.setIfInBounds_toArray, List.set_cons_zero, List.set_cons_succ] at O2
  have bw2 : Below w.heap.size w w2 := Below.trans (by go_grown) (Below.mono hb2 (by first | omega | (simp; done) | (simp; omega)))
  have zw2 := Below.size hb2
  try simp only [World.size_alloc, World.size_drew, World.size_setCell] at zw2
  clear c1x0 f1x0 l1x0 l1x0d0 l1x0d1 c1x1 f1x1 l1x1 l1x1d0 l1x1d1
  have c2x0 := Own.cell O2 0 rfl
  have f2x0 := Own.free O2 0 rfl
  have l2x0 := Own.lt O2 0 rfl
  have l2x0d0 := le_up 0 l2x0
  have l2x0d1 := le_up 1 l2x0
  simp only [upN] at l2x0d0 l2x0d1
  have c2x1 := Own.cell O2 1 rfl
  have f2x1 := Own.free O2 1 rfl
  have l2x1 := Own.lt O2 1 rfl
  have l2x1d0 := le_up 0 l2x1
  have l2x1d1 := le_up 1 l2x1
  simp only [upN] at l2x1d0 l2x1d1
  have HO2 := Lib.hid O2
  clear O2 hb2
  go_wp2_with (first | (refine wpList_load_row rfl 53 (.tmp 14) (by with_reducible rfl) _ rfl _ _ (0, 0) _ (Own.get HO2.out 1 rfl) U53 rfl I53 ?_))
  refine (HR _).mono ?_
  rintro e w3 ⟨rfl, hb3⟩
  have O3 := Own.grow' hb3 HO2.out
  try simp only [List.setIfInBounds_toArray, List.set_cons_zero, List.set_cons_succ] at O3
  have bw3 : Below w.heap.size w w3 := Below.trans (by go_grown) (Below.mono hb3 (by first | omega | (simp; done) | (simp; omega)))
  have zw3 := Below.size hb3
  try simp only [World.size_alloc, World.size_drew, World.size_setCell] at zw3
  clear c2x0 f2x0 l2x0 l2x0d0 l2x0d1 c2x1 f2x1 l2x1 l2x1d0 l2x1d1
  have c3x0 := Own.cell O3 0 rfl
  have f3x0 := Own.free O3 0 rfl
  have l3x0 := Own.lt O3 0 rfl
  have l3x0d0 := le_up 0 l3x0
  have l3x0d1 := le_up 1 l3x0
  simp only [upN] at l3x0d0 l3x0d1
  have c3x1 := Own.cell O3 1 rfl
  have f3x1 := Own.free O3 1 rfl
  have l3x1 := Own.lt O3 1 rfl
  have l3x1d0 := le_up 0 l3x1
  have l3x1d1 := le_up 1 l3x1
  simp only [upN] at l3x1d0 l3x1d1
  have HO3 := Lib.hid O3
  clear O3 hb3
  go_wp2_with (first | (refine wpList_load_row rfl 53 (.tmp 19) (by with_reducible rfl) _ rfl _ _ (0, 0) _ (Own.get HO3.out 1 rfl) U53 rfl I53 ?_))
  refine (HZ _).mono ?_
  rintro e w4 ⟨rfl, hb4⟩
  have O4 := Own.grow' hb4 HO3.out
  try simp only [List.setIfInBounds_toArray, List.set_cons_zero, List.set_cons_succ] at O4
  have bw4 : Below w.heap.size w w4 := Below.trans (by go_grown) (Below.mono hb4 (by first | omega | (simp; done) | (simp; omega)))
  have zw4 := Below.size hb4
  try simp only [World.size_alloc, World.size_drew, World.size_setCell] at zw4
  clear c3x0 f3x0 l3x0 l3x0d0 l3x0d1 c3x1 f3x1 l3x1 l3x1d0 l3x1d1
  have c4x0 := Own.cell O4 0 rfl
  have f4x0 := Own.free O4 0 rfl
  have l4x0 := Own.lt O4 0 rfl
  have l4x0d0 := le_up 0 l4x0
  have l4x0d1 := le_up 1 l4x0
  simp only [upN] at l4x0d0 l4x0d1
  have c4x1 := Own.cell O4 1 rfl
  have f4x1 := Own.free O4 1 rfl
  have l4x1 := Own.lt O4 1 rfl
  have l4x1d0 := le_up 0 l4x1
  have l4x1d1 := le_up 1 l4x1
  simp only [upN] at l4x1d0 l4x1d1
  have HO4 := Lib.hid O4
  clear O4 hb4
  go_wp2_with (first | (refine wpList_load_row rfl 53 (.tmp 24) (by with_reducible rfl) _ rfl _ _ (0, 0) _ (Own.get HO4.out 1 rfl) U53 rfl I53 ?_))
  refine (HU _).mono ?_
  rintro e w5 ⟨rfl, hb5⟩
  have O5 := Own.grow' hb5 HO4.out
  try simp only [List.setIfInBounds_toArray, List.set_cons_zero, List.set_cons_succ] at O5
  have bw5 : Below w.heap.size w w5 := Below.trans (by go_grown) (Below.mono hb5 (by first | omega | (simp; done) | (simp; omega)))
  have zw5 := Below.size hb5
  try simp only [World.size_alloc, World.size_drew, World.size_setCell] at zw5
  clear c4x0 f4x0 l4x0 l4x0d0 l4x0d1 c4x1 f4x1 l4x1 l4x1d0 l4x1d1
  have c5x0 := Own.cell O5 0 rfl
  have f5x0 := Own.free O5 0 rfl
  have l5x0 := Own.lt O5 0 rfl
  have l5x0d0 := le_up 0 l5x0
  have l5x0d1 := le_up 1 l5x0
  simp only [upN] at l5x0d0 l5x0d1
  have c5x1 := Own.cell O5 1 rfl
  have f5x1 := Own.free O5 1 rfl
  have l5x1 := Own.lt O5 1 rfl
  have l5x1d0 := le_up 0 l5x1
  have l5x1d1 := le_up 1 l5x1
  simp only [upN] at l5x1d0 l5x1d1
  have HO5 := Lib.hid O5
  clear O5 hb5
  go_wp2_with fail
  refine wp_region_grow w.heap.size 9 0 0 [(0, 0, 134217728, 4), (1, 1, 268435456, 134217728), (2, 0, 536870912, 2), (3, 4, 1073741824, 536870912), (4, 8, 2147483648, 1073741824), (5, 0, 4294967296, 0), (6, 48, 8589934592, 6442450944), (7, 66, 17179869184, 8858370048), (8, 255, 34359738368, 4), (9, 511, 0, 51539607552)] [(.p 0, 1), (.p 1, 3), (.p 2, 7), (.p 3, 15), (.p 4, 31), (.p 5, 63), (.p 6, 127), (.p 7, 255), (.p 8, 511)] [(9, 1023)] _ (fun p hp => hp) (by first | omega | (simp; done) | (simp; omega)) (by kernel_rfl) (by kernel_rfl) HO5.out ?_
  refine wpG_pure (i := 0) (v := ?v6x0) rfl rfl (by rfl) (fun w hB hG K hK => ?h6x0) ?_
  case h6x0 =>
    go_wp2_with fail
    exact hK _ (Below.refl _ _)
  simp only [List.set_cons_zero, List.set_cons_succ]
  refine wpG_pure (i := 1) (v := ?v6x1) rfl rfl (by rfl) (fun w hB hG K hK => ?h6x1) ?_
  case h6x1 =>
    have cx := Own.cell hG 0 rfl
    go_wp2_with fail
    exact hK _ (Below.refl _ _)
  simp only [List.set_cons_zero, List.set_cons_succ]
  refine wpG_pure (i := 2) (v := ?v6x2) rfl rfl (by rfl) (fun w hB hG K hK => ?h6x2) ?_
  case h6x2 =>
    go_wp2_with fail
    exact hK _ (Below.refl _ _)
  simp only [List.set_cons_zero, List.set_cons_succ]
  refine wpG_pure (i := 3) (v := ?v6x3) rfl rfl (by rfl) (fun w hB hG K hK => ?h6x3) ?_
  case h6x3 =>
    refine wp_load_row 53 (.tmp 29) (by with_reducible rfl) _ rfl _ _ (0, 0) _ (Own.get hG 1 rfl) U53 rfl I53 ?_
    exact hK _ (Below.refl _ _)
  simp only [List.set_cons_zero, List.set_cons_succ]
  refine wpG_pure (i := 4) (v := ?v6x4) rfl rfl (by rfl) (fun w hB hG K hK => ?h6x4) ?_
  case h6x4 =>
    go_wp2_with fail
    refine (HR _).mono ?_
    rintro e wx ⟨rfl, hbx⟩
    exact hK _ hbx
  simp only [List.set_cons_zero, List.set_cons_succ]
  refine wpG_pure (i := 5) (v := ?v6x5) rfl rfl (by rfl) (fun w hB hG K hK => ?h6x5) ?_
  case h6x5 =>
    go_wp2_with fail
    exact hK _ (Below.refl _ _)
  simp only [List.set_cons_zero, List.set_cons_succ]
  refine wpG_pure (i := 6) (v := ?v6x6) rfl rfl (by rfl) (fun w hB hG K hK => ?h6x6) ?_
  case h6x6 =>
    go_wp2_with fail
    refine (either_f 2800 19900 _).mono ?_
    rintro e wx ⟨rfl, hbx⟩
    exact hK _ hbx
  simp only [List.set_cons_zero, List.set_cons_succ]
  refine wpG_pure (i := 7) (v := ?v6x7) rfl rfl (by rfl) (fun w hB hG K hK => ?h6x7) ?_
  case h6x7 =>
    go_wp2_with fail
    exact hK _ (Below.refl _ _)
  simp only [List.set_cons_zero, List.set_cons_succ]
  refine wpG_pure (i := 8) (v := ?v6x8) rfl rfl (by rfl) (fun w hB hG K hK => ?h6x8) ?_
  case h6x8 =>
    go_wp2_with fail
    exact hK _ (Below.refl _ _)
  simp only [List.set_cons_zero, List.set_cons_succ]
  refine wpG_nil (fun w6 hb6 hG6 => ?_)
  simp only [List.append_eq, List.cons_append, List.nil_append, List.drop_succ_cons, List.drop_zero, List.drop_nil]
  have O6 := Own.of hG6
  try simp only [List.setIfInBounds_toArray, List.set_cons_zero, List.set_cons_succ] at O6
  have bw6 : Below w.heap.size w w6 := Below.trans (by go_grown) (Below.mono hb6 (by first | omega | (simp; done) | (simp; omega)))
  have zw6 := Below.size hb6
  try simp only [World.size_alloc, World.size_drew, World.size_setCell] at zw6
  clear c5x0 f5x0 l5x0 l5x0d0 l5x0d1 c5x1 f5x1 l5x1 l5x1d0 l5x1d1
  have c6x0 := Own.cell O6 0 rfl
  have f6x0 := Own.free O6 0 rfl
  have l6x0 := Own.lt O6 0 rfl
  have l6x0d0 := le_up 0 l6x0
  have l6x0d1 := le_up 1 l6x0
  simp only [upN] at l6x0d0 l6x0d1
  have c6x1 := Own.cell O6 1 rfl
  have f6x1 := Own.free O6 1 rfl
  have l6x1 := Own.lt O6 1 rfl
  have l6x1d0 := le_up 0 l6x1
  have l6x1d1 := le_up 1 l6x1
  simp only [upN] at l6x1d0 l6x1d1
  have HO6 := Lib.hid O6
  clear O6 hb6
  go_wp2_with (first | (refine wpList_load_row rfl 53 (.tmp 29) (by with_reducible rfl) _ rfl _ _ (0, 0) _ (Own.get HO5.out 1 rfl) U53 rfl I53 ?_))
  refine bodyPost_ret (v := .agg #[.int .u64 100, .int .u64 2800, .int .u64 0]) (by simp [results, Try.results44, go_sem, *]) rfl ?_
  exact ⟨rfl, by go_grown⟩

set_option maxHeartbeats 1000000 in
set_option maxRecDepth 20000 in
theorem again_9 (x y z : Vl) (w : World) (hr : noW x = false) (ht : noW y = false) (hs : noW z = false) (hu : sameW z x = false) :
    Calls Try.prog 44 #[.agg #[.int .u64 x.a, .int .u64 x.b, .int .u64 x.c, .int .u64 x.d, .int .u64 x.l, .int .u64 y.a, .int .u64 y.b, .int .u64 y.c, .int .u64 y.d, .int .u64 y.l, .int .u64 z.a, .int .u64 z.b, .int .u64 z.c, .int .u64 z.d, .int .u64 z.l]] w fun e w' => e = .returned (.agg #[.int .u64 100, .int .u64 0, .int .u64 0]) ∧ Below w.heap.size w w' := by
  have U53 := u53
  have I53 := i53
  have HR := fun V : World => nought0_any x y z V
  rw [hr] at HR
  have HU := fun V : World => same20_any x y z V
  rw [hu] at HU
  have HT := fun V : World => nought1_any x y z V
  rw [ht] at HT
  have HZ := fun V : World => nought2_any x y z V
  rw [hs] at HZ
  go_enter Try.func44, Try.ntmps44
  go_wp2_with (first | (refine wpList_load_row rfl 53 (.tmp 4) (by with_reducible rfl) _ rfl _ _ (0, 0) _ (Own.get (Own.new (Own.new (Own.nil w) (w.heap.size) rfl) (w.heap.size + 1) (by simp)) 1 rfl) U53 rfl I53 ?_))
  refine (HR _).mono ?_
  rintro e w1 ⟨rfl, hb1⟩
  have O1 := Own.grow' hb1 (Own.new (Own.new (Own.nil w) (w.heap.size) rfl) (w.heap.size + 1) (by simp))
  try simp only [List.setIfInBounds_toArray, List.set_cons_zero, List.set_cons_succ] at O1
  have bw1 : Below w.heap.size w w1 := Below.trans (by go_grown) (Below.mono hb1 (by first | omega | (simp; done) | (simp; omega)))
  have zw1 := Below.size hb1
  try simp only [World.size_alloc, World.size_drew, World.size_setCell] at zw1
  have c1x0 := Own.cell O1 0 rfl
  have f1x0 := Own.free O1 0 rfl
  have l1x0 := Own.lt O1 0 rfl
  have l1x0d0 := le_up 0 l1x0
  have l1x0d1 := le_up 1 l1x0
  simp only [upN] at l1x0d0 l1x0d1
  have c1x1 := Own.cell O1 1 rfl
  have f1x1 := Own.free O1 1 rfl
  have l1x1 := Own.lt O1 1 rfl
  have l1x1d0 := le_up 0 l1x1
  have l1x1d1 := le_up 1 l1x1
  simp only [upN] at l1x1d0 l1x1d1
  have HO1 := Lib.hid O1
  clear O1 hb1
  go_wp2_with (first | (refine wpList_load_row rfl 53 (.tmp 9) (by with_reducible rfl) _ rfl _ _ (0, 0) _ (Own.get HO1.out 1 rfl) U53 rfl I53 ?_))
  refine (HT _).mono ?_
  rintro e w2 ⟨rfl, hb2⟩
  have O2 := Own.grow' hb2 HO1.out
  try simp only [List.setIfInBounds_toArray, List.set_cons_zero, List.set_cons_succ] at O2
  have bw2 : Below w.heap.size w w2 := Below.trans (by go_grown) (Below.mono hb2 (by first | omega | (simp; done) | (simp; omega)))
  have zw2 := Below.size hb2
  try simp only [World.size_alloc, World.size_drew, World.size_setCell] at zw2
  clear c1x0 f1x0 l1x0 l1x0d0 l1x0d1 c1x1 f1x1 l1x1 l1x1d0 l1x1d1
  have c2x0 := Own.cell O2 0 rfl
  have f2x0 := Own.free O2 0 rfl
  have l2x0 := Own.lt O2 0 rfl
  have l2x0d0 := le_up 0 l2x0
  have l2x0d1 := le_up 1 l2x0
  simp only [upN] at l2x0d0 l2x0d1
  have c2x1 := Own.cell O2 1 rfl
  have f2x1 := Own.free O2 1 rfl
  have l2x1 := Own.lt O2 1 rfl
  have l2x1d0 := le_up 0 l2x1
  have l2x1d1 := le_up 1 l2x1
  simp only [upN] at l2x1d0 l2x1d1
  have HO2 := Lib.hid O2
  clear O2 hb2
  go_wp2_with (first | (refine wpList_load_row rfl 53 (.tmp 14) (by with_reducible rfl) _ rfl _ _ (0, 0) _ (Own.get HO2.out 1 rfl) U53 rfl I53 ?_))
  refine (HR _).mono ?_
  rintro e w3 ⟨rfl, hb3⟩
  have O3 := Own.grow' hb3 HO2.out
  try simp only [List.setIfInBounds_toArray, List.set_cons_zero, List.set_cons_succ] at O3
  have bw3 : Below w.heap.size w w3 := Below.trans (by go_grown) (Below.mono hb3 (by first | omega | (simp; done) | (simp; omega)))
  have zw3 := Below.size hb3
  try simp only [World.size_alloc, World.size_drew, World.size_setCell] at zw3
  clear c2x0 f2x0 l2x0 l2x0d0 l2x0d1 c2x1 f2x1 l2x1 l2x1d0 l2x1d1
  have c3x0 := Own.cell O3 0 rfl
  have f3x0 := Own.free O3 0 rfl
  have l3x0 := Own.lt O3 0 rfl
  have l3x0d0 := le_up 0 l3x0
  have l3x0d1 := le_up 1 l3x0
  simp only [upN] at l3x0d0 l3x0d1
  have c3x1 := Own.cell O3 1 rfl
  have f3x1 := Own.free O3 1 rfl
  have l3x1 := Own.lt O3 1 rfl
  have l3x1d0 := le_up 0 l3x1
  have l3x1d1 := le_up 1 l3x1
  simp only [upN] at l3x1d0 l3x1d1
  have HO3 := Lib.hid O3
  clear O3 hb3
  go_wp2_with (first | (refine wpList_load_row rfl 53 (.tmp 19) (by with_reducible rfl) _ rfl _ _ (0, 0) _ (Own.get HO3.out 1 rfl) U53 rfl I53 ?_))
  refine (HZ _).mono ?_
  rintro e w4 ⟨rfl, hb4⟩
  have O4 := Own.grow' hb4 HO3.out
  try simp only [List.setIfInBounds_toArray, List.set_cons_zero, List.set_cons_succ] at O4
  have bw4 : Below w.heap.size w w4 := Below.trans (by go_grown) (Below.mono hb4 (by first | omega | (simp; done) | (simp; omega)))
  have zw4 := Below.size hb4
  try simp only [World.size_alloc, World.size_drew, World.size_setCell] at zw4
  clear c3x0 f3x0 l3x0 l3x0d0 l3x0d1 c3x1 f3x1 l3x1 l3x1d0 l3x1d1
  have c4x0 := Own.cell O4 0 rfl
  have f4x0 := Own.free O4 0 rfl
  have l4x0 := Own.lt O4 0 rfl
  have l4x0d0 := le_up 0 l4x0
  have l4x0d1 := le_up 1 l4x0
  simp only [upN] at l4x0d0 l4x0d1
  have c4x1 := Own.cell O4 1 rfl
  have f4x1 := Own.free O4 1 rfl
  have l4x1 := Own.lt O4 1 rfl
  have l4x1d0 := le_up 0 l4x1
  have l4x1d1 := le_up 1 l4x1
  simp only [upN] at l4x1d0 l4x1d1
  have HO4 := Lib.hid O4
  clear O4 hb4
  go_wp2_with (first | (refine wpList_load_row rfl 53 (.tmp 24) (by with_reducible rfl) _ rfl _ _ (0, 0) _ (Own.get HO4.out 1 rfl) U53 rfl I53 ?_))
  refine (HU _).mono ?_
  rintro e w5 ⟨rfl, hb5⟩
  have O5 := Own.grow' hb5 HO4.out
  try simp only [List.setIfInBounds_toArray, List.set_cons_zero, List.set_cons_succ] at O5
  have bw5 : Below w.heap.size w w5 := Below.trans (by go_grown) (Below.mono hb5 (by first | omega | (simp; done) | (simp; omega)))
  have zw5 := Below.size hb5
  try simp only [World.size_alloc, World.size_drew, World.size_setCell] at zw5
  clear c4x0 f4x0 l4x0 l4x0d0 l4x0d1 c4x1 f4x1 l4x1 l4x1d0 l4x1d1
  have c5x0 := Own.cell O5 0 rfl
  have f5x0 := Own.free O5 0 rfl
  have l5x0 := Own.lt O5 0 rfl
  have l5x0d0 := le_up 0 l5x0
  have l5x0d1 := le_up 1 l5x0
  simp only [upN] at l5x0d0 l5x0d1
  have c5x1 := Own.cell O5 1 rfl
  have f5x1 := Own.free O5 1 rfl
  have l5x1 := Own.lt O5 1 rfl
  have l5x1d0 := le_up 0 l5x1
  have l5x1d1 := le_up 1 l5x1
  simp only [upN] at l5x1d0 l5x1d1
  have HO5 := Lib.hid O5
  clear O5 hb5
  go_wp2_with fail
  refine bodyPost_ret (v := .agg #[.int .u64 100, .int .u64 0, .int .u64 0]) (by simp [results, Try.results44, go_sem, *]) rfl ?_
  exact ⟨rfl, by go_grown⟩
end Go.Proofs.Ytiglfbnicihpmaa
