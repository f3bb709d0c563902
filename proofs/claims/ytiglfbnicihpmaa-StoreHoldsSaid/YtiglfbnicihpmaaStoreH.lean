/- The law StoreCosts: its walks. -/
import Derived.Test.YtiglfbnicihpmaaStoreF
set_option linter.unusedVariables false
set_option linter.unusedSimpArgs false
namespace Go.Proofs.Ytiglfbnicihpmaa
open Go.RowKit
theorem refAddr_any (c : Bool) (w : World) : Calls Try.prog 9 #[.bool c] w fun e w' => e = .returned (.int .u64 (if c then 2600 else 100)) ∧ Below w.heap.size w w' := by
  cases c
  · exact refAddr_F w
  · exact refAddr_T w
theorem refSlot_any (c : Bool) (w : World) : Calls Try.prog 11 #[.bool c] w fun e w' => e = .returned (.int .u64 (if c then 2100 else 100)) ∧ Below w.heap.size w w' := by
  cases c
  · exact refSlot_F w
  · exact refSlot_T w
theorem refChange_any (cold : Bool) (x y z : Vl) (w : World) (hU : U x.l) :
    Calls Try.prog 7 #[.bool cold, .agg #[.int .u64 x.a, .int .u64 x.b, .int .u64 x.c, .int .u64 x.d, .int .u64 x.l], .agg #[.int .u64 y.a, .int .u64 y.b, .int .u64 y.c, .int .u64 y.d, .int .u64 y.l], .agg #[.int .u64 z.a, .int .u64 z.b, .int .u64 z.c, .int .u64 z.d, .int .u64 z.l]] w fun e w' => e = .returned (.tuple #[costV (exC x y z + extraI cold) (100 + extraI cold) (20000 + extraI cold) (lab3 x y z), costV (exM x y z) 0 19900 (lab3 x y z), costV (exL x y z) 0 4800 (lab3 x y z)]) ∧ Below w.heap.size w w' := by
  have h1 := exC_bd x y z
  have hl : bits .or .u64 (bits .or .u64 x.l y.l) z.l = lab3 x y z := by
    unfold lab3 joinL
    simp only [List.foldl_cons, List.foldl_nil, orI_zero hU]
    rfl
  unfold costV bdI extraI
  by_cases h : lab3 x y z = 0 <;> cases cold <;> simp only [h, if_true, if_false, Bool.false_eq_true, Int.add_zero, reduceCtorEq, Int.reduceAdd]
  · have := refChange_Fz x y z _ _ _ _ w (fun V => exact_any x y z V) h1.1 h1.2 hl h
    exact this
  · have := refChange_Tz x y z _ _ _ _ w (fun V => exact_any x y z V) h1.1 h1.2 hl h
    exact this
  · have := refChange_Fl x y z _ _ _ _ w (fun V => exact_any x y z V) h1.1 h1.2 hl h
    exact this
  · have := refChange_Tl x y z _ _ _ _ w (fun V => exact_any x y z V) h1.1 h1.2 hl h
    exact this

set_option maxHeartbeats 1000000 in
set_option maxRecDepth 20000 in
theorem addr_any (c : Bool) (w : World)  :
    Calls Try.prog 8 #[.bool c] w fun e w' => e = .returned (.int .u64 (if c then 2600 else 100)) ∧ Below w.heap.size w w' := by
  have HE := Lib.hid (fun V : World => either_any c 100 2600 V)
  generalize (if c = true then (2600 : Int) else 100) = E at *
  go_enter Try.func8, Try.ntmps8
  go_wp2_with fail
  refine (HE.out _).mono ?_
  rintro e w1 ⟨rfl, hb1⟩
  have O1 := Own.grow' hb1 (Own.nil w)
  try simp only [List.setIfInBounds_toArray, List.set_cons_zero, List.set_cons_succ] at O1
  have bw1 : Below w.heap.size w w1 := Below.trans (by go_grown) (Below.mono hb1 (by first | omega | (simp; done) | (simp; omega)))
  have zw1 := Below.size hb1
  try simp only [World.size_alloc, World.size_drew, World.size_setCell] at zw1
  have HO1 := Lib.hid O1
  clear O1 hb1
  go_wp2_with fail
  go_ret
  exact ⟨rfl, by go_grown⟩

set_option maxHeartbeats 1000000 in
set_option maxRecDepth 20000 in
theorem slot_any (c : Bool) (w : World)  :
    Calls Try.prog 10 #[.bool c] w fun e w' => e = .returned (.int .u64 (if c then 2100 else 100)) ∧ Below w.heap.size w w' := by
  have HE := Lib.hid (fun V : World => either_any c 100 2100 V)
  generalize (if c = true then (2100 : Int) else 100) = E at *
  go_enter Try.func10, Try.ntmps10
  go_wp2_with fail
  refine (HE.out _).mono ?_
  rintro e w1 ⟨rfl, hb1⟩
  have O1 := Own.grow' hb1 (Own.nil w)
  try simp only [List.setIfInBounds_toArray, List.set_cons_zero, List.set_cons_succ] at O1
  have bw1 : Below w.heap.size w w1 := Below.trans (by go_grown) (Below.mono hb1 (by first | omega | (simp; done) | (simp; omega)))
  have zw1 := Below.size hb1
  try simp only [World.size_alloc, World.size_drew, World.size_setCell] at zw1
  have HO1 := Lib.hid O1
  clear O1 hb1
  go_wp2_with fail
  go_ret
  exact ⟨rfl, by go_grown⟩

set_option maxHeartbeats 1000000 in
set_option maxRecDepth 20000 in
theorem of_any (n : Int) (w : World)  :
    Calls Try.prog 26 #[.int .u64 n] w fun e w' => e = .returned (.agg #[.int .u64 n, .int .u64 0, .int .u64 0, .int .u64 0]) ∧ Below w.heap.size w w' := by
  go_enter Try.func26, Try.ntmps26
  go_wp2_with fail
  refine bodyPost_ret (v := .agg #[.int .u64 n, .int .u64 0, .int .u64 0, .int .u64 0]) (by simp [results, Try.results26, go_sem, *]) rfl ?_
  exact ⟨rfl, by go_grown⟩

set_option maxHeartbeats 4000000 in
set_option maxRecDepth 20000 in
theorem isT_any (cold : Bool) (a b c n m l : Int) (w : World) (hc : ∀ V, Calls Try.prog 6 #[.bool cold, .agg #[.int .u64 a, .int .u64 0, .int .u64 0, .int .u64 0, .int .u64 0], .agg #[.int .u64 b, .int .u64 0, .int .u64 0, .int .u64 0, .int .u64 0], .agg #[.int .u64 c, .int .u64 0, .int .u64 0, .int .u64 0, .int .u64 0]] V fun e w' => e = .returned (.tuple #[.agg #[.int .u64 n, .int .u64 n, .int .u64 n, .int .u64 0], .agg #[.int .u64 m, .int .u64 m, .int .u64 m, .int .u64 0], .agg #[.int .u64 l, .int .u64 l, .int .u64 l, .int .u64 0]]) ∧ Below V.heap.size V w') :
    Calls Try.prog 27 #[.bool cold, .int .u64 a, .int .u64 b, .int .u64 c, .agg #[.int .u64 n, .int .u64 m, .int .u64 l]] w fun e w' => e = .returned (.bool true) ∧ Below w.heap.size w w' := by
  have HC := Lib.hid hc
  clear hc
  go_enter Try.func27, Try.ntmps27
  go_wp2_with fail
  refine (of_any a _).mono ?_
  rintro e w1 ⟨rfl, hb1⟩
  have O1 := Own.grow' hb1 (Own.new (Own.nil w) (w.heap.size) (by first | rfl | simp))
  try simp only [List.setIfInBounds_toArray, List.set_cons_zero, List.set_cons_succ] at O1
  have bw1 : Below w.heap.size w w1 := Below.trans (by go_grown) (Below.mono hb1 (by first | omega | (simp; done) | (simp; omega)))
  have zw1 := Below.size hb1
  try simp only [World.size_alloc, World.size_drew, World.size_setCell] at zw1
  have c1x0 := Own.cell O1 0 rfl
  have f1x0 := Own.free O1 0 rfl
  have l1x0 := Own.lt O1 0 rfl
  have l1x0d0 := le_up 0 l1x0
  have l1x0d1 := le_up 1 l1x0
  simp only [upN] at l1x0d0 l1x0d1
  have HO1 := Lib.hid O1
  clear O1 hb1
  go_wp2_with fail
  refine (of_any b _).mono ?_
  rintro e w2 ⟨rfl, hb2⟩
  have O2 := Own.grow' hb2 HO1.out
  try simp only [List.setIfInBounds_toArray, List.set_cons_zero, List.set_cons_succ] at O2
  have bw2 : Below w.heap.size w w2 := Below.trans (by go_grown) (Below.mono hb2 (by first | omega | (simp; done) | (simp; omega)))
  have zw2 := Below.size hb2
  try simp only [World.size_alloc, World.size_drew, World.size_setCell] at zw2
  clear c1x0 f1x0 l1x0 l1x0d0 l1x0d1
  have c2x0 := Own.cell O2 0 rfl
  have f2x0 := Own.free O2 0 rfl
  have l2x0 := Own.lt O2 0 rfl
  have l2x0d0 := le_up 0 l2x0
  have l2x0d1 := le_up 1 l2x0
  simp only [upN] at l2x0d0 l2x0d1
  have HO2 := Lib.hid O2
  clear O2 hb2
  go_wp2_with fail
  refine (of_any c _).mono ?_
  rintro e w3 ⟨rfl, hb3⟩
  have O3 := Own.grow' hb3 HO2.out
  try simp only [List.setIfInBounds_toArray, List.set_cons_zero, List.set_cons_succ] at O3
  have bw3 : Below w.heap.size w w3 := Below.trans (by go_grown) (Below.mono hb3 (by first | omega | (simp; done) | (simp; omega)))
  have zw3 := Below.size hb3
  try simp only [World.size_alloc, World.size_drew, World.size_setCell] at zw3
  clear c2x0 f2x0 l2x0 l2x0d0 l2x0d1
  have c3x0 := Own.cell O3 0 rfl
  have f3x0 := Own.free O3 0 rfl
  have l3x0 := Own.lt O3 0 rfl
  have l3x0d0 := le_up 0 l3x0
  have l3x0d1 := le_up 1 l3x0
  simp only [upN] at l3x0d0 l3x0d1
  have HO3 := Lib.hid O3
  clear O3 hb3
  go_wp2_with fail
  refine (HC.out _).mono ?_
  rintro e w4 ⟨rfl, hb4⟩
  have O4 := Own.grow' hb4 HO3.out
  try simp only [List.setIfInBounds_toArray, List.set_cons_zero, List.set_cons_succ] at O4
  have bw4 : Below w.heap.size w w4 := Below.trans (by go_grown) (Below.mono hb4 (by first | omega | (simp; done) | (simp; omega)))
  have zw4 := Below.size hb4
  try simp only [World.size_alloc, World.size_drew, World.size_setCell] at zw4
  clear c3x0 f3x0 l3x0 l3x0d0 l3x0d1
  have c4x0 := Own.cell O4 0 rfl
  have f4x0 := Own.free O4 0 rfl
  have l4x0 := Own.lt O4 0 rfl
  have l4x0d0 := le_up 0 l4x0
  have l4x0d1 := le_up 1 l4x0
  simp only [upN] at l4x0d0 l4x0d1
  have HO4 := Lib.hid O4
  clear O4 hb4
  go_wp2_with fail
  refine wp_region_grow w.heap.size 19 0 0 [(0, 0, 536870912, 2048), (1, 0, 1073741824, 512), (2, 2, 2147483648, 1073741824), (3, 4, 4294967296, 2147483648), (4, 9, 8589934592, 4831838208), (5, 24, 17179869184, 8589934592), (6, 32, 34359738368, 17179873280), (7, 32, 68719476736, 17179869696), (8, 160, 137438953472, 85899345920), (9, 288, 274877906944, 154618822656), (10, 608, 549755813888, 326417514496), (11, 1056, 1099511627776, 566935683072), (12, 2560, 2199023255552, 1099511627776), (13, 4096, 4398046511104, 2199023263744), (14, 4096, 8796093022208, 2199023256064), (15, 20480, 17592186044416, 10995116277760), (16, 36864, 35184372088832, 19791209299968), (17, 77824, 70368744177664, 41781441855488), (18, 135168, 140737488355328, 72567767433216), (19, 524287, 1024, 140737488355328)] [(.p 0, 1), (.p 1, 3), (.p 2, 7), (.p 3, 15), (.p 4, 31), (.p 5, 63), (.p 6, 127), (.p 7, 255), (.p 8, 511), (.p 9, 1023), (.p 10, 2047), (.p 11, 4095), (.p 12, 8191), (.p 13, 16383), (.p 14, 32767), (.p 15, 65535), (.p 16, 131071), (.p 17, 262143), (.p 18, 524287)] [(19, 1048575)] _ (fun p hp => hp) (by first | omega | (simp; done) | (simp; omega)) (by kernel_rfl) (by kernel_rfl) (Own.new (Own.new (Own.new HO4.out (w4.heap.size) (by first | rfl | simp)) (w4.heap.size + 1) (by simp)) (w4.heap.size + 1 + 1) (by simp)) ?_
  refine wpG_pure (i := 0) (v := ?v5x0) rfl rfl (by rfl) (fun w hB hG K hK => ?h5x0) ?_
  case h5x0 =>
    have cx := Own.cell hG 2 rfl
    go_wp2_with fail
    exact hK _ (Below.refl _ _)
  simp only [List.set_cons_zero, List.set_cons_succ]
  refine wpG_pure (i := 1) (v := ?v5x1) rfl rfl (by rfl) (fun w hB hG K hK => ?h5x1) ?_
  case h5x1 =>
    go_wp2_with fail
    exact hK _ (Below.refl _ _)
  simp only [List.set_cons_zero, List.set_cons_succ]
  refine wpG_pure (i := 2) (v := ?v5x2) rfl rfl (by rfl) (fun w hB hG K hK => ?h5x2) ?_
  case h5x2 =>
    have cx := Own.cell hG 3 rfl
    go_wp2_with fail
    exact hK _ (Below.refl _ _)
  simp only [List.set_cons_zero, List.set_cons_succ]
  refine wpG_pure (i := 3) (v := ?v5x3) rfl rfl (by rfl) (fun w hB hG K hK => ?h5x3) ?_
  case h5x3 =>
    go_wp2_with fail
    refine (fixed_any _ _).mono ?_
    rintro e wx ⟨rfl, hbx⟩
    exact hK _ hbx
  simp only [List.set_cons_zero, List.set_cons_succ]
  refine wpG_pure (i := 4) (v := ?v5x4) rfl rfl (by rfl) (fun w hB hG K hK => ?h5x4) ?_
  case h5x4 =>
    go_wp2_with fail
    exact hK _ (Below.refl _ _)
  simp only [List.set_cons_zero, List.set_cons_succ]
  refine wpG_move (i := 5) rfl rfl rfl (by rfl) rfl ?_
  simp only [List.set_cons_zero, List.set_cons_succ]
  refine wpG_pure (i := 6) (v := ?v5x6) rfl rfl (by rfl) (fun w hB hG K hK => ?h5x6) ?_
  case h5x6 =>
    have cx := Own.cell hG 1 rfl
    go_wp2_with fail
    exact hK _ (Below.refl _ _)
  simp only [List.set_cons_zero, List.set_cons_succ]
  refine wpG_pure (i := 7) (v := ?v5x7) rfl rfl (by rfl) (fun w hB hG K hK => ?h5x7) ?_
  case h5x7 =>
    go_wp2_with fail
    exact hK _ (Below.refl _ _)
  simp only [List.set_cons_zero, List.set_cons_succ]
  refine wpG_pure (i := 8) (v := ?v5x8) rfl rfl (by rfl) (fun w hB hG K hK => ?h5x8) ?_
  case h5x8 =>
    have cx := Own.cell hG 3 rfl
    go_wp2_with fail
    exact hK _ (Below.refl _ _)
  simp only [List.set_cons_zero, List.set_cons_succ]
  refine wpG_pure (i := 9) (v := ?v5x9) rfl rfl (by rfl) (fun w hB hG K hK => ?h5x9) ?_
  case h5x9 =>
    go_wp2_with fail
    refine (fixed_any _ _).mono ?_
    rintro e wx ⟨rfl, hbx⟩
    exact hK _ hbx
  simp only [List.set_cons_zero, List.set_cons_succ]
  refine wpG_pure (i := 10) (v := ?v5x10) rfl rfl (by rfl) (fun w hB hG K hK => ?h5x10) ?_
  case h5x10 =>
    go_wp2_with fail
    exact hK _ (Below.refl _ _)
  simp only [List.set_cons_zero, List.set_cons_succ]
  refine wpG_pure (i := 11) (v := ?v5x11) rfl rfl (by rfl) (fun w hB hG K hK => ?h5x11) ?_
  case h5x11 =>
    go_wp2_with fail
    exact hK _ (Below.refl _ _)
  simp only [List.set_cons_zero, List.set_cons_succ]
  refine wpG_move (i := 12) rfl rfl rfl (by rfl) rfl ?_
  simp only [List.set_cons_zero, List.set_cons_succ]
  refine wpG_pure (i := 13) (v := ?v5x13) rfl rfl (by rfl) (fun w hB hG K hK => ?h5x13) ?_
  case h5x13 =>
    have cx := Own.cell hG 0 rfl
    go_wp2_with fail
    exact hK _ (Below.refl _ _)
  simp only [List.set_cons_zero, List.set_cons_succ]
  refine wpG_pure (i := 14) (v := ?v5x14) rfl rfl (by rfl) (fun w hB hG K hK => ?h5x14) ?_
  case h5x14 =>
    go_wp2_with fail
    exact hK _ (Below.refl _ _)
  simp only [List.set_cons_zero, List.set_cons_succ]
  refine wpG_pure (i := 15) (v := ?v5x15) rfl rfl (by rfl) (fun w hB hG K hK => ?h5x15) ?_
  case h5x15 =>
    have cx := Own.cell hG 3 rfl
    go_wp2_with fail
    exact hK _ (Below.refl _ _)
  simp only [List.set_cons_zero, List.set_cons_succ]
  refine wpG_pure (i := 16) (v := ?v5x16) rfl rfl (by rfl) (fun w hB hG K hK => ?h5x16) ?_
  case h5x16 =>
    go_wp2_with fail
    refine (fixed_any _ _).mono ?_
    rintro e wx ⟨rfl, hbx⟩
    exact hK _ hbx
  simp only [List.set_cons_zero, List.set_cons_succ]
  refine wpG_pure (i := 17) (v := ?v5x17) rfl rfl (by rfl) (fun w hB hG K hK => ?h5x17) ?_
  case h5x17 =>
    go_wp2_with fail
    exact hK _ (Below.refl _ _)
  simp only [List.set_cons_zero, List.set_cons_succ]
  refine wpG_pure (i := 18) (v := ?v5x18) rfl rfl (by rfl) (fun w hB hG K hK => ?h5x18) ?_
  case h5x18 =>
    go_wp2_with fail
    exact hK _ (Below.refl _ _)
  simp only [List.set_cons_zero, List.set_cons_succ]
  refine wpG_nil (fun w5 hb5 hG5 => ?_)
  simp only [List.append_eq, List.cons_append, List.nil_append, List.drop_succ_cons, List.drop_zero, List.drop_nil]
  have O5 := Own.of hG5
  try simp only [List.setIfInBounds_toArray, List.set_cons_zero, List.set_cons_succ] at O5
  have bw5 : Below w.heap.size w w5 := Below.trans (by go_grown) (Below.mono hb5 (by first | omega | (simp; done) | (simp; omega)))
  have zw5 := Below.size hb5
  try simp only [World.size_alloc, World.size_drew, World.size_setCell] at zw5
  clear c4x0 f4x0 l4x0 l4x0d0 l4x0d1
  have c5x0 := Own.cell O5 0 rfl
  have f5x0 := Own.free O5 0 rfl
  have l5x0 := Own.lt O5 0 rfl
  have l5x0d0 := le_up 0 l5x0
  have l5x0d1 := le_up 1 l5x0
  simp only [upN] at l5x0d0 l5x0d1
  have c5x1 := Own.cell O5 1 rfl
  have f5x1 := Own.free O5 1 rfl
  have l5x1 := Own.lt O5 1 rfl
  have l5x1d0 := le_up 0 l5x1
  have l5x1d1 := le_up 1 l5x1
  simp only [upN] at l5x1d0 l5x1d1
  have c5x2 := Own.cell O5 2 rfl
  have f5x2 := Own.free O5 2 rfl
  have l5x2 := Own.lt O5 2 rfl
  have l5x2d0 := le_up 0 l5x2
  have l5x2d1 := le_up 1 l5x2
  simp only [upN] at l5x2d0 l5x2d1
  have c5x3 := Own.cell O5 3 rfl
  have f5x3 := Own.free O5 3 rfl
  have l5x3 := Own.lt O5 3 rfl
  have l5x3d0 := le_up 0 l5x3
  have l5x3d1 := le_up 1 l5x3
  simp only [upN] at l5x3d0 l5x3d1
  have HO5 := Lib.hid O5
  clear O5 hb5
  go_wp2_with fail
  go_ret
  exact ⟨rfl, by go_grown⟩

theorem is_0 (w : World) : Calls Try.prog 27 #[.bool true, .int .u64 0, .int .u64 0, .int .u64 1, .agg #[.int .u64 22100, .int .u64 0, .int .u64 0]] w fun e w' => e = .returned (.bool true) ∧ Below w.heap.size w w' :=
  isT_any true 0 0 1 22100 0 0 w fun V => change_any true ⟨0, 0, 0, 0, 0⟩ ⟨0, 0, 0, 0, 0⟩ ⟨1, 0, 0, 0, 0⟩ V

theorem is_1 (w : World) : Calls Try.prog 27 #[.bool false, .int .u64 1, .int .u64 1, .int .u64 0, .agg #[.int .u64 2900, .int .u64 4800, .int .u64 0]] w fun e w' => e = .returned (.bool true) ∧ Below w.heap.size w w' :=
  isT_any false 1 1 0 2900 4800 0 w fun V => change_any false ⟨1, 0, 0, 0, 0⟩ ⟨1, 0, 0, 0, 0⟩ ⟨0, 0, 0, 0, 0⟩ V

theorem is_2 (w : World) : Calls Try.prog 27 #[.bool false, .int .u64 1, .int .u64 0, .int .u64 1, .agg #[.int .u64 100, .int .u64 2800, .int .u64 4800]] w fun e w' => e = .returned (.bool true) ∧ Below w.heap.size w w' :=
  isT_any false 1 0 1 100 2800 4800 w fun V => change_any false ⟨1, 0, 0, 0, 0⟩ ⟨0, 0, 0, 0, 0⟩ ⟨1, 0, 0, 0, 0⟩ V

theorem is_3 (w : World) : Calls Try.prog 27 #[.bool false, .int .u64 0, .int .u64 1, .int .u64 0, .agg #[.int .u64 100, .int .u64 19900, .int .u64 0]] w fun e w' => e = .returned (.bool true) ∧ Below w.heap.size w w' :=
  isT_any false 0 1 0 100 19900 0 w fun V => change_any false ⟨0, 0, 0, 0, 0⟩ ⟨1, 0, 0, 0, 0⟩ ⟨0, 0, 0, 0, 0⟩ V

set_option maxHeartbeats 4000000 in
set_option maxRecDepth 20000 in
theorem works_any (w : World) : Calls Try.prog 12 #[] w fun e w' => e = .returned (.bool true) ∧ Below w.heap.size w w' := by
  have hc : ∀ V, Calls Try.prog 6 #[.bool false, .agg #[.int .u64 1, .int .u64 0, .int .u64 0, .int .u64 0, .int .u64 2], .agg #[.int .u64 1, .int .u64 0, .int .u64 0, .int .u64 0, .int .u64 0], .agg #[.int .u64 0, .int .u64 0, .int .u64 0, .int .u64 0, .int .u64 0]] V fun e w' => e = .returned (.tuple #[.agg #[.int .u64 2900, .int .u64 100, .int .u64 20000, .int .u64 2], .agg #[.int .u64 4800, .int .u64 0, .int .u64 19900, .int .u64 2], .agg #[.int .u64 0, .int .u64 0, .int .u64 4800, .int .u64 2]]) ∧ Below V.heap.size V w' := fun V => change_any false ⟨1, 0, 0, 0, 2⟩ ⟨1, 0, 0, 0, 0⟩ ⟨0, 0, 0, 0, 0⟩ V
  have HC := Lib.hid hc
  clear hc
  have HA := Lib.hid (fun V : World => addr_any true V)
  have HS := Lib.hid (fun V : World => slot_any true V)
  simp only [if_true] at HA HS
  go_enter Try.func12, Try.ntmps12
  go_wp2_with fail
  refine (of_any 1 _).mono ?_
  rintro e w1 ⟨rfl, hb1⟩
  have O1 := Own.grow' hb1 (Own.nil w)
  try simp only [List.setIfInBounds_toArray, List.set_cons_zero, List.set_cons_succ] at O1
  have bw1 : Below w.heap.size w w1 := Below.trans (by go_grown) (Below.mono hb1 (by first | omega | (simp; done) | (simp; omega)))
  have zw1 := Below.size hb1
  try simp only [World.size_alloc, World.size_drew, World.size_setCell] at zw1
  have HO1 := Lib.hid O1
  clear O1 hb1
  go_wp2_with fail
  refine (of_any 1 _).mono ?_
  rintro e w2 ⟨rfl, hb2⟩
  have O2 := Own.grow' hb2 HO1.out
  try simp only [List.setIfInBounds_toArray, List.set_cons_zero, List.set_cons_succ] at O2
  have bw2 : Below w.heap.size w w2 := Below.trans (by go_grown) (Below.mono hb2 (by first | omega | (simp; done) | (simp; omega)))
  have zw2 := Below.size hb2
  try simp only [World.size_alloc, World.size_drew, World.size_setCell] at zw2
  have HO2 := Lib.hid O2
  clear O2 hb2
  go_wp2_with fail
  refine (HC.out _).mono ?_
  rintro e w3 ⟨rfl, hb3⟩
  have O3 := Own.grow' hb3 HO2.out
  try simp only [List.setIfInBounds_toArray, List.set_cons_zero, List.set_cons_succ] at O3
  have bw3 : Below w.heap.size w w3 := Below.trans (by go_grown) (Below.mono hb3 (by first | omega | (simp; done) | (simp; omega)))
  have zw3 := Below.size hb3
  try simp only [World.size_alloc, World.size_drew, World.size_setCell] at zw3
  have HO3 := Lib.hid O3
  clear O3 hb3
  go_wp2_with fail
  refine (HA.out _).mono ?_
  rintro e w4 ⟨rfl, hb4⟩
  have O4 := Own.grow' hb4 (Own.new (Own.new (Own.new HO3.out (w3.heap.size) (by first | rfl | simp)) (w3.heap.size + 1) (by simp)) (w3.heap.size + 1 + 1) (by simp))
  try simp only [List.setIfInBounds_toArray, List.set_cons_zero, List.set_cons_succ] at O4
  have bw4 : Below w.heap.size w w4 := Below.trans (by go_grown) (Below.mono hb4 (by first | omega | (simp; done) | (simp; omega)))
  have zw4 := Below.size hb4
  try simp only [World.size_alloc, World.size_drew, World.size_setCell] at zw4
  have c4x0 := Own.cell O4 0 rfl
  have f4x0 := Own.free O4 0 rfl
  have l4x0 := Own.lt O4 0 rfl
  have l4x0d0 := le_up 0 l4x0
  have l4x0d1 := le_up 1 l4x0
  simp only [upN] at l4x0d0 l4x0d1
  have c4x1 := Own.cell O4 1 rfl
  have f4x1 := Own.free O4 1 rfl
  have l4x1 := Own.lt O4 1 rfl
  have l4x1d0 := le_up 0 l4x1
  have l4x1d1 := le_up 1 l4x1
  simp only [upN] at l4x1d0 l4x1d1
  have c4x2 := Own.cell O4 2 rfl
  have f4x2 := Own.free O4 2 rfl
  have l4x2 := Own.lt O4 2 rfl
  have l4x2d0 := le_up 0 l4x2
  have l4x2d1 := le_up 1 l4x2
  simp only [upN] at l4x2d0 l4x2d1
  have HO4 := Lib.hid O4
  clear O4 hb4
  go_wp2_with fail
  refine (HS.out _).mono ?_
  rintro e w5 ⟨rfl, hb5⟩
  have O5 := Own.grow' hb5 HO4.out
  try simp only [List.setIfInBounds_toArray, List.set_cons_zero, List.set_cons_succ] at O5
  have bw5 : Below w.heap.size w w5 := Below.trans (by go_grown) (Below.mono hb5 (by first | omega | (simp; done) | (simp; omega)))
  have zw5 := Below.size hb5
  try simp only [World.size_alloc, World.size_drew, World.size_setCell] at zw5
  clear c4x0 f4x0 l4x0 l4x0d0 l4x0d1 c4x1 f4x1 l4x1 l4x1d0 l4x1d1 c4x2 f4x2 l4x2 l4x2d0 l4x2d1
  have c5x0 := Own.cell O5 0 rfl
  have f5x0 := Own.free O5 0 rfl
  have l5x0 := Own.lt O5 0 rfl
  have l5x0d0 := le_up 0 l5x0
  have l5x0d1 := le_up 1 l5x0
  simp only [upN] at l5x0d0 l5x0d1
  have c5x1 := Own.cell O5 1 rfl
  have f5x1 := Own.free O5 1 rfl
  have l5x1 := Own.lt O5 1 rfl
  have l5x1d0 := le_up 0 l5x1
  have l5x1d1 := le_up 1 l5x1
  simp only [upN] at l5x1d0 l5x1d1
  have c5x2 := Own.cell O5 2 rfl
  have f5x2 := Own.free O5 2 rfl
  have l5x2 := Own.lt O5 2 rfl
  have l5x2d0 := le_up 0 l5x2
  have l5x2d1 := le_up 1 l5x2
  simp only [upN] at l5x2d0 l5x2d1
  have HO5 := Lib.hid O5
  clear O5 hb5
  go_wp2_with fail
  refine (is_0 _).mono ?_
  rintro e w6 ⟨rfl, hb6⟩
  have O6 := Own.grow' hb6 HO5.out
  try simp only [List.setIfInBounds_toArray, List.set_cons_zero, List.set_cons_succ] at O6
  have bw6 : Below w.heap.size w w6 := Below.trans (by go_grown) (Below.mono hb6 (by first | omega | (simp; done) | (simp; omega)))
  have zw6 := Below.size hb6
  try simp only [World.size_alloc, World.size_drew, World.size_setCell] at zw6
  clear c5x0 f5x0 l5x0 l5x0d0 l5x0d1 c5x1 f5x1 l5x1 l5x1d0 l5x1d1 c5x2 f5x2 l5x2 l5x2d0 l5x2d1
  have c6x0 := Own.cell O6 0 rfl
  have f6x0 := Own.free O6 0 rfl
  have l6x0 := Own.lt O6 0 rfl
  have l6x0d0 := le_up 0 l6x0
  have l6x0d1 := le_up 1 l6x0
  simp only [upN] at l6x0d0 l6x0d1
  have c6x1 := Own.cell O6 1 rfl
  have f6x1 := Own.free O6 1 rfl
  have l6x1 := Own.lt O6 1 rfl
  have l6x1d0 := le_up 0 l6x1
  have l6x1d1 := le_up 1 l6x1
  simp only [upN] at l6x1d0 l6x1d1
  have c6x2 := Own.cell O6 2 rfl
  have f6x2 := Own.free O6 2 rfl
  have l6x2 := Own.lt O6 2 rfl
  have l6x2d0 := le_up 0 l6x2
  have l6x2d1 := le_up 1 l6x2
  simp only [upN] at l6x2d0 l6x2d1
  have HO6 := Lib.hid O6
  clear O6 hb6
  go_wp2_with fail
  refine (is_1 _).mono ?_
  rintro e w7 ⟨rfl, hb7⟩
  have O7 := Own.grow' hb7 HO6.out
  try simp only [List.setIfInBounds_toArray, List.set_cons_zero, List.set_cons_succ] at O7
  have bw7 : Below w.heap.size w w7 := Below.trans (by go_grown) (Below.mono hb7 (by first | omega | (simp; done) | (simp; omega)))
  have zw7 := Below.size hb7
  try simp only [World.size_alloc, World.size_drew, World.size_setCell] at zw7
  clear c6x0 f6x0 l6x0 l6x0d0 l6x0d1 c6x1 f6x1 l6x1 l6x1d0 l6x1d1 c6x2 f6x2 l6x2 l6x2d0 l6x2d1
  have c7x0 := Own.cell O7 0 rfl
  have f7x0 := Own.free O7 0 rfl
  have l7x0 := Own.lt O7 0 rfl
  have l7x0d0 := le_up 0 l7x0
  have l7x0d1 := le_up 1 l7x0
  simp only [upN] at l7x0d0 l7x0d1
  have c7x1 := Own.cell O7 1 rfl
  have f7x1 := Own.free O7 1 rfl
  have l7x1 := Own.lt O7 1 rfl
  have l7x1d0 := le_up 0 l7x1
  have l7x1d1 := le_up 1 l7x1
  simp only [upN] at l7x1d0 l7x1d1
  have c7x2 := Own.cell O7 2 rfl
  have f7x2 := Own.free O7 2 rfl
  have l7x2 := Own.lt O7 2 rfl
  have l7x2d0 := le_up 0 l7x2
  have l7x2d1 := le_up 1 l7x2
  simp only [upN] at l7x2d0 l7x2d1
  have HO7 := Lib.hid O7
  clear O7 hb7
  go_wp2_with fail
  refine (is_2 _).mono ?_
  rintro e w8 ⟨rfl, hb8⟩
  have O8 := Own.grow' hb8 HO7.out
  try simp only [List.setIfInBounds_toArray, List.set_cons_zero, List.set_cons_succ] at O8
  have bw8 : Below w.heap.size w w8 := Below.trans (by go_grown) (Below.mono hb8 (by first | omega | (simp; done) | (simp; omega)))
  have zw8 := Below.size hb8
  try simp only [World.size_alloc, World.size_drew, World.size_setCell] at zw8
  clear c7x0 f7x0 l7x0 l7x0d0 l7x0d1 c7x1 f7x1 l7x1 l7x1d0 l7x1d1 c7x2 f7x2 l7x2 l7x2d0 l7x2d1
  have c8x0 := Own.cell O8 0 rfl
  have f8x0 := Own.free O8 0 rfl
  have l8x0 := Own.lt O8 0 rfl
  have l8x0d0 := le_up 0 l8x0
  have l8x0d1 := le_up 1 l8x0
  simp only [upN] at l8x0d0 l8x0d1
  have c8x1 := Own.cell O8 1 rfl
  have f8x1 := Own.free O8 1 rfl
  have l8x1 := Own.lt O8 1 rfl
  have l8x1d0 := le_up 0 l8x1
  have l8x1d1 := le_up 1 l8x1
  simp only [upN] at l8x1d0 l8x1d1
  have c8x2 := Own.cell O8 2 rfl
  have f8x2 := Own.free O8 2 rfl
  have l8x2 := Own.lt O8 2 rfl
  have l8x2d0 := le_up 0 l8x2
  have l8x2d1 := le_up 1 l8x2
  simp only [upN] at l8x2d0 l8x2d1
  have HO8 := Lib.hid O8
  clear O8 hb8
  go_wp2_with fail
  refine (is_3 _).mono ?_
  rintro e w9 ⟨rfl, hb9⟩
  have O9 := Own.grow' hb9 HO8.out
  try simp only [List.setIfInBounds_toArray, List.set_cons_zero, List.set_cons_succ] at O9
  have bw9 : Below w.heap.size w w9 := Below.trans (by go_grown) (Below.mono hb9 (by first | omega | (simp; done) | (simp; omega)))
  have zw9 := Below.size hb9
  try simp only [World.size_alloc, World.size_drew, World.size_setCell] at zw9
  clear c8x0 f8x0 l8x0 l8x0d0 l8x0d1 c8x1 f8x1 l8x1 l8x1d0 l8x1d1 c8x2 f8x2 l8x2 l8x2d0 l8x2d1
  have c9x0 := Own.cell O9 0 rfl
  have f9x0 := Own.free O9 0 rfl
  have l9x0 := Own.lt O9 0 rfl
  have l9x0d0 := le_up 0 l9x0
  have l9x0d1 := le_up 1 l9x0
  simp only [upN] at l9x0d0 l9x0d1
  have c9x1 := Own.cell O9 1 rfl
  have f9x1 := Own.free O9 1 rfl
  have l9x1 := Own.lt O9 1 rfl
  have l9x1d0 := le_up 0 l9x1
  have l9x1d1 := le_up 1 l9x1
  simp only [upN] at l9x1d0 l9x1d1
  have c9x2 := Own.cell O9 2 rfl
  have f9x2 := Own.free O9 2 rfl
  have l9x2 := Own.lt O9 2 rfl
  have l9x2d0 := le_up 0 l9x2
  have l9x2d1 := le_up 1 l9x2
  simp only [upN] at l9x2d0 l9x2d1
  have HO9 := Lib.hid O9
  clear O9 hb9
  go_wp2_with fail
  go_ret
  exact ⟨rfl, by go_grown⟩

set_option maxHeartbeats 4000000 in
set_option maxRecDepth 20000 in
theorem costs_g (cold : Bool) (x y z : Vl) (r00 r01 r02 r03 r10 r11 r12 r13 r20 r21 r22 r23 A B : Int) (w : World)
    (hc : ∀ V, Calls Try.prog 6 #[.bool cold, .agg #[.int .u64 x.a, .int .u64 x.b, .int .u64 x.c, .int .u64 x.d, .int .u64 x.l], .agg #[.int .u64 y.a, .int .u64 y.b, .int .u64 y.c, .int .u64 y.d, .int .u64 y.l], .agg #[.int .u64 z.a, .int .u64 z.b, .int .u64 z.c, .int .u64 z.d, .int .u64 z.l]] V fun e w' => e = .returned (.tuple #[.agg #[.int .u64 r00, .int .u64 r01, .int .u64 r02, .int .u64 r03], .agg #[.int .u64 r10, .int .u64 r11, .int .u64 r12, .int .u64 r13], .agg #[.int .u64 r20, .int .u64 r21, .int .u64 r22, .int .u64 r23]]) ∧ Below V.heap.size V w')
    (hr : ∀ V, Calls Try.prog 7 #[.bool cold, .agg #[.int .u64 x.a, .int .u64 x.b, .int .u64 x.c, .int .u64 x.d, .int .u64 x.l], .agg #[.int .u64 y.a, .int .u64 y.b, .int .u64 y.c, .int .u64 y.d, .int .u64 y.l], .agg #[.int .u64 z.a, .int .u64 z.b, .int .u64 z.c, .int .u64 z.d, .int .u64 z.l]] V fun e w' => e = .returned (.tuple #[.agg #[.int .u64 r00, .int .u64 r01, .int .u64 r02, .int .u64 r03], .agg #[.int .u64 r10, .int .u64 r11, .int .u64 r12, .int .u64 r13], .agg #[.int .u64 r20, .int .u64 r21, .int .u64 r22, .int .u64 r23]]) ∧ Below V.heap.size V w')
    (ha : ∀ V, Calls Try.prog 8 #[.bool cold] V fun e w' => e = .returned (.int .u64 A) ∧ Below V.heap.size V w')
    (hb : ∀ V, Calls Try.prog 9 #[.bool cold] V fun e w' => e = .returned (.int .u64 A) ∧ Below V.heap.size V w')
    (hs : ∀ V, Calls Try.prog 10 #[.bool cold] V fun e w' => e = .returned (.int .u64 B) ∧ Below V.heap.size V w')
    (ht : ∀ V, Calls Try.prog 11 #[.bool cold] V fun e w' => e = .returned (.int .u64 B) ∧ Below V.heap.size V w') :
    Calls Try.prog 3 #[.bool cold, .agg #[.int .u64 x.a, .int .u64 x.b, .int .u64 x.c, .int .u64 x.d, .int .u64 x.l, .int .u64 y.a, .int .u64 y.b, .int .u64 y.c, .int .u64 y.d, .int .u64 y.l, .int .u64 z.a, .int .u64 z.b, .int .u64 z.c, .int .u64 z.d, .int .u64 z.l]] w fun e w' => e = .returned (.bool true) ∧ Below w.heap.size w w' := by
  have HC := Lib.hid hc
  have HR := Lib.hid hr
  have HA := Lib.hid ha
  have HB := Lib.hid hb
  have HS := Lib.hid hs
  have HT := Lib.hid ht
  clear hc hr ha hb hs ht
  go_enter Try.func3, Try.ntmps3
  go_wp2_with fail
  refine (HC.out _).mono ?_
  rintro e w1 ⟨rfl, hb1⟩
  have O1 := Own.grow' hb1 (Own.new (Own.nil w) (w.heap.size) (by first | rfl | simp))
  try simp only [List.setIfInBounds_toArray, List.set_cons_zero, List.set_cons_succ] at O1
  have bw1 : Below w.heap.size w w1 := Below.trans (by go_grown) (Below.mono hb1 (by first | omega | (simp; done) | (simp; omega)))
  have zw1 := Below.size hb1
  try simp only [World.size_alloc, World.size_drew, World.size_setCell] at zw1
  have c1x0 := Own.cell O1 0 rfl
  have f1x0 := Own.free O1 0 rfl
  have l1x0 := Own.lt O1 0 rfl
  have l1x0d0 := le_up 0 l1x0
  have l1x0d1 := le_up 1 l1x0
  simp only [upN] at l1x0d0 l1x0d1
  have a1x0 := fun o1 o2 o3 i => cell_al3 l1x0 o1 o2 o3 i
  have HO1 := Lib.hid O1
  clear O1 hb1
  go_wp2_with fail
  refine (HR.out _).mono ?_
  rintro e w2 ⟨rfl, hb2⟩
  have O2 := Own.grow' hb2 (Own.new (Own.new (Own.new HO1.out (w1.heap.size) (by first | rfl | simp)) (w1.heap.size + 1) (by simp)) (w1.heap.size + 1 + 1) (by simp))
  try simp only [List.setIfInBounds_toArray, List.set_cons_zero, List.set_cons_succ] at O2
  have bw2 : Below w.heap.size w w2 := Below.trans (by go_grown) (Below.mono hb2 (by first | omega | (simp; done) | (simp; omega)))
  have zw2 := Below.size hb2
  try simp only [World.size_alloc, World.size_drew, World.size_setCell] at zw2
  clear c1x0 f1x0 l1x0 l1x0d0 l1x0d1 a1x0
  have c2x0 := Own.cell O2 0 rfl
  have f2x0 := Own.free O2 0 rfl
  have l2x0 := Own.lt O2 0 rfl
  have l2x0d0 := le_up 0 l2x0
  have l2x0d1 := le_up 1 l2x0
  simp only [upN] at l2x0d0 l2x0d1
  have a2x0 := fun o1 o2 o3 i => cell_al3 l2x0 o1 o2 o3 i
  have c2x1 := Own.cell O2 1 rfl
  have f2x1 := Own.free O2 1 rfl
  have l2x1 := Own.lt O2 1 rfl
  have l2x1d0 := le_up 0 l2x1
  have l2x1d1 := le_up 1 l2x1
  simp only [upN] at l2x1d0 l2x1d1
  have a2x1 := fun o1 o2 o3 i => cell_al3 l2x1 o1 o2 o3 i
  have c2x2 := Own.cell O2 2 rfl
  have f2x2 := Own.free O2 2 rfl
  have l2x2 := Own.lt O2 2 rfl
  have l2x2d0 := le_up 0 l2x2
  have l2x2d1 := le_up 1 l2x2
  simp only [upN] at l2x2d0 l2x2d1
  have a2x2 := fun o1 o2 o3 i => cell_al3 l2x2 o1 o2 o3 i
  have c2x3 := Own.cell O2 3 rfl
  have f2x3 := Own.free O2 3 rfl
  have l2x3 := Own.lt O2 3 rfl
  have l2x3d0 := le_up 0 l2x3
  have l2x3d1 := le_up 1 l2x3
  simp only [upN] at l2x3d0 l2x3d1
  have a2x3 := fun o1 o2 o3 i => cell_al3 l2x3 o1 o2 o3 i
  have HO2 := Lib.hid O2
  clear O2 hb2
  go_wp2_with fail
  refine (HA.out _).mono ?_
  rintro e w3 ⟨rfl, hb3⟩
  have O3 := Own.grow' hb3 (Own.new (Own.new (Own.new HO2.out (w2.heap.size) (by first | rfl | simp)) (w2.heap.size + 1) (by simp)) (w2.heap.size + 1 + 1) (by simp))
  try simp only [List.setIfInBounds_toArray, List.set_cons_zero, List.set_cons_succ] at O3
  have bw3 : Below w.heap.size w w3 := Below.trans (by go_grown) (Below.mono hb3 (by first | omega | (simp; done) | (simp; omega)))
  have zw3 := Below.size hb3
  try simp only [World.size_alloc, World.size_drew, World.size_setCell] at zw3
  clear c2x0 f2x0 l2x0 l2x0d0 l2x0d1 a2x0 c2x1 f2x1 l2x1 l2x1d0 l2x1d1 a2x1 c2x2 f2x2 l2x2 l2x2d0 l2x2d1 a2x2 c2x3 f2x3 l2x3 l2x3d0 l2x3d1 a2x3
  have c3x0 := Own.cell O3 0 rfl
  have f3x0 := Own.free O3 0 rfl
  have l3x0 := Own.lt O3 0 rfl
  have l3x0d0 := le_up 0 l3x0
  have l3x0d1 := le_up 1 l3x0
  simp only [upN] at l3x0d0 l3x0d1
  have a3x0 := fun o1 o2 o3 i => cell_al3 l3x0 o1 o2 o3 i
  have c3x1 := Own.cell O3 1 rfl
  have f3x1 := Own.free O3 1 rfl
  have l3x1 := Own.lt O3 1 rfl
  have l3x1d0 := le_up 0 l3x1
  have l3x1d1 := le_up 1 l3x1
  simp only [upN] at l3x1d0 l3x1d1
  have a3x1 := fun o1 o2 o3 i => cell_al3 l3x1 o1 o2 o3 i
  have c3x2 := Own.cell O3 2 rfl
  have f3x2 := Own.free O3 2 rfl
  have l3x2 := Own.lt O3 2 rfl
  have l3x2d0 := le_up 0 l3x2
  have l3x2d1 := le_up 1 l3x2
  simp only [upN] at l3x2d0 l3x2d1
  have a3x2 := fun o1 o2 o3 i => cell_al3 l3x2 o1 o2 o3 i
  have c3x3 := Own.cell O3 3 rfl
  have f3x3 := Own.free O3 3 rfl
  have l3x3 := Own.lt O3 3 rfl
  have l3x3d0 := le_up 0 l3x3
  have l3x3d1 := le_up 1 l3x3
  simp only [upN] at l3x3d0 l3x3d1
  have a3x3 := fun o1 o2 o3 i => cell_al3 l3x3 o1 o2 o3 i
  have c3x4 := Own.cell O3 4 rfl
  have f3x4 := Own.free O3 4 rfl
  have l3x4 := Own.lt O3 4 rfl
  have l3x4d0 := le_up 0 l3x4
  have l3x4d1 := le_up 1 l3x4
  simp only [upN] at l3x4d0 l3x4d1
  have a3x4 := fun o1 o2 o3 i => cell_al3 l3x4 o1 o2 o3 i
  have c3x5 := Own.cell O3 5 rfl
  have f3x5 := Own.free O3 5 rfl
  have l3x5 := Own.lt O3 5 rfl
  have l3x5d0 := le_up 0 l3x5
  have l3x5d1 := le_up 1 l3x5
  simp only [upN] at l3x5d0 l3x5d1
  have a3x5 := fun o1 o2 o3 i => cell_al3 l3x5 o1 o2 o3 i
  have c3x6 := Own.cell O3 6 rfl
  have f3x6 := Own.free O3 6 rfl
  have l3x6 := Own.lt O3 6 rfl
  have l3x6d0 := le_up 0 l3x6
  have l3x6d1 := le_up 1 l3x6
  simp only [upN] at l3x6d0 l3x6d1
  have a3x6 := fun o1 o2 o3 i => cell_al3 l3x6 o1 o2 o3 i
  have HO3 := Lib.hid O3
  clear O3 hb3
  go_wp2_with fail
  refine (HB.out _).mono ?_
  rintro e w4 ⟨rfl, hb4⟩
  have O4 := Own.grow' hb4 HO3.out
  try simp only [List.setIfInBounds_toArray, List.set_cons_zero, List.set_cons_succ] at O4
  have bw4 : Below w.heap.size w w4 := Below.trans (by go_grown) (Below.mono hb4 (by first | omega | (simp; done) | (simp; omega)))
  have zw4 := Below.size hb4
  try simp only [World.size_alloc, World.size_drew, World.size_setCell] at zw4
  clear c3x0 f3x0 l3x0 l3x0d0 l3x0d1 a3x0 c3x1 f3x1 l3x1 l3x1d0 l3x1d1 a3x1 c3x2 f3x2 l3x2 l3x2d0 l3x2d1 a3x2 c3x3 f3x3 l3x3 l3x3d0 l3x3d1 a3x3 c3x4 f3x4 l3x4 l3x4d0 l3x4d1 a3x4 c3x5 f3x5 l3x5 l3x5d0 l3x5d1 a3x5 c3x6 f3x6 l3x6 l3x6d0 l3x6d1 a3x6
  have c4x0 := Own.cell O4 0 rfl
  have f4x0 := Own.free O4 0 rfl
  have l4x0 := Own.lt O4 0 rfl
  have l4x0d0 := le_up 0 l4x0
  have l4x0d1 := le_up 1 l4x0
  simp only [upN] at l4x0d0 l4x0d1
  have a4x0 := fun o1 o2 o3 i => cell_al3 l4x0 o1 o2 o3 i
  have c4x1 := Own.cell O4 1 rfl
  have f4x1 := Own.free O4 1 rfl
  have l4x1 := Own.lt O4 1 rfl
  have l4x1d0 := le_up 0 l4x1
  have l4x1d1 := le_up 1 l4x1
  simp only [upN] at l4x1d0 l4x1d1
  have a4x1 := fun o1 o2 o3 i => cell_al3 l4x1 o1 o2 o3 i
  have c4x2 := Own.cell O4 2 rfl
  have f4x2 := Own.free O4 2 rfl
  have l4x2 := Own.lt O4 2 rfl
  have l4x2d0 := le_up 0 l4x2
  have l4x2d1 := le_up 1 l4x2
  simp only [upN] at l4x2d0 l4x2d1
  have a4x2 := fun o1 o2 o3 i => cell_al3 l4x2 o1 o2 o3 i
  have c4x3 := Own.cell O4 3 rfl
  have f4x3 := Own.free O4 3 rfl
  have l4x3 := Own.lt O4 3 rfl
  have l4x3d0 := le_up 0 l4x3
  have l4x3d1 := le_up 1 l4x3
  simp only [upN] at l4x3d0 l4x3d1
  have a4x3 := fun o1 o2 o3 i => cell_al3 l4x3 o1 o2 o3 i
  have c4x4 := Own.cell O4 4 rfl
  have f4x4 := Own.free O4 4 rfl
  have l4x4 := Own.lt O4 4 rfl
  have l4x4d0 := le_up 0 l4x4
  have l4x4d1 := le_up 1 l4x4
  simp only [upN] at l4x4d0 l4x4d1
  have a4x4 := fun o1 o2 o3 i => cell_al3 l4x4 o1 o2 o3 i
  have c4x5 := Own.cell O4 5 rfl
  have f4x5 := Own.free O4 5 rfl
  have l4x5 := Own.lt O4 5 rfl
  have l4x5d0 := le_up 0 l4x5
  have l4x5d1 := le_up 1 l4x5
  simp only [upN] at l4x5d0 l4x5d1
  have a4x5 := fun o1 o2 o3 i => cell_al3 l4x5 o1 o2 o3 i
  have c4x6 := Own.cell O4 6 rfl
  have f4x6 := Own.free O4 6 rfl
  have l4x6 := Own.lt O4 6 rfl
  have l4x6d0 := le_up 0 l4x6
  have l4x6d1 := le_up 1 l4x6
  simp only [upN] at l4x6d0 l4x6d1
  have a4x6 := fun o1 o2 o3 i => cell_al3 l4x6 o1 o2 o3 i
  have HO4 := Lib.hid O4
  clear O4 hb4
  go_wp2_with fail
  refine (HS.out _).mono ?_
  rintro e w5 ⟨rfl, hb5⟩
  have O5 := Own.grow' hb5 HO4.out
  try simp only [List.setIfInBounds_toArray, List.set_cons_zero, List.set_cons_succ] at O5
  have bw5 : Below w.heap.size w w5 := Below.trans (by go_grown) (Below.mono hb5 (by first | omega | (simp; done) | (simp; omega)))
  have zw5 := Below.size hb5
  try simp only [World.size_alloc, World.size_drew, World.size_setCell] at zw5
  clear c4x0 f4x0 l4x0 l4x0d0 l4x0d1 a4x0 c4x1 f4x1 l4x1 l4x1d0 l4x1d1 a4x1 c4x2 f4x2 l4x2 l4x2d0 l4x2d1 a4x2 c4x3 f4x3 l4x3 l4x3d0 l4x3d1 a4x3 c4x4 f4x4 l4x4 l4x4d0 l4x4d1 a4x4 c4x5 f4x5 l4x5 l4x5d0 l4x5d1 a4x5 c4x6 f4x6 l4x6 l4x6d0 l4x6d1 a4x6
  have c5x0 := Own.cell O5 0 rfl
  have f5x0 := Own.free O5 0 rfl
  have l5x0 := Own.lt O5 0 rfl
  have l5x0d0 := le_up 0 l5x0
  have l5x0d1 := le_up 1 l5x0
  simp only [upN] at l5x0d0 l5x0d1
  have a5x0 := fun o1 o2 o3 i => cell_al3 l5x0 o1 o2 o3 i
  have c5x1 := Own.cell O5 1 rfl
  have f5x1 := Own.free O5 1 rfl
  have l5x1 := Own.lt O5 1 rfl
  have l5x1d0 := le_up 0 l5x1
  have l5x1d1 := le_up 1 l5x1
  simp only [upN] at l5x1d0 l5x1d1
  have a5x1 := fun o1 o2 o3 i => cell_al3 l5x1 o1 o2 o3 i
  have c5x2 := Own.cell O5 2 rfl
  have f5x2 := Own.free O5 2 rfl
  have l5x2 := Own.lt O5 2 rfl
  have l5x2d0 := le_up 0 l5x2
  have l5x2d1 := le_up 1 l5x2
  simp only [upN] at l5x2d0 l5x2d1
  have a5x2 := fun o1 o2 o3 i => cell_al3 l5x2 o1 o2 o3 i
  have c5x3 := Own.cell O5 3 rfl
  have f5x3 := Own.free O5 3 rfl
  have l5x3 := Own.lt O5 3 rfl
  have l5x3d0 := le_up 0 l5x3
  have l5x3d1 := le_up 1 l5x3
  simp only [upN] at l5x3d0 l5x3d1
  have a5x3 := fun o1 o2 o3 i => cell_al3 l5x3 o1 o2 o3 i
  have c5x4 := Own.cell O5 4 rfl
  have f5x4 := Own.free O5 4 rfl
  have l5x4 := Own.lt O5 4 rfl
  have l5x4d0 := le_up 0 l5x4
  have l5x4d1 := le_up 1 l5x4
  simp only [upN] at l5x4d0 l5x4d1
  have a5x4 := fun o1 o2 o3 i => cell_al3 l5x4 o1 o2 o3 i
  have c5x5 := Own.cell O5 5 rfl
  have f5x5 := Own.free O5 5 rfl
  have l5x5 := Own.lt O5 5 rfl
  have l5x5d0 := le_up 0 l5x5
  have l5x5d1 := le_up 1 l5x5
  simp only [upN] at l5x5d0 l5x5d1
  have a5x5 := fun o1 o2 o3 i => cell_al3 l5x5 o1 o2 o3 i
  have c5x6 := Own.cell O5 6 rfl
  have f5x6 := Own.free O5 6 rfl
  have l5x6 := Own.lt O5 6 rfl
  have l5x6d0 := le_up 0 l5x6
  have l5x6d1 := le_up 1 l5x6
  simp only [upN] at l5x6d0 l5x6d1
  have a5x6 := fun o1 o2 o3 i => cell_al3 l5x6 o1 o2 o3 i
  have HO5 := Lib.hid O5
  clear O5 hb5
  go_wp2_with fail
  refine (HT.out _).mono ?_
  rintro e w6 ⟨rfl, hb6⟩
  have O6 := Own.grow' hb6 HO5.out
  try simp only [List.setIfInBounds_toArray, List.set_cons_zero, List.set_cons_succ] at O6
  have bw6 : Below w.heap.size w w6 := Below.trans (by go_grown) (Below.mono hb6 (by first | omega | (simp; done) | (simp; omega)))
  have zw6 := Below.size hb6
  try simp only [World.size_alloc, World.size_drew, World.size_setCell] at zw6
  clear c5x0 f5x0 l5x0 l5x0d0 l5x0d1 a5x0 c5x1 f5x1 l5x1 l5x1d0 l5x1d1 a5x1 c5x2 f5x2 l5x2 l5x2d0 l5x2d1 a5x2 c5x3 f5x3 l5x3 l5x3d0 l5x3d1 a5x3 c5x4 f5x4 l5x4 l5x4d0 l5x4d1 a5x4 c5x5 f5x5 l5x5 l5x5d0 l5x5d1 a5x5 c5x6 f5x6 l5x6 l5x6d0 l5x6d1 a5x6
  have c6x0 := Own.cell O6 0 rfl
  have f6x0 := Own.free O6 0 rfl
  have l6x0 := Own.lt O6 0 rfl
  have l6x0d0 := le_up 0 l6x0
  have l6x0d1 := le_up 1 l6x0
  simp only [upN] at l6x0d0 l6x0d1
  have a6x0 := fun o1 o2 o3 i => cell_al3 l6x0 o1 o2 o3 i
  have c6x1 := Own.cell O6 1 rfl
  have f6x1 := Own.free O6 1 rfl
  have l6x1 := Own.lt O6 1 rfl
  have l6x1d0 := le_up 0 l6x1
  have l6x1d1 := le_up 1 l6x1
  simp only [upN] at l6x1d0 l6x1d1
  have a6x1 := fun o1 o2 o3 i => cell_al3 l6x1 o1 o2 o3 i
  have c6x2 := Own.cell O6 2 rfl
  have f6x2 := Own.free O6 2 rfl
  have l6x2 := Own.lt O6 2 rfl
  have l6x2d0 := le_up 0 l6x2
  have l6x2d1 := le_up 1 l6x2
  simp only [upN] at l6x2d0 l6x2d1
  have a6x2 := fun o1 o2 o3 i => cell_al3 l6x2 o1 o2 o3 i
  have c6x3 := Own.cell O6 3 rfl
  have f6x3 := Own.free O6 3 rfl
  have l6x3 := Own.lt O6 3 rfl
  have l6x3d0 := le_up 0 l6x3
  have l6x3d1 := le_up 1 l6x3
  simp only [upN] at l6x3d0 l6x3d1
  have a6x3 := fun o1 o2 o3 i => cell_al3 l6x3 o1 o2 o3 i
  have c6x4 := Own.cell O6 4 rfl
  have f6x4 := Own.free O6 4 rfl
  have l6x4 := Own.lt O6 4 rfl
  have l6x4d0 := le_up 0 l6x4
  have l6x4d1 := le_up 1 l6x4
  simp only [upN] at l6x4d0 l6x4d1
  have a6x4 := fun o1 o2 o3 i => cell_al3 l6x4 o1 o2 o3 i
  have c6x5 := Own.cell O6 5 rfl
  have f6x5 := Own.free O6 5 rfl
  have l6x5 := Own.lt O6 5 rfl
  have l6x5d0 := le_up 0 l6x5
  have l6x5d1 := le_up 1 l6x5
  simp only [upN] at l6x5d0 l6x5d1
  have a6x5 := fun o1 o2 o3 i => cell_al3 l6x5 o1 o2 o3 i
  have c6x6 := Own.cell O6 6 rfl
  have f6x6 := Own.free O6 6 rfl
  have l6x6 := Own.lt O6 6 rfl
  have l6x6d0 := le_up 0 l6x6
  have l6x6d1 := le_up 1 l6x6
  simp only [upN] at l6x6d0 l6x6d1
  have a6x6 := fun o1 o2 o3 i => cell_al3 l6x6 o1 o2 o3 i
  have HO6 := Lib.hid O6
  clear O6 hb6
  go_wp2_with fail
  refine (works_any _).mono ?_
  rintro e w7 ⟨rfl, hb7⟩
  have O7 := Own.grow' hb7 HO6.out
  try simp only [List.setIfInBounds_toArray, List.set_cons_zero, List.set_cons_succ] at O7
  have bw7 : Below w.heap.size w w7 := Below.trans (by go_grown) (Below.mono hb7 (by first | omega | (simp; done) | (simp; omega)))
  have zw7 := Below.size hb7
  try simp only [World.size_alloc, World.size_drew, World.size_setCell] at zw7
  clear c6x0 f6x0 l6x0 l6x0d0 l6x0d1 a6x0 c6x1 f6x1 l6x1 l6x1d0 l6x1d1 a6x1 c6x2 f6x2 l6x2 l6x2d0 l6x2d1 a6x2 c6x3 f6x3 l6x3 l6x3d0 l6x3d1 a6x3 c6x4 f6x4 l6x4 l6x4d0 l6x4d1 a6x4 c6x5 f6x5 l6x5 l6x5d0 l6x5d1 a6x5 c6x6 f6x6 l6x6 l6x6d0 l6x6d1 a6x6
  have c7x0 := Own.cell O7 0 rfl
  have f7x0 := Own.free O7 0 rfl
  have l7x0 := Own.lt O7 0 rfl
  have l7x0d0 := le_up 0 l7x0
  have l7x0d1 := le_up 1 l7x0
  simp only [upN] at l7x0d0 l7x0d1
  have a7x0 := fun o1 o2 o3 i => cell_al3 l7x0 o1 o2 o3 i
  have c7x1 := Own.cell O7 1 rfl
  have f7x1 := Own.free O7 1 rfl
  have l7x1 := Own.lt O7 1 rfl
  have l7x1d0 := le_up 0 l7x1
  have l7x1d1 := le_up 1 l7x1
  simp only [upN] at l7x1d0 l7x1d1
  have a7x1 := fun o1 o2 o3 i => cell_al3 l7x1 o1 o2 o3 i
  have c7x2 := Own.cell O7 2 rfl
  have f7x2 := Own.free O7 2 rfl
  have l7x2 := Own.lt O7 2 rfl
  have l7x2d0 := le_up 0 l7x2
  have l7x2d1 := le_up 1 l7x2
  simp only [upN] at l7x2d0 l7x2d1
  have a7x2 := fun o1 o2 o3 i => cell_al3 l7x2 o1 o2 o3 i
  have c7x3 := Own.cell O7 3 rfl
  have f7x3 := Own.free O7 3 rfl
  have l7x3 := Own.lt O7 3 rfl
  have l7x3d0 := le_up 0 l7x3
  have l7x3d1 := le_up 1 l7x3
  simp only [upN] at l7x3d0 l7x3d1
  have a7x3 := fun o1 o2 o3 i => cell_al3 l7x3 o1 o2 o3 i
  have c7x4 := Own.cell O7 4 rfl
  have f7x4 := Own.free O7 4 rfl
  have l7x4 := Own.lt O7 4 rfl
  have l7x4d0 := le_up 0 l7x4
  have l7x4d1 := le_up 1 l7x4
  simp only [upN] at l7x4d0 l7x4d1
  have a7x4 := fun o1 o2 o3 i => cell_al3 l7x4 o1 o2 o3 i
  have c7x5 := Own.cell O7 5 rfl
  have f7x5 := Own.free O7 5 rfl
  have l7x5 := Own.lt O7 5 rfl
  have l7x5d0 := le_up 0 l7x5
  have l7x5d1 := le_up 1 l7x5
  simp only [upN] at l7x5d0 l7x5d1
  have a7x5 := fun o1 o2 o3 i => cell_al3 l7x5 o1 o2 o3 i
  have c7x6 := Own.cell O7 6 rfl
  have f7x6 := Own.free O7 6 rfl
  have l7x6 := Own.lt O7 6 rfl
  have l7x6d0 := le_up 0 l7x6
  have l7x6d1 := le_up 1 l7x6
  simp only [upN] at l7x6d0 l7x6d1
  have a7x6 := fun o1 o2 o3 i => cell_al3 l7x6 o1 o2 o3 i
  have HO7 := Lib.hid O7
  clear O7 hb7
  go_wp2_with fail
  go_ret
  exact ⟨rfl, by go_grown⟩

theorem costs_any (cold : Bool) (x y z : Vl) (w : World) (hU : U x.l) :
    Calls Try.prog 3 #[.bool cold, .agg #[.int .u64 x.a, .int .u64 x.b, .int .u64 x.c, .int .u64 x.d, .int .u64 x.l, .int .u64 y.a, .int .u64 y.b, .int .u64 y.c, .int .u64 y.d, .int .u64 y.l, .int .u64 z.a, .int .u64 z.b, .int .u64 z.c, .int .u64 z.d, .int .u64 z.l]] w fun e w' => e = .returned (.bool true) ∧ Below w.heap.size w w' :=
  costs_g cold x y z _ _ _ _ _ _ _ _ _ _ _ _ _ _ w (fun V => change_any cold x y z V) (fun V => refChange_any cold x y z V hU) (fun V => addr_any cold V) (fun V => refAddr_any cold V) (fun V => slot_any cold V) (fun V => refSlot_any cold V)
end Go.Proofs.Ytiglfbnicihpmaa
