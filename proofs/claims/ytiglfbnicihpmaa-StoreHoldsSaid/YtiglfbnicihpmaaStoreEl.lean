/- Walks of package store: what a change costs. -/
import Derived.Test.YtiglfbnicihpmaaStoreE
set_option linter.unusedVariables false
set_option linter.unusedSimpArgs false
namespace Go.Proofs.Ytiglfbnicihpmaa
open Go.RowKit

set_option maxHeartbeats 4000000 in
set_option maxRecDepth 20000 in
theorem change_l (cold : Bool) (x y z : Vl) (fi : Value) (g : FuncId) (gc : Nat → Nat → Array Value) (n m l E a : Int) (w : World) (hs : Says x y z fi g gc n m l)
    (hE : ∀ V, Calls Try.prog 21 #[.bool cold, .agg #[.int .u64 0, .int .u64 2100]] V fun e w' => e = .returned (.int .u64 E) ∧ Below V.heap.size V w') (hE0 : 0 ≤ E) (hE1 : E ≤ 2100) (hn0 : 0 ≤ n) (hn1 : n ≤ 20000)
    (hL : ∀ V, Calls Try.prog 22 #[.agg #[.int .u64 x.a, .int .u64 x.b, .int .u64 x.c, .int .u64 x.d, .int .u64 x.l, .int .u64 y.a, .int .u64 y.b, .int .u64 y.c, .int .u64 y.d, .int .u64 y.l, .int .u64 z.a, .int .u64 z.b, .int .u64 z.c, .int .u64 z.d, .int .u64 z.l]] V fun e w' => e = .returned (.int .u64 a) ∧ Below V.heap.size V w') (hl0 : ¬ a = 0) :
    Calls Try.prog 6 #[.bool cold, .agg #[.int .u64 x.a, .int .u64 x.b, .int .u64 x.c, .int .u64 x.d, .int .u64 x.l], .agg #[.int .u64 y.a, .int .u64 y.b, .int .u64 y.c, .int .u64 y.d, .int .u64 y.l], .agg #[.int .u64 z.a, .int .u64 z.b, .int .u64 z.c, .int .u64 z.d, .int .u64 z.l]] w fun e w' => e = .returned (.tuple #[.agg #[.int .u64 (n + E), .int .u64 (100 + E), .int .u64 (20000 + E), .int .u64 a], .agg #[.int .u64 m, .int .u64 0, .int .u64 19900, .int .u64 a], .agg #[.int .u64 l, .int .u64 0, .int .u64 4800, .int .u64 a]]) ∧ Below w.heap.size w w' := by
  obtain ⟨fs55, U55⟩ := u55
  have I55 := i55
  obtain ⟨fs27, U27⟩ := u27
  have I27 := i27
  have U53 := u53
  have I53 := i53
  have U63 := u63
  have I63 := i63
  obtain ⟨hent, hfd, hsy⟩ := hs
  have HFD := Lib.hid hfd
  have HSY := Lib.hid hsy
  have HE := Lib.hid hE
  have HL := Lib.hid hL
  clear hfd hsy hE hL
  have hent' : ∀ (args : Array Value) (W : World), (callFunc g args).run Try.prog W = .ok (.enter g args) W := fun args W => hent args W
  clear hent
  have ix0 : ∀ W : World, (Instr.index 63 (.agg #[.int .u64 (n + E), .int .u64 m, .int .u64 l]) (.int .i64 0)).run Try.prog W = .ok (.int .u64 (n + E)) W := fun _ => by kernel_rfl
  have ix1 : ∀ W : World, (Instr.index 63 (.agg #[.int .u64 (n + E), .int .u64 m, .int .u64 l]) (.int .i64 1)).run Try.prog W = .ok (.int .u64 m) W := fun _ => by kernel_rfl
  have ix2 : ∀ W : World, (Instr.index 63 (.agg #[.int .u64 (n + E), .int .u64 m, .int .u64 l]) (.int .i64 2)).run Try.prog W = .ok (.int .u64 l) W := fun _ => by kernel_rfl
  have ha : ¬ a = 0 := hl0
  go_enter Try.func6, Try.ntmps6
  go_wp2_with fail
  refine (rules_any _).mono ?_
  rintro e w1 ⟨b1, b2, rfl, hS1, hS2, hb1⟩
  have O1 := Own.grow' hb1 (Own.new (Own.new (Own.new (Own.new (Own.new (Own.new (Own.new (Own.nil w) (w.heap.size) (by first | rfl | simp)) (w.heap.size + 1) (by simp)) (w.heap.size + 1 + 1) (by simp)) (w.heap.size + 1 + 1 + 1) (by simp)) (w.heap.size + 1 + 1 + 1 + 1) (by simp)) (w.heap.size + 1 + 1 + 1 + 1 + 1) (by simp)) (w.heap.size + 1 + 1 + 1 + 1 + 1 + 1) (by simp))
  try simp only [List.setIfInBounds_toArray, List.set_cons_zero, List.set_cons_succ] at O1
  have bw1 : Below w.heap.size w w1 := Below.trans (by go_grown) (Below.mono hb1 (by first | omega | (simp; done) | (simp; omega)))
  have zw1 := Below.size hb1
  try simp only [World.size_alloc, World.size_drew, World.size_setCell] at zw1
  have c1x0 := Own.cell O1 0 rfl
  have f1x0 := Own.free O1 0 rfl
  have l1x0 := Own.lt O1 0 rfl
  have l1x0d0 := le_up 0 l1x0
  have l1x0d1 := le_up 1 l1x0
  simp only [upN] at l1x0d0 l1x0d1
  have c1x1 := Own.cell O1 1 rfl
  have f1x1 := Own.free O1 1 rfl
  have l1x1 := Own.lt O1 1 rfl
  have l1x1d0 := le_up 0 l1x1
  have l1x1d1 := le_up 1 l1x1
  simp only [upN] at l1x1d0 l1x1d1
  have c1x2 := Own.cell O1 2 rfl
  have f1x2 := Own.free O1 2 rfl
  have l1x2 := Own.lt O1 2 rfl
  have l1x2d0 := le_up 0 l1x2
  have l1x2d1 := le_up 1 l1x2
  simp only [upN] at l1x2d0 l1x2d1
  have c1x3 := Own.cell O1 3 rfl
  have f1x3 := Own.free O1 3 rfl
  have l1x3 := Own.lt O1 3 rfl
  have l1x3d0 := le_up 0 l1x3
  have l1x3d1 := le_up 1 l1x3
  simp only [upN] at l1x3d0 l1x3d1
  have c1x4 := Own.cell O1 4 rfl
  have f1x4 := Own.free O1 4 rfl
  have l1x4 := Own.lt O1 4 rfl
  have l1x4d0 := le_up 0 l1x4
  have l1x4d1 := le_up 1 l1x4
  simp only [upN] at l1x4d0 l1x4d1
  have c1x5 := Own.cell O1 5 rfl
  have f1x5 := Own.free O1 5 rfl
  have l1x5 := Own.lt O1 5 rfl
  have l1x5d0 := le_up 0 l1x5
  have l1x5d1 := le_up 1 l1x5
  simp only [upN] at l1x5d0 l1x5d1
  have c1x6 := Own.cell O1 6 rfl
  have f1x6 := Own.free O1 6 rfl
  have l1x6 := Own.lt O1 6 rfl
  have l1x6d0 := le_up 0 l1x6
  have l1x6d1 := le_up 1 l1x6
  simp only [upN] at l1x6d0 l1x6d1
  have HO1 := Lib.hid O1
  clear O1 hb1
  go_wp2_with fail
  refine wp_region_grow w1.heap.size 7 0 64 [(0, 0, 67108864, 4096), (1, 0, 134217728, 2048), (2, 3, 268435456, 201326592), (3, 4, 536870912, 268435456), (4, 0, 1073741824, 2048), (5, 28, 2147483648, 1610612736), (6, 0, 8192, 0), (7, 127, 0, 2147491840)] [(.p 0, 1), (.p 1, 3), (.p 2, 7), (.p 3, 15), (.p 4, 31), (.p 5, 63), (.g 6, 127)] [(7, 255)] _ (fun p hp => hp) (by first | omega | (simp; done) | (simp; omega)) (by kernel_rfl) (by kernel_rfl) (Own.new HO1.out (w1.heap.size) (by first | rfl | simp)) ?_
  refine wpG_pure (i := 0) (v := ?v2x0) rfl rfl (by rfl) (fun w hB hG K hK => ?h2x0) ?_
  case h2x0 =>
    go_wp2_with fail
    exact hK _ (Below.refl _ _)
  simp only [List.set_cons_zero, List.set_cons_succ]
  refine wpG_pure (i := 1) (v := ?v2x1) rfl rfl (by rfl) (fun w hB hG K hK => ?h2x1) ?_
  case h2x1 =>
    go_wp2_with fail
    exact hK _ (Below.refl _ _)
  simp only [List.set_cons_zero, List.set_cons_succ]
  refine wpG_pure (i := 2) (v := ?v2x2) rfl rfl (by rfl) (fun w hB hG K hK => ?h2x2) ?_
  case h2x2 =>
    go_wp2_with fail
    refine (HFD.out _ b1 b2 _ _ (show SlAt _ (some ⟨_, 0, none⟩) ((rulesV b1 b2).flatMap pairV) from SlAt.of_blk (Own.get hG 0 rfl)) (Own.get hG 1 rfl)).mono ?_
    rintro e wx ⟨rfl, hbx⟩
    exact hK _ hbx
  simp only [List.set_cons_zero, List.set_cons_succ]
  refine wpG_pure (i := 3) (v := ?v2x3) rfl rfl (by rfl) (fun w hB hG K hK => ?h2x3) ?_
  case h2x3 =>
    go_wp2_with fail
    exact hK _ (Below.refl _ _)
  simp only [List.set_cons_zero, List.set_cons_succ]
  refine wpG_pure (i := 4) (v := ?v2x4) rfl rfl (by rfl) (fun w hB hG K hK => ?h2x4) ?_
  case h2x4 =>
    refine wp_load_row 55 (.tmp 11) (by with_reducible rfl) _ rfl _ _ (0, 0) _ (Own.get hG 1 rfl) U55 rfl I55 ?_
    exact hK _ (Below.refl _ _)
  simp only [List.set_cons_zero, List.set_cons_succ]
  refine wpG_pure (i := 5) (v := ?v2x5) rfl rfl (by rfl) (fun w hB hG K hK => ?h2x5) ?_
  case h2x5 =>
    have q1 : Below w1.heap.size w1 w := Below.trans (show Below w1.heap.size w1 _ by go_grown) hB
    go_wp2_with fail
    refine (HSY.out _ b1 b2 (SlAt.grow hS1 q1) (SlAt.grow hS2 q1)).mono ?_
    rintro e wx ⟨rfl, hbx⟩
    exact hK _ hbx
  simp only [List.set_cons_zero, List.set_cons_succ]
  refine wpG_make (i := 6) (c := ?c2x6) (t := ?t2x6) (fun b => .pointer (some ⟨b, 0, none⟩)) rfl rfl (by rfl) (fun w hB hG K hK => ?h2x6) (fun v2g1 l2g1 n2g1 => ?_)
  case h2x6 =>
    go_wp2_with fail
    exact hK
  simp only [List.set_cons_zero, List.set_cons_succ]
  try simp only [World.size_alloc, World.size_drew, World.size_setCell] at l2g1
  clear n2g1
  refine wpG_nil (fun w2 hb2 hG2 => ?_)
  simp only [List.append_eq, List.cons_append, List.nil_append, List.drop_succ_cons, List.drop_zero, List.drop_nil]
  have u2g1 := Own.lt hG2 0 rfl
  have O2 := Own.of hG2
  try simp only [List.setIfInBounds_toArray, List.set_cons_zero, List.set_cons_succ] at O2
  have bw2 : Below w.heap.size w w2 := Below.trans (by go_grown) (Below.mono hb2 (by first | omega | (simp; done) | (simp; omega)))
  have zw2 := Below.size hb2
  try simp only [World.size_alloc, World.size_drew, World.size_setCell] at zw2
  have pw2 : Below w1.heap.size w1 w2 := Below.trans (by go_grown) (Below.mono hb2 (by first | omega | (simp; done) | (simp; omega)))
  replace hS1 := SlAt.grow hS1 pw2
  replace hS2 := SlAt.grow hS2 pw2
  clear pw2
  clear c1x0 f1x0 l1x0 l1x0d0 l1x0d1 c1x1 f1x1 l1x1 l1x1d0 l1x1d1 c1x2 f1x2 l1x2 l1x2d0 l1x2d1 c1x3 f1x3 l1x3 l1x3d0 l1x3d1 c1x4 f1x4 l1x4 l1x4d0 l1x4d1 c1x5 f1x5 l1x5 l1x5d0 l1x5d1 c1x6 f1x6 l1x6 l1x6d0 l1x6d1
  have c2x0 := Own.cell O2 0 rfl
  have f2x0 := Own.free O2 0 rfl
  have l2x0 := Own.lt O2 0 rfl
  have l2x0d0 := le_up 0 l2x0
  have l2x0d1 := le_up 1 l2x0
  simp only [upN] at l2x0d0 l2x0d1
  have c2x1 := Own.cell O2 1 rfl
  have f2x1 := Own.free O2 1 rfl
  have l2x1 := Own.lt O2 1 rfl
  have l2x1d0 := le_up 0 l2x1
  have l2x1d1 := le_up 1 l2x1
  simp only [upN] at l2x1d0 l2x1d1
  have c2x2 := Own.cell O2 2 rfl
  have f2x2 := Own.free O2 2 rfl
  have l2x2 := Own.lt O2 2 rfl
  have l2x2d0 := le_up 0 l2x2
  have l2x2d1 := le_up 1 l2x2
  simp only [upN] at l2x2d0 l2x2d1
  have c2x3 := Own.cell O2 3 rfl
  have f2x3 := Own.free O2 3 rfl
  have l2x3 := Own.lt O2 3 rfl
  have l2x3d0 := le_up 0 l2x3
  have l2x3d1 := le_up 1 l2x3
  simp only [upN] at l2x3d0 l2x3d1
  have c2x4 := Own.cell O2 4 rfl
  have f2x4 := Own.free O2 4 rfl
  have l2x4 := Own.lt O2 4 rfl
  have l2x4d0 := le_up 0 l2x4
  have l2x4d1 := le_up 1 l2x4
  simp only [upN] at l2x4d0 l2x4d1
  have c2x5 := Own.cell O2 5 rfl
  have f2x5 := Own.free O2 5 rfl
  have l2x5 := Own.lt O2 5 rfl
  have l2x5d0 := le_up 0 l2x5
  have l2x5d1 := le_up 1 l2x5
  simp only [upN] at l2x5d0 l2x5d1
  have c2x6 := Own.cell O2 6 rfl
  have f2x6 := Own.free O2 6 rfl
  have l2x6 := Own.lt O2 6 rfl
  have l2x6d0 := le_up 0 l2x6
  have l2x6d1 := le_up 1 l2x6
  simp only [upN] at l2x6d0 l2x6d1
  have c2x7 := Own.cell O2 7 rfl
  have f2x7 := Own.free O2 7 rfl
  have l2x7 := Own.lt O2 7 rfl
  have l2x7d0 := le_up 0 l2x7
  have l2x7d1 := le_up 1 l2x7
  simp only [upN] at l2x7d0 l2x7d1
  have c2x8 := Own.cell O2 8 rfl
  have f2x8 := Own.free O2 8 rfl
  have l2x8 := Own.lt O2 8 rfl
  have l2x8d0 := le_up 0 l2x8
  have l2x8d1 := le_up 1 l2x8
  simp only [upN] at l2x8d0 l2x8d1
  have HO2 := Lib.hid O2
  clear O2 hb2
  go_wp2_with (first | (refine wpList_load_row rfl 55 (.tmp 11) (by with_reducible rfl) _ rfl _ _ (0, 0) _ (Own.get HO1.out 0 rfl) U55 rfl I55 ?_))
  refine (HE.out _).mono ?_
  rintro e w3 ⟨rfl, hb3⟩
  have O3 := Own.grow' hb3 (Own.set (Own.set (Own.set HO2.out 0 rfl (Ne1.cons (by first | omega | (simp; omega)) (Ne1.cons (by first | omega | (simp; omega)) (Ne1.cons (by first | omega | (simp; omega)) (Ne1.cons (by first | omega | (simp; omega)) (Ne1.cons (by first | omega | (simp; omega)) (Ne1.cons (by first | omega | (simp; omega)) (Ne1.cons (by first | omega | (simp; omega)) (Ne1.cons (by first | omega | (simp; omega)) Ne1.nil))))))))) 0 rfl (Ne1.cons (by first | omega | (simp; omega)) (Ne1.cons (by first | omega | (simp; omega)) (Ne1.cons (by first | omega | (simp; omega)) (Ne1.cons (by first | omega | (simp; omega)) (Ne1.cons (by first | omega | (simp; omega)) (Ne1.cons (by first | omega | (simp; omega)) (Ne1.cons (by first | omega | (simp; omega)) (Ne1.cons (by first | omega | (simp; omega)) Ne1.nil))))))))) 0 rfl (Ne1.cons (by first | omega | (simp; omega)) (Ne1.cons (by first | omega | (simp; omega)) (Ne1.cons (by first | omega | (simp; omega)) (Ne1.cons (by first | omega | (simp; omega)) (Ne1.cons (by first | omega | (simp; omega)) (Ne1.cons (by first | omega | (simp; omega)) (Ne1.cons (by first | omega | (simp; omega)) (Ne1.cons (by first | omega | (simp; omega)) Ne1.nil)))))))))
  try simp only [List.setIfInBounds_toArray, List.set_cons_zero, List.set_cons_succ] at O3
  have bw3 : Below w.heap.size w w3 := Below.trans (by go_grown) (Below.mono hb3 (by first | omega | (simp; done) | (simp; omega)))
  have zw3 := Below.size hb3
  try simp only [World.size_alloc, World.size_drew, World.size_setCell] at zw3
  clear c2x0 f2x0 l2x0 l2x0d0 l2x0d1 c2x1 f2x1 l2x1 l2x1d0 l2x1d1 c2x2 f2x2 l2x2 l2x2d0 l2x2d1 c2x3 f2x3 l2x3 l2x3d0 l2x3d1 c2x4 f2x4 l2x4 l2x4d0 l2x4d1 c2x5 f2x5 l2x5 l2x5d0 l2x5d1 c2x6 f2x6 l2x6 l2x6d0 l2x6d1 c2x7 f2x7 l2x7 l2x7d0 l2x7d1 c2x8 f2x8 l2x8 l2x8d0 l2x8d1
  have c3x0 := Own.cell O3 0 rfl
  have f3x0 := Own.free O3 0 rfl
  have l3x0 := Own.lt O3 0 rfl
  have l3x0d0 := le_up 0 l3x0
  have l3x0d1 := le_up 1 l3x0
  simp only [upN] at l3x0d0 l3x0d1
  have c3x1 := Own.cell O3 1 rfl
  have f3x1 := Own.free O3 1 rfl
  have l3x1 := Own.lt O3 1 rfl
  have l3x1d0 := le_up 0 l3x1
  have l3x1d1 := le_up 1 l3x1
  simp only [upN] at l3x1d0 l3x1d1
  have c3x2 := Own.cell O3 2 rfl
  have f3x2 := Own.free O3 2 rfl
  have l3x2 := Own.lt O3 2 rfl
  have l3x2d0 := le_up 0 l3x2
  have l3x2d1 := le_up 1 l3x2
  simp only [upN] at l3x2d0 l3x2d1
  have c3x3 := Own.cell O3 3 rfl
  have f3x3 := Own.free O3 3 rfl
  have l3x3 := Own.lt O3 3 rfl
  have l3x3d0 := le_up 0 l3x3
  have l3x3d1 := le_up 1 l3x3
  simp only [upN] at l3x3d0 l3x3d1
  have c3x4 := Own.cell O3 4 rfl
  have f3x4 := Own.free O3 4 rfl
  have l3x4 := Own.lt O3 4 rfl
  have l3x4d0 := le_up 0 l3x4
  have l3x4d1 := le_up 1 l3x4
  simp only [upN] at l3x4d0 l3x4d1
  have c3x5 := Own.cell O3 5 rfl
  have f3x5 := Own.free O3 5 rfl
  have l3x5 := Own.lt O3 5 rfl
  have l3x5d0 := le_up 0 l3x5
  have l3x5d1 := le_up 1 l3x5
  simp only [upN] at l3x5d0 l3x5d1
  have c3x6 := Own.cell O3 6 rfl
  have f3x6 := Own.free O3 6 rfl
  have l3x6 := Own.lt O3 6 rfl
  have l3x6d0 := le_up 0 l3x6
  have l3x6d1 := le_up 1 l3x6
  simp only [upN] at l3x6d0 l3x6d1
  have c3x7 := Own.cell O3 7 rfl
  have f3x7 := Own.free O3 7 rfl
  have l3x7 := Own.lt O3 7 rfl
  have l3x7d0 := le_up 0 l3x7
  have l3x7d1 := le_up 1 l3x7
  simp only [upN] at l3x7d0 l3x7d1
  have c3x8 := Own.cell O3 8 rfl
  have f3x8 := Own.free O3 8 rfl
  have l3x8 := Own.lt O3 8 rfl
  have l3x8d0 := le_up 0 l3x8
  have l3x8d1 := le_up 1 l3x8
  simp only [upN] at l3x8d0 l3x8d1
  have HO3 := Lib.hid O3
  clear O3 hb3
  go_wp2_with (first | (refine wpList_load_row rfl 53 (.tmp 48) (by with_reducible rfl) _ rfl _ _ (0, 0) _ (Own.get (Own.new (Own.new (Own.set HO3.out 0 rfl (Ne1.cons (by first | omega | (simp; omega)) (Ne1.cons (by first | omega | (simp; omega)) (Ne1.cons (by first | omega | (simp; omega)) (Ne1.cons (by first | omega | (simp; omega)) (Ne1.cons (by first | omega | (simp; omega)) (Ne1.cons (by first | omega | (simp; omega)) (Ne1.cons (by first | omega | (simp; omega)) (Ne1.cons (by first | omega | (simp; omega)) Ne1.nil))))))))) (w3.heap.size) (by first | rfl | simp)) (w3.heap.size + 1) (by simp)) 4 rfl) U53 rfl I53 ?_))
  refine (HL.out _).mono ?_
  rintro e w4 ⟨rfl, hb4⟩
  have O4 := Own.grow' hb4 (Own.new (Own.new (Own.set HO3.out 0 rfl (Ne1.cons (by first | omega | (simp; omega)) (Ne1.cons (by first | omega | (simp; omega)) (Ne1.cons (by first | omega | (simp; omega)) (Ne1.cons (by first | omega | (simp; omega)) (Ne1.cons (by first | omega | (simp; omega)) (Ne1.cons (by first | omega | (simp; omega)) (Ne1.cons (by first | omega | (simp; omega)) (Ne1.cons (by first | omega | (simp; omega)) Ne1.nil))))))))) (w3.heap.size) (by first | rfl | simp)) (w3.heap.size + 1) (by simp))
  try simp only [List.setIfInBounds_toArray, List.set_cons_zero, List.set_cons_succ] at O4
  have bw4 : Below w.heap.size w w4 := Below.trans (by go_grown) (Below.mono hb4 (by first | omega | (simp; done) | (simp; omega)))
  have zw4 := Below.size hb4
  try simp only [World.size_alloc, World.size_drew, World.size_setCell] at zw4
  clear c3x0 f3x0 l3x0 l3x0d0 l3x0d1 c3x1 f3x1 l3x1 l3x1d0 l3x1d1 c3x2 f3x2 l3x2 l3x2d0 l3x2d1 c3x3 f3x3 l3x3 l3x3d0 l3x3d1 c3x4 f3x4 l3x4 l3x4d0 l3x4d1 c3x5 f3x5 l3x5 l3x5d0 l3x5d1 c3x6 f3x6 l3x6 l3x6d0 l3x6d1 c3x7 f3x7 l3x7 l3x7d0 l3x7d1 c3x8 f3x8 l3x8 l3x8d0 l3x8d1
  have c4x0 := Own.cell O4 0 rfl
  have f4x0 := Own.free O4 0 rfl
  have l4x0 := Own.lt O4 0 rfl
  have l4x0d0 := le_up 0 l4x0
  have l4x0d1 := le_up 1 l4x0
  simp only [upN] at l4x0d0 l4x0d1
  have c4x1 := Own.cell O4 1 rfl
  have f4x1 := Own.free O4 1 rfl
  have l4x1 := Own.lt O4 1 rfl
  have l4x1d0 := le_up 0 l4x1
  have l4x1d1 := le_up 1 l4x1
  simp only [upN] at l4x1d0 l4x1d1
  have c4x2 := Own.cell O4 2 rfl
  have f4x2 := Own.free O4 2 rfl
  have l4x2 := Own.lt O4 2 rfl
  have l4x2d0 := le_up 0 l4x2
  have l4x2d1 := le_up 1 l4x2
  simp only [upN] at l4x2d0 l4x2d1
  have c4x3 := Own.cell O4 3 rfl
  have f4x3 := Own.free O4 3 rfl
  have l4x3 := Own.lt O4 3 rfl
  have l4x3d0 := le_up 0 l4x3
  have l4x3d1 := le_up 1 l4x3
  simp only [upN] at l4x3d0 l4x3d1
  have c4x4 := Own.cell O4 4 rfl
  have f4x4 := Own.free O4 4 rfl
  have l4x4 := Own.lt O4 4 rfl
  have l4x4d0 := le_up 0 l4x4
  have l4x4d1 := le_up 1 l4x4
  simp only [upN] at l4x4d0 l4x4d1
  have c4x5 := Own.cell O4 5 rfl
  have f4x5 := Own.free O4 5 rfl
  have l4x5 := Own.lt O4 5 rfl
  have l4x5d0 := le_up 0 l4x5
  have l4x5d1 := le_up 1 l4x5
  simp only [upN] at l4x5d0 l4x5d1
  have c4x6 := Own.cell O4 6 rfl
  have f4x6 := Own.free O4 6 rfl
  have l4x6 := Own.lt O4 6 rfl
  have l4x6d0 := le_up 0 l4x6
  have l4x6d1 := le_up 1 l4x6
  simp only [upN] at l4x6d0 l4x6d1
  have c4x7 := Own.cell O4 7 rfl
  have f4x7 := Own.free O4 7 rfl
  have l4x7 := Own.lt O4 7 rfl
  have l4x7d0 := le_up 0 l4x7
  have l4x7d1 := le_up 1 l4x7
  simp only [upN] at l4x7d0 l4x7d1
  have c4x8 := Own.cell O4 8 rfl
  have f4x8 := Own.free O4 8 rfl
  have l4x8 := Own.lt O4 8 rfl
  have l4x8d0 := le_up 0 l4x8
  have l4x8d1 := le_up 1 l4x8
  simp only [upN] at l4x8d0 l4x8d1
  have c4x9 := Own.cell O4 9 rfl
  have f4x9 := Own.free O4 9 rfl
  have l4x9 := Own.lt O4 9 rfl
  have l4x9d0 := le_up 0 l4x9
  have l4x9d1 := le_up 1 l4x9
  simp only [upN] at l4x9d0 l4x9d1
  have c4x10 := Own.cell O4 10 rfl
  have f4x10 := Own.free O4 10 rfl
  have l4x10 := Own.lt O4 10 rfl
  have l4x10d0 := le_up 0 l4x10
  have l4x10d1 := le_up 1 l4x10
  simp only [upN] at l4x10d0 l4x10d1
  have HO4 := Lib.hid O4
  clear O4 hb4
  go_wp2_with (first | (refine wpList_load_row rfl 63 (.tmp 13) (by with_reducible rfl) _ rfl _ _ (0, 0) _ (Own.get HO4.out 2 rfl) U63 rfl I63 ?_))
  refine wp_loop_rounds 4 ?_
  rw [rounds_succ]
  go_wp2_with fail
  refine wp_region_grow w.heap.size 13 0 0 [(0, 0, 18446744073709551616, 262144), (1, 0, 36893488147419103232, 524288), (2, 0, 73786976294838206464, 262144), (3, 4, 147573952589676412928, 73786976294838239232), (4, 8, 295147905179352825856, 147573952589676412928), (5, 16, 590295810358705651712, 295147905179352825856), (6, 0, 1180591620717411303424, 262144), (7, 64, 2361183241434822606848, 1180591620717411336192), (8, 128, 4722366482869645213696, 2361183241434822606848), (9, 256, 9444732965739290427392, 4722366482869645213696), (10, 0, 18889465931478580854784, 131072), (11, 1570, 37778931862957161709568, 28961388195723996037120), (12, 4095, 75557863725914323419136, 18446744073709617152), (13, 8191, 0, 113336795588871485128704)] [(.p 0, 1), (.p 1, 3), (.p 2, 7), (.p 3, 15), (.p 4, 31), (.p 5, 63), (.p 6, 127), (.p 7, 255), (.p 8, 511), (.p 9, 1023), (.p 10, 2047), (.p 11, 4095), (.p 12, 8191)] [(13, 16383)] _ (fun p hp => hp) (by first | omega | (simp; done) | (simp; omega)) (by kernel_rfl) (by kernel_rfl) (Own.set (Own.set (Own.set (Own.set HO4.out 0 rfl (Ne1.cons (by first | omega | (simp; omega)) (Ne1.cons (by first | omega | (simp; omega)) (Ne1.cons (by first | omega | (simp; omega)) (Ne1.cons (by first | omega | (simp; omega)) (Ne1.cons (by first | omega | (simp; omega)) (Ne1.cons (by first | omega | (simp; omega)) (Ne1.cons (by first | omega | (simp; omega)) (Ne1.cons (by first | omega | (simp; omega)) (Ne1.cons (by first | omega | (simp; omega)) (Ne1.cons (by first | omega | (simp; omega)) Ne1.nil))))))))))) 0 rfl (Ne1.cons (by first | omega | (simp; omega)) (Ne1.cons (by first | omega | (simp; omega)) (Ne1.cons (by first | omega | (simp; omega)) (Ne1.cons (by first | omega | (simp; omega)) (Ne1.cons (by first | omega | (simp; omega)) (Ne1.cons (by first | omega | (simp; omega)) (Ne1.cons (by first | omega | (simp; omega)) (Ne1.cons (by first | omega | (simp; omega)) (Ne1.cons (by first | omega | (simp; omega)) (Ne1.cons (by first | omega | (simp; omega)) Ne1.nil))))))))))) 0 rfl (Ne1.cons (by first | omega | (simp; omega)) (Ne1.cons (by first | omega | (simp; omega)) (Ne1.cons (by first | omega | (simp; omega)) (Ne1.cons (by first | omega | (simp; omega)) (Ne1.cons (by first | omega | (simp; omega)) (Ne1.cons (by first | omega | (simp; omega)) (Ne1.cons (by first | omega | (simp; omega)) (Ne1.cons (by first | omega | (simp; omega)) (Ne1.cons (by first | omega | (simp; omega)) (Ne1.cons (by first | omega | (simp; omega)) Ne1.nil))))))))))) 0 rfl (Ne1.cons (by first | omega | (simp; omega)) (Ne1.cons (by first | omega | (simp; omega)) (Ne1.cons (by first | omega | (simp; omega)) (Ne1.cons (by first | omega | (simp; omega)) (Ne1.cons (by first | omega | (simp; omega)) (Ne1.cons (by first | omega | (simp; omega)) (Ne1.cons (by first | omega | (simp; omega)) (Ne1.cons (by first | omega | (simp; omega)) (Ne1.cons (by first | omega | (simp; omega)) (Ne1.cons (by first | omega | (simp; omega)) Ne1.nil))))))))))) ?_
  refine wpG_move (i := 0) rfl rfl rfl (by rfl) rfl ?_
  simp only [List.set_cons_zero, List.set_cons_succ]
  refine wpG_move (i := 1) rfl rfl rfl (by rfl) rfl ?_
  simp only [List.set_cons_zero, List.set_cons_succ]
  refine wpG_move (i := 2) rfl rfl rfl (by rfl) rfl ?_
  simp only [List.set_cons_zero, List.set_cons_succ]
  refine wpG_pure (i := 3) (v := ?v5x3) rfl rfl (by rfl) (fun w hB hG K hK => ?h5x3) ?_
  case h5x3 =>
    go_wp2_with fail
    exact hK _ (Below.refl _ _)
  simp only [List.set_cons_zero, List.set_cons_succ]
  refine wpG_pure (i := 4) (v := ?v5x4) rfl rfl (by rfl) (fun w hB hG K hK => ?h5x4) ?_
  case h5x4 =>
    go_wp2_with fail
    exact hK _ (Below.refl _ _)
  simp only [List.set_cons_zero, List.set_cons_succ]
  refine wpG_pure (i := 5) (v := ?v5x5) rfl rfl (by rfl) (fun w hB hG K hK => ?h5x5) ?_
  case h5x5 =>
    have cx := Own.cell hG 1 rfl
    go_wp2_with fail
    exact hK _ (Below.refl _ _)
  simp only [List.set_cons_zero, List.set_cons_succ]
  refine wpG_move (i := 6) rfl rfl rfl (by rfl) rfl ?_
  simp only [List.set_cons_zero, List.set_cons_succ]
  refine wpG_pure (i := 7) (v := ?v5x7) rfl rfl (by rfl) (fun w hB hG K hK => ?h5x7) ?_
  case h5x7 =>
    go_wp2_with fail
    exact hK _ (Below.refl _ _)
  simp only [List.set_cons_zero, List.set_cons_succ]
  refine wpG_pure (i := 8) (v := ?v5x8) rfl rfl (by rfl) (fun w hB hG K hK => ?h5x8) ?_
  case h5x8 =>
    go_wp2_with fail
    exact hK _ (Below.refl _ _)
  simp only [List.set_cons_zero, List.set_cons_succ]
  refine wpG_pure (i := 9) (v := ?v5x9) rfl rfl (by rfl) (fun w hB hG K hK => ?h5x9) ?_
  case h5x9 =>
    have cx := Own.cell hG 1 rfl
    go_wp2_with fail
    exact hK _ (Below.refl _ _)
  simp only [List.set_cons_zero, List.set_cons_succ]
  refine wpG_move (i := 10) rfl rfl rfl (by rfl) rfl ?_
  simp only [List.set_cons_zero, List.set_cons_succ]
  refine wpG_pure (i := 11) (v := ?v5x11) rfl rfl (by rfl) (fun w hB hG K hK => ?h5x11) ?_
  case h5x11 =>
    go_wp2_with fail
    exact hK _ (Below.refl _ _)
  simp only [List.set_cons_zero, List.set_cons_succ]
  refine wpG_pure (i := 12) (v := ?v5x12) rfl rfl (by rfl) (fun w hB hG K hK => ?h5x12) ?_
  case h5x12 =>
    go_wp2_with fail
    exact hK _ (Below.refl _ _)
  simp only [List.set_cons_zero, List.set_cons_succ]
  refine wpG_nil (fun w5 hb5 hG5 => ?_)
  simp only [List.append_eq, List.cons_append, List.nil_append, List.drop_succ_cons, List.drop_zero, List.drop_nil]
  have O5 := Own.of hG5
  try simp only [List.setIfInBounds_toArray, List.set_cons_zero, List.set_cons_succ] at O5
  have bw5 : Below w.heap.size w w5 := Below.trans (by go_grown) (Below.mono hb5 (by first | omega | (simp; done) | (simp; omega)))
  have zw5 := Below.size hb5
  try simp only [World.size_alloc, World.size_drew, World.size_setCell] at zw5
  clear c4x0 f4x0 l4x0 l4x0d0 l4x0d1 c4x1 f4x1 l4x1 l4x1d0 l4x1d1 c4x2 f4x2 l4x2 l4x2d0 l4x2d1 c4x3 f4x3 l4x3 l4x3d0 l4x3d1 c4x4 f4x4 l4x4 l4x4d0 l4x4d1 c4x5 f4x5 l4x5 l4x5d0 l4x5d1 c4x6 f4x6 l4x6 l4x6d0 l4x6d1 c4x7 f4x7 l4x7 l4x7d0 l4x7d1 c4x8 f4x8 l4x8 l4x8d0 l4x8d1 c4x9 f4x9 l4x9 l4x9d0 l4x9d1 c4x10 f4x10 l4x10 l4x10d0 l4x10d1
  have c5x0 := Own.cell O5 0 rfl
  have f5x0 := Own.free O5 0 rfl
  have l5x0 := Own.lt O5 0 rfl
  have l5x0d0 := le_up 0 l5x0
  have l5x0d1 := le_up 1 l5x0
  simp only [upN] at l5x0d0 l5x0d1
  have c5x1 := Own.cell O5 1 rfl
  have f5x1 := Own.free O5 1 rfl
  have l5x1 := Own.lt O5 1 rfl
  have l5x1d0 := le_up 0 l5x1
  have l5x1d1 := le_up 1 l5x1
  simp only [upN] at l5x1d0 l5x1d1
  have c5x2 := Own.cell O5 2 rfl
  have f5x2 := Own.free O5 2 rfl
  have l5x2 := Own.lt O5 2 rfl
  have l5x2d0 := le_up 0 l5x2
  have l5x2d1 := le_up 1 l5x2
  simp only [upN] at l5x2d0 l5x2d1
  have c5x3 := Own.cell O5 3 rfl
  have f5x3 := Own.free O5 3 rfl
  have l5x3 := Own.lt O5 3 rfl
  have l5x3d0 := le_up 0 l5x3
  have l5x3d1 := le_up 1 l5x3
  simp only [upN] at l5x3d0 l5x3d1
  have c5x4 := Own.cell O5 4 rfl
  have f5x4 := Own.free O5 4 rfl
  have l5x4 := Own.lt O5 4 rfl
  have l5x4d0 := le_up 0 l5x4
  have l5x4d1 := le_up 1 l5x4
  simp only [upN] at l5x4d0 l5x4d1
  have c5x5 := Own.cell O5 5 rfl
  have f5x5 := Own.free O5 5 rfl
  have l5x5 := Own.lt O5 5 rfl
  have l5x5d0 := le_up 0 l5x5
  have l5x5d1 := le_up 1 l5x5
  simp only [upN] at l5x5d0 l5x5d1
  have c5x6 := Own.cell O5 6 rfl
  have f5x6 := Own.free O5 6 rfl
  have l5x6 := Own.lt O5 6 rfl
  have l5x6d0 := le_up 0 l5x6
  have l5x6d1 := le_up 1 l5x6
  simp only [upN] at l5x6d0 l5x6d1
  have c5x7 := Own.cell O5 7 rfl
  have f5x7 := Own.free O5 7 rfl
  have l5x7 := Own.lt O5 7 rfl
  have l5x7d0 := le_up 0 l5x7
  have l5x7d1 := le_up 1 l5x7
  simp only [upN] at l5x7d0 l5x7d1
  have c5x8 := Own.cell O5 8 rfl
  have f5x8 := Own.free O5 8 rfl
  have l5x8 := Own.lt O5 8 rfl
  have l5x8d0 := le_up 0 l5x8
  have l5x8d1 := le_up 1 l5x8
  simp only [upN] at l5x8d0 l5x8d1
  have c5x9 := Own.cell O5 9 rfl
  have f5x9 := Own.free O5 9 rfl
  have l5x9 := Own.lt O5 9 rfl
  have l5x9d0 := le_up 0 l5x9
  have l5x9d1 := le_up 1 l5x9
  simp only [upN] at l5x9d0 l5x9d1
  have c5x10 := Own.cell O5 10 rfl
  have f5x10 := Own.free O5 10 rfl
  have l5x10 := Own.lt O5 10 rfl
  have l5x10d0 := le_up 0 l5x10
  have l5x10d1 := le_up 1 l5x10
  simp only [upN] at l5x10d0 l5x10d1
  have HO5 := Lib.hid O5
  clear O5 hb5
  go_wp2_with fail
  rw [rounds_succ]
  go_wp2_with fail
  refine wp_region_grow w.heap.size 13 0 0 [(0, 0, 18446744073709551616, 262144), (1, 0, 36893488147419103232, 524288), (2, 0, 73786976294838206464, 262144), (3, 4, 147573952589676412928, 73786976294838239232), (4, 8, 295147905179352825856, 147573952589676412928), (5, 16, 590295810358705651712, 295147905179352825856), (6, 0, 1180591620717411303424, 262144), (7, 64, 2361183241434822606848, 1180591620717411336192), (8, 128, 4722366482869645213696, 2361183241434822606848), (9, 256, 9444732965739290427392, 4722366482869645213696), (10, 0, 18889465931478580854784, 131072), (11, 1570, 37778931862957161709568, 28961388195723996037120), (12, 4095, 75557863725914323419136, 18446744073709617152), (13, 8191, 0, 113336795588871485128704)] [(.p 0, 1), (.p 1, 3), (.p 2, 7), (.p 3, 15), (.p 4, 31), (.p 5, 63), (.p 6, 127), (.p 7, 255), (.p 8, 511), (.p 9, 1023), (.p 10, 2047), (.p 11, 4095), (.p 12, 8191)] [(13, 16383)] _ (fun p hp => hp) (by first | omega | (simp; done) | (simp; omega)) (by kernel_rfl) (by kernel_rfl) (Own.set (Own.set (Own.set (Own.set (Own.set (Own.set (Own.set (Own.set HO5.out 0 rfl (Ne1.cons (by first | omega | (simp; omega)) (Ne1.cons (by first | omega | (simp; omega)) (Ne1.cons (by first | omega | (simp; omega)) (Ne1.cons (by first | omega | (simp; omega)) (Ne1.cons (by first | omega | (simp; omega)) (Ne1.cons (by first | omega | (simp; omega)) (Ne1.cons (by first | omega | (simp; omega)) (Ne1.cons (by first | omega | (simp; omega)) (Ne1.cons (by first | omega | (simp; omega)) (Ne1.cons (by first | omega | (simp; omega)) Ne1.nil))))))))))) 0 rfl (Ne1.cons (by first | omega | (simp; omega)) (Ne1.cons (by first | omega | (simp; omega)) (Ne1.cons (by first | omega | (simp; omega)) (Ne1.cons (by first | omega | (simp; omega)) (Ne1.cons (by first | omega | (simp; omega)) (Ne1.cons (by first | omega | (simp; omega)) (Ne1.cons (by first | omega | (simp; omega)) (Ne1.cons (by first | omega | (simp; omega)) (Ne1.cons (by first | omega | (simp; omega)) (Ne1.cons (by first | omega | (simp; omega)) Ne1.nil))))))))))) 0 rfl (Ne1.cons (by first | omega | (simp; omega)) (Ne1.cons (by first | omega | (simp; omega)) (Ne1.cons (by first | omega | (simp; omega)) (Ne1.cons (by first | omega | (simp; omega)) (Ne1.cons (by first | omega | (simp; omega)) (Ne1.cons (by first | omega | (simp; omega)) (Ne1.cons (by first | omega | (simp; omega)) (Ne1.cons (by first | omega | (simp; omega)) (Ne1.cons (by first | omega | (simp; omega)) (Ne1.cons (by first | omega | (simp; omega)) Ne1.nil))))))))))) 0 rfl (Ne1.cons (by first | omega | (simp; omega)) (Ne1.cons (by first | omega | (simp; omega)) (Ne1.cons (by first | omega | (simp; omega)) (Ne1.cons (by first | omega | (simp; omega)) (Ne1.cons (by first | omega | (simp; omega)) (Ne1.cons (by first | omega | (simp; omega)) (Ne1.cons (by first | omega | (simp; omega)) (Ne1.cons (by first | omega | (simp; omega)) (Ne1.cons (by first | omega | (simp; omega)) (Ne1.cons (by first | omega | (simp; omega)) Ne1.nil))))))))))) 0 rfl (Ne1.cons (by first | omega | (simp; omega)) (Ne1.cons (by first | omega | (simp; omega)) (Ne1.cons (by first | omega | (simp; omega)) (Ne1.cons (by first | omega | (simp; omega)) (Ne1.cons (by first | omega | (simp; omega)) (Ne1.cons (by first | omega | (simp; omega)) (Ne1.cons (by first | omega | (simp; omega)) (Ne1.cons (by first | omega | (simp; omega)) (Ne1.cons (by first | omega | (simp; omega)) (Ne1.cons (by first | omega | (simp; omega)) Ne1.nil))))))))))) 0 rfl (Ne1.cons (by first | omega | (simp; omega)) (Ne1.cons (by first | omega | (simp; omega)) (Ne1.cons (by first | omega | (simp; omega)) (Ne1.cons (by first | omega | (simp; omega)) (Ne1.cons (by first | omega | (simp; omega)) (Ne1.cons (by first | omega | (simp; omega)) (Ne1.cons (by first | omega | (simp; omega)) (Ne1.cons (by first | omega | (simp; omega)) (Ne1.cons (by first | omega | (simp; omega)) (Ne1.cons (by first | omega | (simp; omega)) Ne1.nil))))))))))) 0 rfl (Ne1.cons (by first | omega | (simp; omega)) (Ne1.cons (by first | omega | (simp; omega)) (Ne1.cons (by first | omega | (simp; omega)) (Ne1.cons (by first | omega | (simp; omega)) (Ne1.cons (by first | omega | (simp; omega)) (Ne1.cons (by first | omega | (simp; omega)) (Ne1.cons (by first | omega | (simp; omega)) (Ne1.cons (by first | omega | (simp; omega)) (Ne1.cons (by first | omega | (simp; omega)) (Ne1.cons (by first | omega | (simp; omega)) Ne1.nil))))))))))) 0 rfl (Ne1.cons (by first | omega | (simp; omega)) (Ne1.cons (by first | omega | (simp; omega)) (Ne1.cons (by first | omega | (simp; omega)) (Ne1.cons (by first | omega | (simp; omega)) (Ne1.cons (by first | omega | (simp; omega)) (Ne1.cons (by first | omega | (simp; omega)) (Ne1.cons (by first | omega | (simp; omega)) (Ne1.cons (by first | omega | (simp; omega)) (Ne1.cons (by first | omega | (simp; omega)) (Ne1.cons (by first | omega | (simp; omega)) Ne1.nil))))))))))) ?_
  refine wpG_move (i := 0) rfl rfl rfl (by rfl) rfl ?_
  simp only [List.set_cons_zero, List.set_cons_succ]
  refine wpG_move (i := 1) rfl rfl rfl (by rfl) rfl ?_
  simp only [List.set_cons_zero, List.set_cons_succ]
  refine wpG_move (i := 2) rfl rfl rfl (by rfl) rfl ?_
  simp only [List.set_cons_zero, List.set_cons_succ]
  refine wpG_pure (i := 3) (v := ?v6x3) rfl rfl (by rfl) (fun w hB hG K hK => ?h6x3) ?_
  case h6x3 =>
    go_wp2_with fail
    exact hK _ (Below.refl _ _)
  simp only [List.set_cons_zero, List.set_cons_succ]
  refine wpG_pure (i := 4) (v := ?v6x4) rfl rfl (by rfl) (fun w hB hG K hK => ?h6x4) ?_
  case h6x4 =>
    go_wp2_with fail
    exact hK _ (Below.refl _ _)
  simp only [List.set_cons_zero, List.set_cons_succ]
  refine wpG_pure (i := 5) (v := ?v6x5) rfl rfl (by rfl) (fun w hB hG K hK => ?h6x5) ?_
  case h6x5 =>
    have cx := Own.cell hG 1 rfl
    go_wp2_with fail
    exact hK _ (Below.refl _ _)
  simp only [List.set_cons_zero, List.set_cons_succ]
  refine wpG_move (i := 6) rfl rfl rfl (by rfl) rfl ?_
  simp only [List.set_cons_zero, List.set_cons_succ]
  refine wpG_pure (i := 7) (v := ?v6x7) rfl rfl (by rfl) (fun w hB hG K hK => ?h6x7) ?_
  case h6x7 =>
    go_wp2_with fail
    exact hK _ (Below.refl _ _)
  simp only [List.set_cons_zero, List.set_cons_succ]
  refine wpG_pure (i := 8) (v := ?v6x8) rfl rfl (by rfl) (fun w hB hG K hK => ?h6x8) ?_
  case h6x8 =>
    go_wp2_with fail
    exact hK _ (Below.refl _ _)
  simp only [List.set_cons_zero, List.set_cons_succ]
  refine wpG_pure (i := 9) (v := ?v6x9) rfl rfl (by rfl) (fun w hB hG K hK => ?h6x9) ?_
  case h6x9 =>
    have cx := Own.cell hG 1 rfl
    go_wp2_with fail
    exact hK _ (Below.refl _ _)
  simp only [List.set_cons_zero, List.set_cons_succ]
  refine wpG_move (i := 10) rfl rfl rfl (by rfl) rfl ?_
  simp only [List.set_cons_zero, List.set_cons_succ]
  refine wpG_pure (i := 11) (v := ?v6x11) rfl rfl (by rfl) (fun w hB hG K hK => ?h6x11) ?_
  case h6x11 =>
    go_wp2_with fail
    exact hK _ (Below.refl _ _)
  simp only [List.set_cons_zero, List.set_cons_succ]
  refine wpG_pure (i := 12) (v := ?v6x12) rfl rfl (by rfl) (fun w hB hG K hK => ?h6x12) ?_
  case h6x12 =>
    go_wp2_with fail
    exact hK _ (Below.refl _ _)
  simp only [List.set_cons_zero, List.set_cons_succ]
  refine wpG_nil (fun w6 hb6 hG6 => ?_)
  simp only [List.append_eq, List.cons_append, List.nil_append, List.drop_succ_cons, List.drop_zero, List.drop_nil]
  have O6 := Own.of hG6
  try simp only [List.setIfInBounds_toArray, List.set_cons_zero, List.set_cons_succ] at O6
  have bw6 : Below w.heap.size w w6 := Below.trans (by go_grown) (Below.mono hb6 (by first | omega | (simp; done) | (simp; omega)))
  have zw6 := Below.size hb6
  try simp only [World.size_alloc, World.size_drew, World.size_setCell] at zw6
  clear c5x0 f5x0 l5x0 l5x0d0 l5x0d1 c5x1 f5x1 l5x1 l5x1d0 l5x1d1 c5x2 f5x2 l5x2 l5x2d0 l5x2d1 c5x3 f5x3 l5x3 l5x3d0 l5x3d1 c5x4 f5x4 l5x4 l5x4d0 l5x4d1 c5x5 f5x5 l5x5 l5x5d0 l5x5d1 c5x6 f5x6 l5x6 l5x6d0 l5x6d1 c5x7 f5x7 l5x7 l5x7d0 l5x7d1 c5x8 f5x8 l5x8 l5x8d0 l5x8d1 c5x9 f5x9 l5x9 l5x9d0 l5x9d1 c5x10 f5x10 l5x10 l5x10d0 l5x10d1
  have c6x0 := Own.cell O6 0 rfl
  have f6x0 := Own.free O6 0 rfl
  have l6x0 := Own.lt O6 0 rfl
  have l6x0d0 := le_up 0 l6x0
  have l6x0d1 := le_up 1 l6x0
  simp only [upN] at l6x0d0 l6x0d1
  have c6x1 := Own.cell O6 1 rfl
  have f6x1 := Own.free O6 1 rfl
  have l6x1 := Own.lt O6 1 rfl
  have l6x1d0 := le_up 0 l6x1
  have l6x1d1 := le_up 1 l6x1
  simp only [upN] at l6x1d0 l6x1d1
  have c6x2 := Own.cell O6 2 rfl
  have f6x2 := Own.free O6 2 rfl
  have l6x2 := Own.lt O6 2 rfl
  have l6x2d0 := le_up 0 l6x2
  have l6x2d1 := le_up 1 l6x2
  simp only [upN] at l6x2d0 l6x2d1
  have c6x3 := Own.cell O6 3 rfl
  have f6x3 := Own.free O6 3 rfl
  have l6x3 := Own.lt O6 3 rfl
  have l6x3d0 := le_up 0 l6x3
  have l6x3d1 := le_up 1 l6x3
  simp only [upN] at l6x3d0 l6x3d1
  have c6x4 := Own.cell O6 4 rfl
  have f6x4 := Own.free O6 4 rfl
  have l6x4 := Own.lt O6 4 rfl
  have l6x4d0 := le_up 0 l6x4
  have l6x4d1 := le_up 1 l6x4
  simp only [upN] at l6x4d0 l6x4d1
  have c6x5 := Own.cell O6 5 rfl
  have f6x5 := Own.free O6 5 rfl
  have l6x5 := Own.lt O6 5 rfl
  have l6x5d0 := le_up 0 l6x5
  have l6x5d1 := le_up 1 l6x5
  simp only [upN] at l6x5d0 l6x5d1
  have c6x6 := Own.cell O6 6 rfl
  have f6x6 := Own.free O6 6 rfl
  have l6x6 := Own.lt O6 6 rfl
  have l6x6d0 := le_up 0 l6x6
  have l6x6d1 := le_up 1 l6x6
  simp only [upN] at l6x6d0 l6x6d1
  have c6x7 := Own.cell O6 7 rfl
  have f6x7 := Own.free O6 7 rfl
  have l6x7 := Own.lt O6 7 rfl
  have l6x7d0 := le_up 0 l6x7
  have l6x7d1 := le_up 1 l6x7
  simp only [upN] at l6x7d0 l6x7d1
  have c6x8 := Own.cell O6 8 rfl
  have f6x8 := Own.free O6 8 rfl
  have l6x8 := Own.lt O6 8 rfl
  have l6x8d0 := le_up 0 l6x8
  have l6x8d1 := le_up 1 l6x8
  simp only [upN] at l6x8d0 l6x8d1
  have c6x9 := Own.cell O6 9 rfl
  have f6x9 := Own.free O6 9 rfl
  have l6x9 := Own.lt O6 9 rfl
  have l6x9d0 := le_up 0 l6x9
  have l6x9d1 := le_up 1 l6x9
  simp only [upN] at l6x9d0 l6x9d1
  have c6x10 := Own.cell O6 10 rfl
  have f6x10 := Own.free O6 10 rfl
  have l6x10 := Own.lt O6 10 rfl
  have l6x10d0 := le_up 0 l6x10
  have l6x10d1 := le_up 1 l6x10
  simp only [upN] at l6x10d0 l6x10d1
  have HO6 := Lib.hid O6
  clear O6 hb6
  go_wp2_with fail
  rw [rounds_succ]
  go_wp2_with fail
  refine wp_region_grow w.heap.size 13 0 0 [(0, 0, 18446744073709551616, 262144), (1, 0, 36893488147419103232, 524288), (2, 0, 73786976294838206464, 262144), (3, 4, 147573952589676412928, 73786976294838239232), (4, 8, 295147905179352825856, 147573952589676412928), (5, 16, 590295810358705651712, 295147905179352825856), (6, 0, 1180591620717411303424, 262144), (7, 64, 2361183241434822606848, 1180591620717411336192), (8, 128, 4722366482869645213696, 2361183241434822606848), (9, 256, 9444732965739290427392, 4722366482869645213696), (10, 0, 18889465931478580854784, 131072), (11, 1570, 37778931862957161709568, 28961388195723996037120), (12, 4095, 75557863725914323419136, 18446744073709617152), (13, 8191, 0, 113336795588871485128704)] [(.p 0, 1), (.p 1, 3), (.p 2, 7), (.p 3, 15), (.p 4, 31), (.p 5, 63), (.p 6, 127), (.p 7, 255), (.p 8, 511), (.p 9, 1023), (.p 10, 2047), (.p 11, 4095), (.p 12, 8191)] [(13, 16383)] _ (fun p hp => hp) (by first | omega | (simp; done) | (simp; omega)) (by kernel_rfl) (by kernel_rfl) (Own.set (Own.set (Own.set (Own.set (Own.set (Own.set (Own.set (Own.set HO6.out 0 rfl (Ne1.cons (by first | omega | (simp; omega)) (Ne1.cons (by first | omega | (simp; omega)) (Ne1.cons (by first | omega | (simp; omega)) (Ne1.cons (by first | omega | (simp; omega)) (Ne1.cons (by first | omega | (simp; omega)) (Ne1.cons (by first | omega | (simp; omega)) (Ne1.cons (by first | omega | (simp; omega)) (Ne1.cons (by first | omega | (simp; omega)) (Ne1.cons (by first | omega | (simp; omega)) (Ne1.cons (by first | omega | (simp; omega)) Ne1.nil))))))))))) 0 rfl (Ne1.cons (by first | omega | (simp; omega)) (Ne1.cons (by first | omega | (simp; omega)) (Ne1.cons (by first | omega | (simp; omega)) (Ne1.cons (by first | omega | (simp; omega)) (Ne1.cons (by first | omega | (simp; omega)) (Ne1.cons (by first | omega | (simp; omega)) (Ne1.cons (by first | omega | (simp; omega)) (Ne1.cons (by first | omega | (simp; omega)) (Ne1.cons (by first | omega | (simp; omega)) (Ne1.cons (by first | omega | (simp; omega)) Ne1.nil))))))))))) 0 rfl (Ne1.cons (by first | omega | (simp; omega)) (Ne1.cons (by first | omega | (simp; omega)) (Ne1.cons (by first | omega | (simp; omega)) (Ne1.cons (by first | omega | (simp; omega)) (Ne1.cons (by first | omega | (simp; omega)) (Ne1.cons (by first | omega | (simp; omega)) (Ne1.cons (by first | omega | (simp; omega)) (Ne1.cons (by first | omega | (simp; omega)) (Ne1.cons (by first | omega | (simp; omega)) (Ne1.cons (by first | omega | (simp; omega)) Ne1.nil))))))))))) 0 rfl (Ne1.cons (by first | omega | (simp; omega)) (Ne1.cons (by first | omega | (simp; omega)) (Ne1.cons (by first | omega | (simp; omega)) (Ne1.cons (by first | omega | (simp; omega)) (Ne1.cons (by first | omega | (simp; omega)) (Ne1.cons (by first | omega | (simp; omega)) (Ne1.cons (by first | omega | (simp; omega)) (Ne1.cons (by first | omega | (simp; omega)) (Ne1.cons (by first | omega | (simp; omega)) (Ne1.cons (by first | omega | (simp; omega)) Ne1.nil))))))))))) 0 rfl (Ne1.cons (by first | omega | (simp; omega)) (Ne1.cons (by first | omega | (simp; omega)) (Ne1.cons (by first | omega | (simp; omega)) (Ne1.cons (by first | omega | (simp; omega)) (Ne1.cons (by first | omega | (simp; omega)) (Ne1.cons (by first | omega | (simp; omega)) (Ne1.cons (by first | omega | (simp; omega)) (Ne1.cons (by first | omega | (simp; omega)) (Ne1.cons (by first | omega | (simp; omega)) (Ne1.cons (by first | omega | (simp; omega)) Ne1.nil))))))))))) 0 rfl (Ne1.cons (by first | omega | (simp; omega)) (Ne1.cons (by first | omega | (simp; omega)) (Ne1.cons (by first | omega | (simp; omega)) (Ne1.cons (by first | omega | (simp; omega)) (Ne1.cons (by first | omega | (simp; omega)) (Ne1.cons (by first | omega | (simp; omega)) (Ne1.cons (by first | omega | (simp; omega)) (Ne1.cons (by first | omega | (simp; omega)) (Ne1.cons (by first | omega | (simp; omega)) (Ne1.cons (by first | omega | (simp; omega)) Ne1.nil))))))))))) 0 rfl (Ne1.cons (by first | omega | (simp; omega)) (Ne1.cons (by first | omega | (simp; omega)) (Ne1.cons (by first | omega | (simp; omega)) (Ne1.cons (by first | omega | (simp; omega)) (Ne1.cons (by first | omega | (simp; omega)) (Ne1.cons (by first | omega | (simp; omega)) (Ne1.cons (by first | omega | (simp; omega)) (Ne1.cons (by first | omega | (simp; omega)) (Ne1.cons (by first | omega | (simp; omega)) (Ne1.cons (by first | omega | (simp; omega)) Ne1.nil))))))))))) 0 rfl (Ne1.cons (by first | omega | (simp; omega)) (Ne1.cons (by first | omega | (simp; omega)) (Ne1.cons (by first | omega | (simp; omega)) (Ne1.cons (by first | omega | (simp; omega)) (Ne1.cons (by first | omega | (simp; omega)) (Ne1.cons (by first | omega | (simp; omega)) (Ne1.cons (by first | omega | (simp; omega)) (Ne1.cons (by first | omega | (simp; omega)) (Ne1.cons (by first | omega | (simp; omega)) (Ne1.cons (by first | omega | (simp; omega)) Ne1.nil))))))))))) ?_
  refine wpG_move (i := 0) rfl rfl rfl (by rfl) rfl ?_
  simp only [List.set_cons_zero, List.set_cons_succ]
  refine wpG_move (i := 1) rfl rfl rfl (by rfl) rfl ?_
  simp only [List.set_cons_zero, List.set_cons_succ]
  refine wpG_move (i := 2) rfl rfl rfl (by rfl) rfl ?_
  simp only [List.set_cons_zero, List.set_cons_succ]
  refine wpG_pure (i := 3) (v := ?v7x3) rfl rfl (by rfl) (fun w hB hG K hK => ?h7x3) ?_
  case h7x3 =>
    go_wp2_with fail
    exact hK _ (Below.refl _ _)
  simp only [List.set_cons_zero, List.set_cons_succ]
  refine wpG_pure (i := 4) (v := ?v7x4) rfl rfl (by rfl) (fun w hB hG K hK => ?h7x4) ?_
  case h7x4 =>
    go_wp2_with fail
    exact hK _ (Below.refl _ _)
  simp only [List.set_cons_zero, List.set_cons_succ]
  refine wpG_pure (i := 5) (v := ?v7x5) rfl rfl (by rfl) (fun w hB hG K hK => ?h7x5) ?_
  case h7x5 =>
    have cx := Own.cell hG 1 rfl
    go_wp2_with fail
    exact hK _ (Below.refl _ _)
  simp only [List.set_cons_zero, List.set_cons_succ]
  refine wpG_move (i := 6) rfl rfl rfl (by rfl) rfl ?_
  simp only [List.set_cons_zero, List.set_cons_succ]
  refine wpG_pure (i := 7) (v := ?v7x7) rfl rfl (by rfl) (fun w hB hG K hK => ?h7x7) ?_
  case h7x7 =>
    go_wp2_with fail
    exact hK _ (Below.refl _ _)
  simp only [List.set_cons_zero, List.set_cons_succ]
  refine wpG_pure (i := 8) (v := ?v7x8) rfl rfl (by rfl) (fun w hB hG K hK => ?h7x8) ?_
  case h7x8 =>
    go_wp2_with fail
    exact hK _ (Below.refl _ _)
  simp only [List.set_cons_zero, List.set_cons_succ]
  refine wpG_pure (i := 9) (v := ?v7x9) rfl rfl (by rfl) (fun w hB hG K hK => ?h7x9) ?_
  case h7x9 =>
    have cx := Own.cell hG 1 rfl
    go_wp2_with fail
    exact hK _ (Below.refl _ _)
  simp only [List.set_cons_zero, List.set_cons_succ]
  refine wpG_move (i := 10) rfl rfl rfl (by rfl) rfl ?_
  simp only [List.set_cons_zero, List.set_cons_succ]
  refine wpG_pure (i := 11) (v := ?v7x11) rfl rfl (by rfl) (fun w hB hG K hK => ?h7x11) ?_
  case h7x11 =>
    go_wp2_with fail
    exact hK _ (Below.refl _ _)
  simp only [List.set_cons_zero, List.set_cons_succ]
  refine wpG_pure (i := 12) (v := ?v7x12) rfl rfl (by rfl) (fun w hB hG K hK => ?h7x12) ?_
  case h7x12 =>
    go_wp2_with fail
    exact hK _ (Below.refl _ _)
  simp only [List.set_cons_zero, List.set_cons_succ]
  refine wpG_nil (fun w7 hb7 hG7 => ?_)
  simp only [List.append_eq, List.cons_append, List.nil_append, List.drop_succ_cons, List.drop_zero, List.drop_nil]
  have O7 := Own.of hG7
  try simp only [List.setIfInBounds_toArray, List.set_cons_zero, List.set_cons_succ] at O7
  have bw7 : Below w.heap.size w w7 := Below.trans (by go_grown) (Below.mono hb7 (by first | omega | (simp; done) | (simp; omega)))
  have zw7 := Below.size hb7
  try simp only [World.size_alloc, World.size_drew, World.size_setCell] at zw7
  clear c6x0 f6x0 l6x0 l6x0d0 l6x0d1 c6x1 f6x1 l6x1 l6x1d0 l6x1d1 c6x2 f6x2 l6x2 l6x2d0 l6x2d1 c6x3 f6x3 l6x3 l6x3d0 l6x3d1 c6x4 f6x4 l6x4 l6x4d0 l6x4d1 c6x5 f6x5 l6x5 l6x5d0 l6x5d1 c6x6 f6x6 l6x6 l6x6d0 l6x6d1 c6x7 f6x7 l6x7 l6x7d0 l6x7d1 c6x8 f6x8 l6x8 l6x8d0 l6x8d1 c6x9 f6x9 l6x9 l6x9d0 l6x9d1 c6x10 f6x10 l6x10 l6x10d0 l6x10d1
  have c7x0 := Own.cell O7 0 rfl
  have f7x0 := Own.free O7 0 rfl
  have l7x0 := Own.lt O7 0 rfl
  have l7x0d0 := le_up 0 l7x0
  have l7x0d1 := le_up 1 l7x0
  simp only [upN] at l7x0d0 l7x0d1
  have c7x1 := Own.cell O7 1 rfl
  have f7x1 := Own.free O7 1 rfl
  have l7x1 := Own.lt O7 1 rfl
  have l7x1d0 := le_up 0 l7x1
  have l7x1d1 := le_up 1 l7x1
  simp only [upN] at l7x1d0 l7x1d1
  have c7x2 := Own.cell O7 2 rfl
  have f7x2 := Own.free O7 2 rfl
  have l7x2 := Own.lt O7 2 rfl
  have l7x2d0 := le_up 0 l7x2
  have l7x2d1 := le_up 1 l7x2
  simp only [upN] at l7x2d0 l7x2d1
  have c7x3 := Own.cell O7 3 rfl
  have f7x3 := Own.free O7 3 rfl
  have l7x3 := Own.lt O7 3 rfl
  have l7x3d0 := le_up 0 l7x3
  have l7x3d1 := le_up 1 l7x3
  simp only [upN] at l7x3d0 l7x3d1
  have c7x4 := Own.cell O7 4 rfl
  have f7x4 := Own.free O7 4 rfl
  have l7x4 := Own.lt O7 4 rfl
  have l7x4d0 := le_up 0 l7x4
  have l7x4d1 := le_up 1 l7x4
  simp only [upN] at l7x4d0 l7x4d1
  have c7x5 := Own.cell O7 5 rfl
  have f7x5 := Own.free O7 5 rfl
  have l7x5 := Own.lt O7 5 rfl
  have l7x5d0 := le_up 0 l7x5
  have l7x5d1 := le_up 1 l7x5
  simp only [upN] at l7x5d0 l7x5d1
  have c7x6 := Own.cell O7 6 rfl
  have f7x6 := Own.free O7 6 rfl
  have l7x6 := Own.lt O7 6 rfl
  have l7x6d0 := le_up 0 l7x6
  have l7x6d1 := le_up 1 l7x6
  simp only [upN] at l7x6d0 l7x6d1
  have c7x7 := Own.cell O7 7 rfl
  have f7x7 := Own.free O7 7 rfl
  have l7x7 := Own.lt O7 7 rfl
  have l7x7d0 := le_up 0 l7x7
  have l7x7d1 := le_up 1 l7x7
  simp only [upN] at l7x7d0 l7x7d1
  have c7x8 := Own.cell O7 8 rfl
  have f7x8 := Own.free O7 8 rfl
  have l7x8 := Own.lt O7 8 rfl
  have l7x8d0 := le_up 0 l7x8
  have l7x8d1 := le_up 1 l7x8
  simp only [upN] at l7x8d0 l7x8d1
  have c7x9 := Own.cell O7 9 rfl
  have f7x9 := Own.free O7 9 rfl
  have l7x9 := Own.lt O7 9 rfl
  have l7x9d0 := le_up 0 l7x9
  have l7x9d1 := le_up 1 l7x9
  simp only [upN] at l7x9d0 l7x9d1
  have c7x10 := Own.cell O7 10 rfl
  have f7x10 := Own.free O7 10 rfl
  have l7x10 := Own.lt O7 10 rfl
  have l7x10d0 := le_up 0 l7x10
  have l7x10d1 := le_up 1 l7x10
  simp only [upN] at l7x10d0 l7x10d1
  have HO7 := Lib.hid O7
  clear O7 hb7
  go_wp2_with fail
  rw [rounds_succ]
  go_wp2_with fail
  refine wp_region_grow w.heap.size 9 448 0 [(0, 0, 302231454903657293676544, 65536), (1, 1, 604462909807314587353088, 302231454903657293676544), (2, 0, 1208925819614629174706176, 65536), (3, 4, 2417851639229258349412352, 1208925819614629174706176), (4, 0, 4835703278458516698824704, 65536), (5, 16, 9671406556917033397649408, 4835703278458516698824704), (6, 3, 0, 604462909807314587353344), (7, 79, 0, 2417851639229258349412864), (8, 255, 0, 9671406556917033397650432)] [(.p 0, 1), (.p 1, 3), (.p 2, 7), (.p 3, 15), (.p 4, 31), (.p 5, 63), (.c 6, 127), (.c 7, 255), (.c 8, 511)] [] (keepL [true, true, true, true, true, false, false, false, true, true, true] _) (fun p hp => mem_of_keep hp) (by first | omega | (simp; done) | (simp; omega)) (by kernel_rfl) (by kernel_rfl) (Own.set (Own.set (Own.set (Own.set HO7.out 0 rfl (Ne1.cons (by first | omega | (simp; omega)) (Ne1.cons (by first | omega | (simp; omega)) (Ne1.cons (by first | omega | (simp; omega)) (Ne1.cons (by first | omega | (simp; omega)) (Ne1.cons (by first | omega | (simp; omega)) (Ne1.cons (by first | omega | (simp; omega)) (Ne1.cons (by first | omega | (simp; omega)) (Ne1.cons (by first | omega | (simp; omega)) (Ne1.cons (by first | omega | (simp; omega)) (Ne1.cons (by first | omega | (simp; omega)) Ne1.nil))))))))))) 0 rfl (Ne1.cons (by first | omega | (simp; omega)) (Ne1.cons (by first | omega | (simp; omega)) (Ne1.cons (by first | omega | (simp; omega)) (Ne1.cons (by first | omega | (simp; omega)) (Ne1.cons (by first | omega | (simp; omega)) (Ne1.cons (by first | omega | (simp; omega)) (Ne1.cons (by first | omega | (simp; omega)) (Ne1.cons (by first | omega | (simp; omega)) (Ne1.cons (by first | omega | (simp; omega)) (Ne1.cons (by first | omega | (simp; omega)) Ne1.nil))))))))))) 0 rfl (Ne1.cons (by first | omega | (simp; omega)) (Ne1.cons (by first | omega | (simp; omega)) (Ne1.cons (by first | omega | (simp; omega)) (Ne1.cons (by first | omega | (simp; omega)) (Ne1.cons (by first | omega | (simp; omega)) (Ne1.cons (by first | omega | (simp; omega)) (Ne1.cons (by first | omega | (simp; omega)) (Ne1.cons (by first | omega | (simp; omega)) (Ne1.cons (by first | omega | (simp; omega)) (Ne1.cons (by first | omega | (simp; omega)) Ne1.nil))))))))))) 0 rfl (Ne1.cons (by first | omega | (simp; omega)) (Ne1.cons (by first | omega | (simp; omega)) (Ne1.cons (by first | omega | (simp; omega)) (Ne1.cons (by first | omega | (simp; omega)) (Ne1.cons (by first | omega | (simp; omega)) (Ne1.cons (by first | omega | (simp; omega)) (Ne1.cons (by first | omega | (simp; omega)) (Ne1.cons (by first | omega | (simp; omega)) (Ne1.cons (by first | omega | (simp; omega)) (Ne1.cons (by first | omega | (simp; omega)) Ne1.nil))))))))))) ?_
  refine wpG_pure (i := 0) (v := ?v8x0) rfl rfl (by rfl) (fun w hB hG K hK => ?h8x0) ?_
  case h8x0 =>
    go_wp2_with fail
    exact hK _ (Below.refl _ _)
  simp only [List.set_cons_zero, List.set_cons_succ]
  refine wpG_pure (i := 1) (v := ?v8x1) rfl rfl (by rfl) (fun w hB hG K hK => ?h8x1) ?_
  case h8x1 =>
    have cx := Own.cell hG 0 rfl
    go_wp2_with fail
    exact hK _ (Below.refl _ _)
  simp only [List.set_cons_zero, List.set_cons_succ]
  refine wpG_pure (i := 2) (v := ?v8x2) rfl rfl (by rfl) (fun w hB hG K hK => ?h8x2) ?_
  case h8x2 =>
    go_wp2_with fail
    exact hK _ (Below.refl _ _)
  simp only [List.set_cons_zero, List.set_cons_succ]
  refine wpG_pure (i := 3) (v := ?v8x3) rfl rfl (by rfl) (fun w hB hG K hK => ?h8x3) ?_
  case h8x3 =>
    have cx := Own.cell hG 0 rfl
    go_wp2_with fail
    exact hK _ (Below.refl _ _)
  simp only [List.set_cons_zero, List.set_cons_succ]
  refine wpG_pure (i := 4) (v := ?v8x4) rfl rfl (by rfl) (fun w hB hG K hK => ?h8x4) ?_
  case h8x4 =>
    go_wp2_with fail
    exact hK _ (Below.refl _ _)
  simp only [List.set_cons_zero, List.set_cons_succ]
  refine wpG_pure (i := 5) (v := ?v8x5) rfl rfl (by rfl) (fun w hB hG K hK => ?h8x5) ?_
  case h8x5 =>
    have cx := Own.cell hG 0 rfl
    go_wp2_with fail
    exact hK _ (Below.refl _ _)
  simp only [List.set_cons_zero, List.set_cons_succ]
  refine wpG_store (i := 6) (c' := ?c8x6) 7 rfl (Ne1.cons (by first | omega | (simp; omega)) (Ne1.cons (by first | omega | (simp; omega)) (Ne1.cons (by first | omega | (simp; omega)) (Ne1.cons (by first | omega | (simp; omega)) (Ne1.cons (by first | omega | (simp; omega)) (Ne1.cons (by first | omega | (simp; omega)) (Ne1.cons (by first | omega | (simp; omega)) (Ne1.cons (by first | omega | (simp; omega)) (Ne1.cons (by first | omega | (simp; omega)) (Ne1.cons (by first | omega | (simp; omega)) Ne1.nil)))))))))) (by first | omega | (simp; omega)) (fun p hp => mem_of_keep (ms := [true, true, true, true, true, false, false, false, true, true, true]) hp) rfl rfl (by rfl) (fun w hB hF hG K hK => ?h8x6) ?_
  case h8x6 =>
    have cx := hF.cell
    have fx := hF.free
    go_wp2_with fail
    refine hK _ (Same.set (Same.set (Same.set (Same.set (Same.refl _ _) _ _) _ _) _ _) _ _) ?_
    exact (Blk.set (Blk.set (Blk.set (Blk.set hF _ _) _ _) _ _) _ _)
  simp only [List.set_cons_zero, List.set_cons_succ, List.setIfInBounds_toArray]
  refine wpG_store (i := 7) (c' := ?c8x7) 6 rfl (Ne1.cons (by first | omega | (simp; omega)) (Ne1.cons (by first | omega | (simp; omega)) (Ne1.cons (by first | omega | (simp; omega)) (Ne1.cons (by first | omega | (simp; omega)) (Ne1.cons (by first | omega | (simp; omega)) (Ne1.cons (by first | omega | (simp; omega)) (Ne1.cons (by first | omega | (simp; omega)) (Ne1.cons (by first | omega | (simp; omega)) (Ne1.cons (by first | omega | (simp; omega)) (Ne1.cons (by first | omega | (simp; omega)) Ne1.nil)))))))))) (by first | omega | (simp; omega)) (fun p hp => mem_of_keep (ms := [true, true, true, true, true, false, false, false, true, true, true]) hp) rfl rfl (by rfl) (fun w hB hF hG K hK => ?h8x7) ?_
  case h8x7 =>
    have cx := hF.cell
    have fx := hF.free
    go_wp2_with fail
    refine hK _ (Same.set (Same.set (Same.set (Same.set (Same.refl _ _) _ _) _ _) _ _) _ _) ?_
    exact (Blk.set (Blk.set (Blk.set (Blk.set hF _ _) _ _) _ _) _ _)
  simp only [List.set_cons_zero, List.set_cons_succ, List.setIfInBounds_toArray]
  refine wpG_store (i := 8) (c' := ?c8x8) 5 rfl (Ne1.cons (by first | omega | (simp; omega)) (Ne1.cons (by first | omega | (simp; omega)) (Ne1.cons (by first | omega | (simp; omega)) (Ne1.cons (by first | omega | (simp; omega)) (Ne1.cons (by first | omega | (simp; omega)) (Ne1.cons (by first | omega | (simp; omega)) (Ne1.cons (by first | omega | (simp; omega)) (Ne1.cons (by first | omega | (simp; omega)) (Ne1.cons (by first | omega | (simp; omega)) (Ne1.cons (by first | omega | (simp; omega)) Ne1.nil)))))))))) (by first | omega | (simp; omega)) (fun p hp => mem_of_keep (ms := [true, true, true, true, true, false, false, false, true, true, true]) hp) rfl rfl (by rfl) (fun w hB hF hG K hK => ?h8x8) ?_
  case h8x8 =>
    have cx := hF.cell
    have fx := hF.free
    go_wp2_with fail
    refine hK _ (Same.set (Same.set (Same.set (Same.set (Same.refl _ _) _ _) _ _) _ _) _ _) ?_
    exact (Blk.set (Blk.set (Blk.set (Blk.set hF _ _) _ _) _ _) _ _)
  simp only [List.set_cons_zero, List.set_cons_succ, List.setIfInBounds_toArray]
  refine wpG_nil (fun w8 hb8 hG8 => ?_)
  simp only [List.append_eq, List.cons_append, List.nil_append, List.drop_succ_cons, List.drop_zero, List.drop_nil]
  have O8 := Own.of hG8
  try simp only [List.setIfInBounds_toArray, List.set_cons_zero, List.set_cons_succ] at O8
  have bw8 : Below w.heap.size w w8 := Below.trans (by go_grown) (Below.mono hb8 (by first | omega | (simp; done) | (simp; omega)))
  have zw8 := Below.size hb8
  try simp only [World.size_alloc, World.size_drew, World.size_setCell] at zw8
  clear c7x0 f7x0 l7x0 l7x0d0 l7x0d1 c7x1 f7x1 l7x1 l7x1d0 l7x1d1 c7x2 f7x2 l7x2 l7x2d0 l7x2d1 c7x3 f7x3 l7x3 l7x3d0 l7x3d1 c7x4 f7x4 l7x4 l7x4d0 l7x4d1 c7x5 f7x5 l7x5 l7x5d0 l7x5d1 c7x6 f7x6 l7x6 l7x6d0 l7x6d1 c7x7 f7x7 l7x7 l7x7d0 l7x7d1 c7x8 f7x8 l7x8 l7x8d0 l7x8d1 c7x9 f7x9 l7x9 l7x9d0 l7x9d1 c7x10 f7x10 l7x10 l7x10d0 l7x10d1
  have c8x0 := Own.cell O8 0 rfl
  have f8x0 := Own.free O8 0 rfl
  have l8x0 := Own.lt O8 0 rfl
  have l8x0d0 := le_up 0 l8x0
  have l8x0d1 := le_up 1 l8x0
  simp only [upN] at l8x0d0 l8x0d1
  have c8x1 := Own.cell O8 1 rfl
  have f8x1 := Own.free O8 1 rfl
  have l8x1 := Own.lt O8 1 rfl
  have l8x1d0 := le_up 0 l8x1
  have l8x1d1 := le_up 1 l8x1
  simp only [upN] at l8x1d0 l8x1d1
  have c8x2 := Own.cell O8 2 rfl
  have f8x2 := Own.free O8 2 rfl
  have l8x2 := Own.lt O8 2 rfl
  have l8x2d0 := le_up 0 l8x2
  have l8x2d1 := le_up 1 l8x2
  simp only [upN] at l8x2d0 l8x2d1
  have c8x3 := Own.cell O8 3 rfl
  have f8x3 := Own.free O8 3 rfl
  have l8x3 := Own.lt O8 3 rfl
  have l8x3d0 := le_up 0 l8x3
  have l8x3d1 := le_up 1 l8x3
  simp only [upN] at l8x3d0 l8x3d1
  have c8x4 := Own.cell O8 4 rfl
  have f8x4 := Own.free O8 4 rfl
  have l8x4 := Own.lt O8 4 rfl
  have l8x4d0 := le_up 0 l8x4
  have l8x4d1 := le_up 1 l8x4
  simp only [upN] at l8x4d0 l8x4d1
  have c8x5 := Own.cell O8 5 rfl
  have f8x5 := Own.free O8 5 rfl
  have l8x5 := Own.lt O8 5 rfl
  have l8x5d0 := le_up 0 l8x5
  have l8x5d1 := le_up 1 l8x5
  simp only [upN] at l8x5d0 l8x5d1
  have c8x6 := Own.cell O8 6 rfl
  have f8x6 := Own.free O8 6 rfl
  have l8x6 := Own.lt O8 6 rfl
  have l8x6d0 := le_up 0 l8x6
  have l8x6d1 := le_up 1 l8x6
  simp only [upN] at l8x6d0 l8x6d1
  have c8x7 := Own.cell O8 7 rfl
  have f8x7 := Own.free O8 7 rfl
  have l8x7 := Own.lt O8 7 rfl
  have l8x7d0 := le_up 0 l8x7
  have l8x7d1 := le_up 1 l8x7
  simp only [upN] at l8x7d0 l8x7d1
  have c8x8 := Own.cell O8 8 rfl
  have f8x8 := Own.free O8 8 rfl
  have l8x8 := Own.lt O8 8 rfl
  have l8x8d0 := le_up 0 l8x8
  have l8x8d1 := le_up 1 l8x8
  simp only [upN] at l8x8d0 l8x8d1
  have c8x9 := Own.cell O8 9 rfl
  have f8x9 := Own.free O8 9 rfl
  have l8x9 := Own.lt O8 9 rfl
  have l8x9d0 := le_up 0 l8x9
  have l8x9d1 := le_up 1 l8x9
  simp only [upN] at l8x9d0 l8x9d1
  have c8x10 := Own.cell O8 10 rfl
  have f8x10 := Own.free O8 10 rfl
  have l8x10 := Own.lt O8 10 rfl
  have l8x10d0 := le_up 0 l8x10
  have l8x10d1 := le_up 1 l8x10
  simp only [upN] at l8x10d0 l8x10d1
  have HO8 := Lib.hid O8
  clear O8 hb8
  go_wp2_with fail
  refine bodyPost_ret (v := .tuple #[.agg #[.int .u64 (n + E), .int .u64 (100 + E), .int .u64 (20000 + E), .int .u64 a], .agg #[.int .u64 m, .int .u64 0, .int .u64 19900, .int .u64 a], .agg #[.int .u64 l, .int .u64 0, .int .u64 4800, .int .u64 a]]) (by simp [results, Try.results6, go_sem, *]) rfl ?_
  exact ⟨rfl, by go_grown⟩
end Go.Proofs.Ytiglfbnicihpmaa
