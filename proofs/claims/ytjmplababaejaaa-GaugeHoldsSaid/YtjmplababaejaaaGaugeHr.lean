/- The law GaugeHolds: walks. -/
import Derived.Test.YtjmplababaejaaaGaugeHo
import Derived.Test.YtjmplababaejaaaGaugeO
import Derived.Test.YtjmplababaejaaaGaugeN
import Derived.Test.YtjmplababaejaaaGaugeH
import Derived.Test.YtjmplababaejaaaGaugeHu
set_option linter.unusedVariables false
set_option linter.unusedSimpArgs false
namespace Go.Proofs.Ytjmplababaejaaa
open Go.RowKit

set_option maxHeartbeats 8000000 in
set_option maxRecDepth 20000 in
theorem gholds_5 (g h c d : Kn) (m U hl dl : Int) (a p q : Kn) (bl rl sl kk : Int) (w : World) (hU : bits .and .u64 g.a 5 = U) (hl1 : bits .andNot .u64 g.a U = 0 → hl = g.l) (hl0 : ¬ bits .andNot .u64 g.a U = 0 → hl = h.l) (dl1 : bits .andNot .u64 c.a U = 0 → dl = c.l) (dl0 : ¬ bits .andNot .u64 c.a U = 0 → dl = d.l)
    (hk1 : ∀ (V : World) (b : Nat), Blk V b #[.int .u64 c.l, .int .u64 c.lo, .int .u64 c.hi, .int .u64 c.a, .int .u64 c.l, .int .u64 c.lo, .int .u64 c.hi, .int .u64 c.a] 40 → Calls Try.prog 16 #[.agg #[.int .u64 g.l, .int .u64 g.lo, .int .u64 g.hi, .int .u64 g.a], .slice (some ⟨b, 0, none⟩) 2 2] V fun e w' => e = .returned (.int .i64 0) ∧ Below V.heap.size V w')
    (hk2 : ∀ (V : World) (b : Nat), Blk V b #[.int .u64 dl, .int .u64 c.lo, .int .u64 c.hi, .int .u64 c.a] 40 → Calls Try.prog 16 #[.agg #[.int .u64 hl, .int .u64 g.lo, .int .u64 g.hi, .int .u64 g.a], .slice (some ⟨b, 0, none⟩) 1 1] V fun e w' => e = .returned (.int .i64 0) ∧ Below V.heap.size V w')
    (ht1 : ∀ V : World, Calls Try.prog 17 #[.agg #[.int .u64 g.l, .int .u64 g.lo, .int .u64 g.hi, .int .u64 g.a], .agg #[.int .u64 c.l, .int .u64 c.lo, .int .u64 c.hi, .int .u64 c.a]] V fun e w' => e = .returned (.tuple #[.agg #[.int .u64 a.l, .int .u64 a.lo, .int .u64 a.hi, .int .u64 a.a], .int .i64 kk, .int .i64 0]) ∧ Below V.heap.size V w')
    (ht2 : ∀ V : World, Calls Try.prog 17 #[.agg #[.int .u64 hl, .int .u64 g.lo, .int .u64 g.hi, .int .u64 g.a], .agg #[.int .u64 dl, .int .u64 c.lo, .int .u64 c.hi, .int .u64 c.a]] V fun e w' => e = .returned (.tuple #[.agg #[.int .u64 bl, .int .u64 a.lo, .int .u64 a.hi, .int .u64 a.a], .int .i64 kk, .int .i64 0]) ∧ Below V.heap.size V w')
    (hs1 : ∀ V : World, Calls Try.prog 7 #[.agg #[.int .u64 g.l, .int .u64 g.lo, .int .u64 g.hi, .int .u64 g.a], .int .u64 m] V fun e w' => e = .returned (.tuple #[.agg #[.int .u64 p.l, .int .u64 p.lo, .int .u64 p.hi, .int .u64 p.a], .agg #[.int .u64 q.l, .int .u64 q.lo, .int .u64 q.hi, .int .u64 q.a], .int .i64 0]) ∧ Below V.heap.size V w')
    (hs2 : ∀ V : World, Calls Try.prog 7 #[.agg #[.int .u64 hl, .int .u64 g.lo, .int .u64 g.hi, .int .u64 g.a], .int .u64 m] V fun e w' => e = .returned (.tuple #[.agg #[.int .u64 rl, .int .u64 p.lo, .int .u64 p.hi, .int .u64 p.a], .agg #[.int .u64 sl, .int .u64 q.lo, .int .u64 q.hi, .int .u64 q.a], .int .i64 0]) ∧ Below V.heap.size V w')
    (ha1 : ∀ V : World, Calls Try.prog 12 #[.agg #[.int .u64 a.l, .int .u64 a.lo, .int .u64 a.hi, .int .u64 a.a], .agg #[.int .u64 bl, .int .u64 a.lo, .int .u64 a.hi, .int .u64 a.a], .int .u64 U] V fun e w' => e = .returned (.bool true) ∧ Below V.heap.size V w')
    (ha2 : ∀ V : World, Calls Try.prog 12 #[.agg #[.int .u64 p.l, .int .u64 p.lo, .int .u64 p.hi, .int .u64 p.a], .agg #[.int .u64 rl, .int .u64 p.lo, .int .u64 p.hi, .int .u64 p.a], .int .u64 U] V fun e w' => e = .returned (.bool true) ∧ Below V.heap.size V w')
    (ha3 : ∀ V : World, Calls Try.prog 12 #[.agg #[.int .u64 q.l, .int .u64 q.lo, .int .u64 q.hi, .int .u64 q.a], .agg #[.int .u64 sl, .int .u64 q.lo, .int .u64 q.hi, .int .u64 q.a], .int .u64 U] V fun e w' => e = .returned (.bool true) ∧ Below V.heap.size V w')
    (hc1 : ∀ V : World, Calls Try.prog 16 #[.agg #[.int .u64 a.l, .int .u64 a.lo, .int .u64 a.hi, .int .u64 a.a], .slice none 0 0] V fun e w' => e = .returned (.int .i64 0) ∧ Below V.heap.size V w')
    (hc2 : ∀ V : World, Calls Try.prog 16 #[.agg #[.int .u64 p.l, .int .u64 p.lo, .int .u64 p.hi, .int .u64 p.a], .slice none 0 0] V fun e w' => e = .returned (.int .i64 0) ∧ Below V.heap.size V w')
    (hc3 : ∀ V : World, Calls Try.prog 16 #[.agg #[.int .u64 q.l, .int .u64 q.lo, .int .u64 q.hi, .int .u64 q.a], .slice none 0 0] V fun e w' => e = .returned (.int .i64 0) ∧ Below V.heap.size V w')
    (d5 : decide (1099511627776 < m) = false) (hw : IntKind.u64.wrap (p.l + q.l) = g.l) (d1 : decide (g.a = 0) = true) (d2 : decide (c.a = 0) = false) :
    Calls Try.prog 4 #[.agg #[.int .u64 g.l, .int .u64 g.lo, .int .u64 g.hi, .int .u64 g.a, .int .u64 h.l, .int .u64 h.lo, .int .u64 h.hi, .int .u64 h.a], .agg #[.int .u64 c.l, .int .u64 c.lo, .int .u64 c.hi, .int .u64 c.a, .int .u64 d.l, .int .u64 d.lo, .int .u64 d.hi, .int .u64 d.a], .int .u64 m] w fun e w' => e = .returned (.bool true) ∧ Below w.heap.size w w' := by
  have HK1 := Lib.hid hk1
  have HK2 := Lib.hid hk2
  have HT1 := Lib.hid ht1
  have HT2 := Lib.hid ht2
  have HS1 := Lib.hid hs1
  have HS2 := Lib.hid hs2
  have HA1 := Lib.hid ha1
  have HA2 := Lib.hid ha2
  have HA3 := Lib.hid ha3
  have HC1 := Lib.hid hc1
  have HC2 := Lib.hid hc2
  have HC3 := Lib.hid hc3
  clear hk1 hk2 ht1 ht2 hs1 hs2 ha1 ha2 ha3 hc1 hc2 hc3
  have e1 : (g.a == 0) = true := by simpa using d1
  have e2 : (c.a == 0) = false := by simpa using d2
  have hUU : bits .and .u64 g.a 5 = U := hU
  go_enter Try.func4, Try.ntmps4
  go_wp2_with fail
  refine wp_region_grow w.heap.size 8 192 48 [(0, 0, 8388608, 8), (1, 1, 16777216, 8388608), (2, 0, 33554432, 8), (3, 4, 67108864, 33554432), (4, 0, 128, 0), (5, 0, 256, 0), (6, 51, 0, 16777344), (7, 127, 0, 67109120)] [(.p 0, 1), (.p 1, 3), (.p 2, 7), (.p 3, 15), (.gg 4 5, 63), (.c 6, 127), (.c 7, 255)] [] _ (fun p hp => hp) (by first | omega | (simp; done) | (simp; omega)) (by kernel_rfl) (by kernel_rfl) (Own.new (Own.new (Own.nil w) (w.heap.size) (by first | rfl | simp)) (w.heap.size + 1) (by simp)) ?_
  refine wpG_pure (i := 0) (v := ?v1x0) rfl rfl (by rfl) (fun w hB hG K hK => ?h1x0) ?_
  case h1x0 =>
    go_wp2_with fail
    exact hK _ (Below.refl _ _)
  simp only [List.set_cons_zero, List.set_cons_succ]
  refine wpG_pure (i := 1) (v := ?v1x1) rfl rfl (by rfl) (fun w hB hG K hK => ?h1x1) ?_
  case h1x1 =>
    have cx := Own.cell hG 1 rfl
    go_wp2_with fail
    exact hK _ (Below.refl _ _)
  simp only [List.set_cons_zero, List.set_cons_succ]
  refine wpG_pure (i := 2) (v := ?v1x2) rfl rfl (by rfl) (fun w hB hG K hK => ?h1x2) ?_
  case h1x2 =>
    go_wp2_with fail
    exact hK _ (Below.refl _ _)
  simp only [List.set_cons_zero, List.set_cons_succ]
  refine wpG_pure (i := 3) (v := ?v1x3) rfl rfl (by rfl) (fun w hB hG K hK => ?h1x3) ?_
  case h1x3 =>
    have cx := Own.cell hG 1 rfl
    go_wp2_with fail
    exact hK _ (Below.refl _ _)
  simp only [List.set_cons_zero, List.set_cons_succ]
  refine wpG_pair (i := 4) (j := 5) (c := ?c1x4) (t := ?t1x4) (c2 := ?c1x5) (t2 := ?t1x5) (fun b => .pointer (some ⟨b, 0, none⟩)) (fun b => .pointer (some ⟨b, 0, none⟩)) rfl rfl rfl rfl (by rfl) (by rfl) (fun w hB hG K hK => ?h1x4) (fun w hB hG K hK => ?h1x5) (fun v1g1 v1g2 l1g1 l1g2 n1g1 _ _ => ?_)
  case h1x4 =>
    go_wp2_with fail
    exact hK
  case h1x5 =>
    go_wp2_with fail
    exact hK
  simp only [List.set_cons_zero, List.set_cons_succ]
  try simp only [World.size_alloc, World.size_drew, World.size_setCell] at l1g1
  try simp only [World.size_alloc, World.size_drew, World.size_setCell] at l1g2
  refine wpG_store (i := 6) (c' := ?c1x6) 1 rfl (Ne1.cons (by first | omega | (simp; omega)) (Ne1.cons (by first | omega | (simp; omega)) (Ne1.cons (by first | omega | (simp; omega)) Ne1.nil))) (by first | omega | (simp; omega)) (fun p hp => List.mem_cons_of_mem _ (List.mem_cons_of_mem _ (hp))) rfl rfl (by rfl) (fun w hB hF hG K hK => ?h1x6) ?_
  case h1x6 =>
    have cx := hF.cell
    have fx := hF.free
    go_wp2_with fail
    refine hK _ (Same.set (Same.set (Same.set (Same.set (Same.refl _ _) _ _) _ _) _ _) _ _) ?_
    exact (Blk.set (Blk.set (Blk.set (Blk.set hF _ _) _ _) _ _) _ _)
  simp only [List.set_cons_zero, List.set_cons_succ, List.setIfInBounds_toArray]
  refine wpG_store (i := 7) (c' := ?c1x7) 0 rfl (Ne1.cons (by first | omega | (simp; omega)) (Ne1.cons (by first | omega | (simp; omega)) (Ne1.cons (by first | omega | (simp; omega)) Ne1.nil))) (by first | omega | (simp; omega)) (fun p hp => List.mem_cons_of_mem _ (List.mem_cons_of_mem _ (hp))) rfl rfl (by rfl) (fun w hB hF hG K hK => ?h1x7) ?_
  case h1x7 =>
    have cx := hF.cell
    have fx := hF.free
    go_wp2_with fail
    refine hK _ (Same.set (Same.set (Same.set (Same.set (Same.refl _ _) _ _) _ _) _ _) _ _) ?_
    exact (Blk.set (Blk.set (Blk.set (Blk.set hF _ _) _ _) _ _) _ _)
  simp only [List.set_cons_zero, List.set_cons_succ, List.setIfInBounds_toArray]
  refine wpG_nil (fun w1 hb1 hG1 => ?_)
  simp only [List.append_eq, List.cons_append, List.nil_append, List.drop_succ_cons, List.drop_zero, List.drop_nil]
  have u1g1 := Own.lt hG1 1 rfl
  have u1g2 := Own.lt hG1 0 rfl
  have O1 := Own.of hG1
  try simp only [List.setIfInBounds_toArray, List.set_cons_zero, List.set_cons_succ] at O1
  have bw1 : Below w.heap.size w w1 := Below.trans (by go_grown) (Below.mono hb1 (by first | omega | (simp; done) | (simp; omega)))
  have zw1 := Below.size hb1
  try simp only [World.size_alloc, World.size_drew, World.size_setCell] at zw1
  have c1x0 := Own.cell O1 0 rfl
  have f1x0 := Own.free O1 0 rfl
  have l1x0 := Own.lt O1 0 rfl
  have l1x0d0 := le_up 0 l1x0
  have l1x0d1 := le_up 1 l1x0
  simp only [upN] at l1x0d0 l1x0d1
  have a1x0 := fun o1 o2 o3 i => cell_al3 l1x0 o1 o2 o3 i
  have c1x1 := Own.cell O1 1 rfl
  have f1x1 := Own.free O1 1 rfl
  have l1x1 := Own.lt O1 1 rfl
  have l1x1d0 := le_up 0 l1x1
  have l1x1d1 := le_up 1 l1x1
  simp only [upN] at l1x1d0 l1x1d1
  have a1x1 := fun o1 o2 o3 i => cell_al3 l1x1 o1 o2 o3 i
  have c1x2 := Own.cell O1 2 rfl
  have f1x2 := Own.free O1 2 rfl
  have l1x2 := Own.lt O1 2 rfl
  have l1x2d0 := le_up 0 l1x2
  have l1x2d1 := le_up 1 l1x2
  simp only [upN] at l1x2d0 l1x2d1
  have a1x2 := fun o1 o2 o3 i => cell_al3 l1x2 o1 o2 o3 i
  have c1x3 := Own.cell O1 3 rfl
  have f1x3 := Own.free O1 3 rfl
  have l1x3 := Own.lt O1 3 rfl
  have l1x3d0 := le_up 0 l1x3
  have l1x3d1 := le_up 1 l1x3
  simp only [upN] at l1x3d0 l1x3d1
  have a1x3 := fun o1 o2 o3 i => cell_al3 l1x3 o1 o2 o3 i
  have HO1 := Lib.hid O1
  clear O1 hb1
  go_wp2_with fail
  refine wp_region_grow w.heap.size 11 640 0 [(0, 0, 1073741824, 128), (1, 1, 2147483648, 1073741824), (2, 0, 4294967296, 128), (3, 4, 8589934592, 4294967296), (4, 0, 17179869184, 128), (5, 16, 34359738368, 17179869184), (6, 3, 68719476736, 256), (7, 67, 0, 70866960384), (8, 207, 137438953472, 256), (9, 463, 0, 146028888064), (10, 1023, 274877906944, 256), (11, 2047, 0, 309237645312)] [(.p 0, 1), (.p 1, 3), (.p 2, 7), (.p 3, 15), (.p 4, 31), (.p 5, 63), (.p 6, 127), (.c 7, 255), (.p 8, 511), (.c 9, 1023), (.p 10, 2047)] [(11, 4095)] (List.eraseIdx _ 0) (fun p hp => List.mem_of_mem_eraseIdx hp) (by first | omega | (simp; done) | (simp; omega)) (by kernel_rfl) (by kernel_rfl) HO1.out ?_
  refine wpG_pure (i := 0) (v := ?v2x0) rfl rfl (by rfl) (fun w hB hG K hK => ?h2x0) ?_
  case h2x0 =>
    go_wp2_with fail
    exact hK _ (Below.refl _ _)
  simp only [List.set_cons_zero, List.set_cons_succ]
  refine wpG_pure (i := 1) (v := ?v2x1) rfl rfl (by rfl) (fun w hB hG K hK => ?h2x1) ?_
  case h2x1 =>
    have cx := Own.cell hG 0 rfl
    go_wp2_with fail
    exact hK _ (Below.refl _ _)
  simp only [List.set_cons_zero, List.set_cons_succ]
  refine wpG_pure (i := 2) (v := ?v2x2) rfl rfl (by rfl) (fun w hB hG K hK => ?h2x2) ?_
  case h2x2 =>
    go_wp2_with fail
    exact hK _ (Below.refl _ _)
  simp only [List.set_cons_zero, List.set_cons_succ]
  refine wpG_pure (i := 3) (v := ?v2x3) rfl rfl (by rfl) (fun w hB hG K hK => ?h2x3) ?_
  case h2x3 =>
    have cx := Own.cell hG 0 rfl
    go_wp2_with fail
    exact hK _ (Below.refl _ _)
  simp only [List.set_cons_zero, List.set_cons_succ]
  refine wpG_pure (i := 4) (v := ?v2x4) rfl rfl (by rfl) (fun w hB hG K hK => ?h2x4) ?_
  case h2x4 =>
    go_wp2_with fail
    exact hK _ (Below.refl _ _)
  simp only [List.set_cons_zero, List.set_cons_succ]
  refine wpG_pure (i := 5) (v := ?v2x5) rfl rfl (by rfl) (fun w hB hG K hK => ?h2x5) ?_
  case h2x5 =>
    have cx := Own.cell hG 0 rfl
    go_wp2_with fail
    exact hK _ (Below.refl _ _)
  simp only [List.set_cons_zero, List.set_cons_succ]
  refine wpG_pure (i := 6) (v := ?v2x6) rfl rfl (by rfl) (fun w hB hG K hK => ?h2x6) ?_
  case h2x6 =>
    go_wp2_with fail
    exact hK _ (Below.refl _ _)
  simp only [List.set_cons_zero, List.set_cons_succ]
  refine wpG_store (i := 7) (c' := ?c2x7) 0 rfl (Ne1.cons (by first | omega | (simp; omega)) (Ne1.cons (by first | omega | (simp; omega)) (Ne1.cons (by first | omega | (simp; omega)) Ne1.nil))) (by first | omega | (simp; omega)) (fun p hp => mem_set_erase hp) rfl rfl (by rfl) (fun w hB hF hG K hK => ?h2x7) ?_
  case h2x7 =>
    have cx := hF.cell
    have fx := hF.free
    go_wp2_with fail
    refine hK _ (Same.set (Same.refl _ _) _ _) ?_
    exact (Blk.set hF _ _)
  simp only [List.set_cons_zero, List.set_cons_succ, List.setIfInBounds_toArray]
  refine wpG_pure (i := 8) (v := ?v2x8) rfl rfl (by rfl) (fun w hB hG K hK => ?h2x8) ?_
  case h2x8 =>
    go_wp2_with fail
    exact hK _ (Below.refl _ _)
  simp only [List.set_cons_zero, List.set_cons_succ]
  refine wpG_store (i := 9) (c' := ?c2x9) 0 rfl (Ne1.cons (by first | omega | (simp; omega)) (Ne1.cons (by first | omega | (simp; omega)) (Ne1.cons (by first | omega | (simp; omega)) Ne1.nil))) (by first | omega | (simp; omega)) (fun p hp => mem_set_erase hp) rfl rfl (by rfl) (fun w hB hF hG K hK => ?h2x9) ?_
  case h2x9 =>
    have cx := hF.cell
    have fx := hF.free
    go_wp2_with fail
    refine hK _ (Same.set (Same.refl _ _) _ _) ?_
    exact (Blk.set hF _ _)
  simp only [List.set_cons_zero, List.set_cons_succ, List.setIfInBounds_toArray]
  refine wpG_pure (i := 10) (v := ?v2x10) rfl rfl (by rfl) (fun w hB hG K hK => ?h2x10) ?_
  case h2x10 =>
    go_wp2_with fail
    exact hK _ (Below.refl _ _)
  simp only [List.set_cons_zero, List.set_cons_succ]
  refine wpG_nil (fun w2 hb2 hG2 => ?_)
  simp only [List.append_eq, List.cons_append, List.nil_append, List.drop_succ_cons, List.drop_zero, List.drop_nil]
  have O2 := Own.of hG2
  try simp only [List.setIfInBounds_toArray, List.set_cons_zero, List.set_cons_succ] at O2
  have bw2 : Below w.heap.size w w2 := Below.trans (by go_grown) (Below.mono hb2 (by first | omega | (simp; done) | (simp; omega)))
  have zw2 := Below.size hb2
  try simp only [World.size_alloc, World.size_drew, World.size_setCell] at zw2
  clear c1x0 f1x0 l1x0 l1x0d0 l1x0d1 a1x0 c1x1 f1x1 l1x1 l1x1d0 l1x1d1 a1x1 c1x2 f1x2 l1x2 l1x2d0 l1x2d1 a1x2 c1x3 f1x3 l1x3 l1x3d0 l1x3d1 a1x3
  have c2x0 := Own.cell O2 0 rfl
  have f2x0 := Own.free O2 0 rfl
  have l2x0 := Own.lt O2 0 rfl
  have l2x0d0 := le_up 0 l2x0
  have l2x0d1 := le_up 1 l2x0
  simp only [upN] at l2x0d0 l2x0d1
  have a2x0 := fun o1 o2 o3 i => cell_al3 l2x0 o1 o2 o3 i
  have c2x1 := Own.cell O2 1 rfl
  have f2x1 := Own.free O2 1 rfl
  have l2x1 := Own.lt O2 1 rfl
  have l2x1d0 := le_up 0 l2x1
  have l2x1d1 := le_up 1 l2x1
  simp only [upN] at l2x1d0 l2x1d1
  have a2x1 := fun o1 o2 o3 i => cell_al3 l2x1 o1 o2 o3 i
  have c2x2 := Own.cell O2 2 rfl
  have f2x2 := Own.free O2 2 rfl
  have l2x2 := Own.lt O2 2 rfl
  have l2x2d0 := le_up 0 l2x2
  have l2x2d1 := le_up 1 l2x2
  simp only [upN] at l2x2d0 l2x2d1
  have a2x2 := fun o1 o2 o3 i => cell_al3 l2x2 o1 o2 o3 i
  have c2x3 := Own.cell O2 3 rfl
  have f2x3 := Own.free O2 3 rfl
  have l2x3 := Own.lt O2 3 rfl
  have l2x3d0 := le_up 0 l2x3
  have l2x3d1 := le_up 1 l2x3
  simp only [upN] at l2x3d0 l2x3d1
  have a2x3 := fun o1 o2 o3 i => cell_al3 l2x3 o1 o2 o3 i
  have HO2 := Lib.hid O2
  clear O2 hb2
  go_upto_if 49 with (fail)
  go_cut [] (fun wx => Own [(w2.heap.size, #[.int .u64 d.l, .int .u64 c.lo, .int .u64 c.hi, .int .u64 c.a], 40), (v1g2, #[.int .u64 hl, .int .u64 g.lo, .int .u64 g.hi, .int .u64 g.a], 25), (v1g1, #[.int .u64 g.l, .int .u64 g.lo, .int .u64 g.hi, .int .u64 g.a], 25), (w.heap.size + 1, #[.int .u64 c.l, .int .u64 c.lo, .int .u64 c.hi, .int .u64 c.a, .int .u64 d.l, .int .u64 d.lo, .int .u64 d.hi, .int .u64 d.a], 41), (w.heap.size, #[.int .u64 g.l, .int .u64 g.lo, .int .u64 g.hi, .int .u64 g.a, .int .u64 h.l, .int .u64 h.lo, .int .u64 h.hi, .int .u64 h.a], 26)] wx ∧ Below w.heap.size w wx)
  case first =>
    by_cases he : bits .andNot .u64 g.a U = 0
    · have hq := hl1 he
      go_wp2_with fail
      go_meet
      refine ⟨Own.eqv (Own.new (Own.set (Own.set HO2.out 0 rfl (Ne1.cons (by first | omega | (simp; omega)) (Ne1.cons (by first | omega | (simp; omega)) (Ne1.cons (by first | omega | (simp; omega)) Ne1.nil)))) 0 rfl (Ne1.cons (by first | omega | (simp; omega)) (Ne1.cons (by first | omega | (simp; omega)) (Ne1.cons (by first | omega | (simp; omega)) Ne1.nil)))) (w2.heap.size) (by first | rfl | simp)) ?_, by go_grown⟩
      simp only [List.setIfInBounds_toArray, List.set_cons_zero, List.set_cons_succ, hq]
    · have hq := hl0 he
      go_wp2_with fail
      go_meet
      refine ⟨Own.eqv (Own.new (Own.set HO2.out 0 rfl (Ne1.cons (by first | omega | (simp; omega)) (Ne1.cons (by first | omega | (simp; omega)) (Ne1.cons (by first | omega | (simp; omega)) Ne1.nil)))) (w2.heap.size) (by first | rfl | simp)) ?_, by go_grown⟩
      simp only [List.setIfInBounds_toArray, List.set_cons_zero, List.set_cons_succ, hq]
  case rest =>
    obtain ⟨hO, hb⟩ := hcut
    obtain ⟨wc49, rfl⟩ : ∃ x : World, x = wc := ⟨_, rfl⟩
    have bw3 := hb
    clear c2x0 f2x0 l2x0 l2x0d0 l2x0d1 a2x0 c2x1 f2x1 l2x1 l2x1d0 l2x1d1 a2x1 c2x2 f2x2 l2x2 l2x2d0 l2x2d1 a2x2 c2x3 f2x3 l2x3 l2x3d0 l2x3d1 a2x3
    have O3 := hO
    have c3x0 := Own.cell O3 0 rfl
    have f3x0 := Own.free O3 0 rfl
    have l3x0 := Own.lt O3 0 rfl
    have l3x0d0 := le_up 0 l3x0
    have l3x0d1 := le_up 1 l3x0
    simp only [upN] at l3x0d0 l3x0d1
    have c3x1 := Own.cell O3 1 rfl
    have f3x1 := Own.free O3 1 rfl
    have l3x1 := Own.lt O3 1 rfl
    have l3x1d0 := le_up 0 l3x1
    have l3x1d1 := le_up 1 l3x1
    simp only [upN] at l3x1d0 l3x1d1
    have c3x2 := Own.cell O3 2 rfl
    have f3x2 := Own.free O3 2 rfl
    have l3x2 := Own.lt O3 2 rfl
    have l3x2d0 := le_up 0 l3x2
    have l3x2d1 := le_up 1 l3x2
    simp only [upN] at l3x2d0 l3x2d1
    have c3x3 := Own.cell O3 3 rfl
    have f3x3 := Own.free O3 3 rfl
    have l3x3 := Own.lt O3 3 rfl
    have l3x3d0 := le_up 0 l3x3
    have l3x3d1 := le_up 1 l3x3
    simp only [upN] at l3x3d0 l3x3d1
    have c3x4 := Own.cell O3 4 rfl
    have f3x4 := Own.free O3 4 rfl
    have l3x4 := Own.lt O3 4 rfl
    have l3x4d0 := le_up 0 l3x4
    have l3x4d1 := le_up 1 l3x4
    simp only [upN] at l3x4d0 l3x4d1
    have HO3 := Lib.hid O3
    clear O3
    go_upto_if 57 with (fail)
    go_cut [] (fun wx => Own [(w2.heap.size, #[.int .u64 dl, .int .u64 c.lo, .int .u64 c.hi, .int .u64 c.a], 40), (v1g2, #[.int .u64 hl, .int .u64 g.lo, .int .u64 g.hi, .int .u64 g.a], 25), (v1g1, #[.int .u64 g.l, .int .u64 g.lo, .int .u64 g.hi, .int .u64 g.a], 25), (w.heap.size + 1, #[.int .u64 c.l, .int .u64 c.lo, .int .u64 c.hi, .int .u64 c.a, .int .u64 d.l, .int .u64 d.lo, .int .u64 d.hi, .int .u64 d.a], 41), (w.heap.size, #[.int .u64 g.l, .int .u64 g.lo, .int .u64 g.hi, .int .u64 g.a, .int .u64 h.l, .int .u64 h.lo, .int .u64 h.hi, .int .u64 h.a], 26)] wx ∧ Below w.heap.size w wx)
    case first =>
      by_cases he : bits .andNot .u64 c.a U = 0
      · have hq := dl1 he
        go_wp2_with fail
        go_meet
        refine ⟨Own.eqv (Own.set HO3.out 0 rfl (Ne1.cons (by first | omega | (simp; omega)) (Ne1.cons (by first | omega | (simp; omega)) (Ne1.cons (by first | omega | (simp; omega)) (Ne1.cons (by first | omega | (simp; omega)) Ne1.nil))))) ?_, by go_grown⟩
        simp only [List.setIfInBounds_toArray, List.set_cons_zero, List.set_cons_succ, hq]
      · have hq := dl0 he
        go_wp2_with fail
        go_meet
        refine ⟨Own.eqv HO3.out ?_, by go_grown⟩
        simp only [List.setIfInBounds_toArray, List.set_cons_zero, List.set_cons_succ, hq]
    case rest =>
      obtain ⟨hO, hb⟩ := hcut
      obtain ⟨wc57, rfl⟩ : ∃ x : World, x = wc := ⟨_, rfl⟩
      have bw4 := hb
      clear c3x0 f3x0 l3x0 l3x0d0 l3x0d1 c3x1 f3x1 l3x1 l3x1d0 l3x1d1 c3x2 f3x2 l3x2 l3x2d0 l3x2d1 c3x3 f3x3 l3x3 l3x3d0 l3x3d1 c3x4 f3x4 l3x4 l3x4d0 l3x4d1
      have O4 := hO
      have c4x0 := Own.cell O4 0 rfl
      have f4x0 := Own.free O4 0 rfl
      have l4x0 := Own.lt O4 0 rfl
      have l4x0d0 := le_up 0 l4x0
      have l4x0d1 := le_up 1 l4x0
      simp only [upN] at l4x0d0 l4x0d1
      have c4x1 := Own.cell O4 1 rfl
      have f4x1 := Own.free O4 1 rfl
      have l4x1 := Own.lt O4 1 rfl
      have l4x1d0 := le_up 0 l4x1
      have l4x1d1 := le_up 1 l4x1
      simp only [upN] at l4x1d0 l4x1d1
      have c4x2 := Own.cell O4 2 rfl
      have f4x2 := Own.free O4 2 rfl
      have l4x2 := Own.lt O4 2 rfl
      have l4x2d0 := le_up 0 l4x2
      have l4x2d1 := le_up 1 l4x2
      simp only [upN] at l4x2d0 l4x2d1
      have c4x3 := Own.cell O4 3 rfl
      have f4x3 := Own.free O4 3 rfl
      have l4x3 := Own.lt O4 3 rfl
      have l4x3d0 := le_up 0 l4x3
      have l4x3d1 := le_up 1 l4x3
      simp only [upN] at l4x3d0 l4x3d1
      have c4x4 := Own.cell O4 4 rfl
      have f4x4 := Own.free O4 4 rfl
      have l4x4 := Own.lt O4 4 rfl
      have l4x4d0 := le_up 0 l4x4
      have l4x4d1 := le_up 1 l4x4
      simp only [upN] at l4x4d0 l4x4d1
      have HO4 := Lib.hid O4
      clear O4
      go_wp2_with fail
      refine (HK1.out _ _ ((Own.get (Own.new HO4.out (wc57.heap.size) (by first | rfl | simp)) 0 rfl))).mono ?_
      rintro e w5 ⟨rfl, hb5⟩
      have O5 := Own.grow' hb5 (Own.new HO4.out (wc57.heap.size) (by first | rfl | simp))
      try simp only [List.setIfInBounds_toArray, List.set_cons_zero, List.set_cons_succ] at O5
      have bw5 : Below w.heap.size w w5 := Below.trans (by go_grown) (Below.mono hb5 (by first | omega | (simp; done) | (simp; omega)))
      have zw5 := Below.size hb5
      try simp only [World.size_alloc, World.size_drew, World.size_setCell] at zw5
      clear c4x0 f4x0 l4x0 l4x0d0 l4x0d1 c4x1 f4x1 l4x1 l4x1d0 l4x1d1 c4x2 f4x2 l4x2 l4x2d0 l4x2d1 c4x3 f4x3 l4x3 l4x3d0 l4x3d1 c4x4 f4x4 l4x4 l4x4d0 l4x4d1
      have c5x0 := Own.cell O5 0 rfl
      have f5x0 := Own.free O5 0 rfl
      have l5x0 := Own.lt O5 0 rfl
      have l5x0d0 := le_up 0 l5x0
      have l5x0d1 := le_up 1 l5x0
      simp only [upN] at l5x0d0 l5x0d1
      have a5x0 := fun o1 o2 o3 i => cell_al3 l5x0 o1 o2 o3 i
      have c5x1 := Own.cell O5 1 rfl
      have f5x1 := Own.free O5 1 rfl
      have l5x1 := Own.lt O5 1 rfl
      have l5x1d0 := le_up 0 l5x1
      have l5x1d1 := le_up 1 l5x1
      simp only [upN] at l5x1d0 l5x1d1
      have a5x1 := fun o1 o2 o3 i => cell_al3 l5x1 o1 o2 o3 i
      have c5x2 := Own.cell O5 2 rfl
      have f5x2 := Own.free O5 2 rfl
      have l5x2 := Own.lt O5 2 rfl
      have l5x2d0 := le_up 0 l5x2
      have l5x2d1 := le_up 1 l5x2
      simp only [upN] at l5x2d0 l5x2d1
      have a5x2 := fun o1 o2 o3 i => cell_al3 l5x2 o1 o2 o3 i
      have c5x3 := Own.cell O5 3 rfl
      have f5x3 := Own.free O5 3 rfl
      have l5x3 := Own.lt O5 3 rfl
      have l5x3d0 := le_up 0 l5x3
      have l5x3d1 := le_up 1 l5x3
      simp only [upN] at l5x3d0 l5x3d1
      have a5x3 := fun o1 o2 o3 i => cell_al3 l5x3 o1 o2 o3 i
      have c5x4 := Own.cell O5 4 rfl
      have f5x4 := Own.free O5 4 rfl
      have l5x4 := Own.lt O5 4 rfl
      have l5x4d0 := le_up 0 l5x4
      have l5x4d1 := le_up 1 l5x4
      simp only [upN] at l5x4d0 l5x4d1
      have a5x4 := fun o1 o2 o3 i => cell_al3 l5x4 o1 o2 o3 i
      have c5x5 := Own.cell O5 5 rfl
      have f5x5 := Own.free O5 5 rfl
      have l5x5 := Own.lt O5 5 rfl
      have l5x5d0 := le_up 0 l5x5
      have l5x5d1 := le_up 1 l5x5
      simp only [upN] at l5x5d0 l5x5d1
      have a5x5 := fun o1 o2 o3 i => cell_al3 l5x5 o1 o2 o3 i
      have HO5 := Lib.hid O5
      clear O5 hb5
      go_wp2_with fail
      refine (num_any _ _).mono ?_
      rintro e w' ⟨rfl, rfl⟩
      go_wp2_with fail
      refine (HK2.out _ _ ((Own.get (Own.new HO5.out (w5.heap.size) (by first | rfl | simp)) 0 rfl))).mono ?_
      rintro e w6 ⟨rfl, hb6⟩
      have O6 := Own.grow' hb6 (Own.new HO5.out (w5.heap.size) (by first | rfl | simp))
      try simp only [List.setIfInBounds_toArray, List.set_cons_zero, List.set_cons_succ] at O6
      have bw6 : Below w.heap.size w w6 := Below.trans (by go_grown) (Below.mono hb6 (by first | omega | (simp; done) | (simp; omega)))
      have zw6 := Below.size hb6
      try simp only [World.size_alloc, World.size_drew, World.size_setCell] at zw6
      clear c5x0 f5x0 l5x0 l5x0d0 l5x0d1 a5x0 c5x1 f5x1 l5x1 l5x1d0 l5x1d1 a5x1 c5x2 f5x2 l5x2 l5x2d0 l5x2d1 a5x2 c5x3 f5x3 l5x3 l5x3d0 l5x3d1 a5x3 c5x4 f5x4 l5x4 l5x4d0 l5x4d1 a5x4 c5x5 f5x5 l5x5 l5x5d0 l5x5d1 a5x5
      have c6x0 := Own.cell O6 0 rfl
      have f6x0 := Own.free O6 0 rfl
      have l6x0 := Own.lt O6 0 rfl
      have l6x0d0 := le_up 0 l6x0
      have l6x0d1 := le_up 1 l6x0
      simp only [upN] at l6x0d0 l6x0d1
      have a6x0 := fun o1 o2 o3 i => cell_al3 l6x0 o1 o2 o3 i
      have c6x1 := Own.cell O6 1 rfl
      have f6x1 := Own.free O6 1 rfl
      have l6x1 := Own.lt O6 1 rfl
      have l6x1d0 := le_up 0 l6x1
      have l6x1d1 := le_up 1 l6x1
      simp only [upN] at l6x1d0 l6x1d1
      have a6x1 := fun o1 o2 o3 i => cell_al3 l6x1 o1 o2 o3 i
      have c6x2 := Own.cell O6 2 rfl
      have f6x2 := Own.free O6 2 rfl
      have l6x2 := Own.lt O6 2 rfl
      have l6x2d0 := le_up 0 l6x2
      have l6x2d1 := le_up 1 l6x2
      simp only [upN] at l6x2d0 l6x2d1
      have a6x2 := fun o1 o2 o3 i => cell_al3 l6x2 o1 o2 o3 i
      have c6x3 := Own.cell O6 3 rfl
      have f6x3 := Own.free O6 3 rfl
      have l6x3 := Own.lt O6 3 rfl
      have l6x3d0 := le_up 0 l6x3
      have l6x3d1 := le_up 1 l6x3
      simp only [upN] at l6x3d0 l6x3d1
      have a6x3 := fun o1 o2 o3 i => cell_al3 l6x3 o1 o2 o3 i
      have c6x4 := Own.cell O6 4 rfl
      have f6x4 := Own.free O6 4 rfl
      have l6x4 := Own.lt O6 4 rfl
      have l6x4d0 := le_up 0 l6x4
      have l6x4d1 := le_up 1 l6x4
      simp only [upN] at l6x4d0 l6x4d1
      have a6x4 := fun o1 o2 o3 i => cell_al3 l6x4 o1 o2 o3 i
      have c6x5 := Own.cell O6 5 rfl
      have f6x5 := Own.free O6 5 rfl
      have l6x5 := Own.lt O6 5 rfl
      have l6x5d0 := le_up 0 l6x5
      have l6x5d1 := le_up 1 l6x5
      simp only [upN] at l6x5d0 l6x5d1
      have a6x5 := fun o1 o2 o3 i => cell_al3 l6x5 o1 o2 o3 i
      have c6x6 := Own.cell O6 6 rfl
      have f6x6 := Own.free O6 6 rfl
      have l6x6 := Own.lt O6 6 rfl
      have l6x6d0 := le_up 0 l6x6
      have l6x6d1 := le_up 1 l6x6
      simp only [upN] at l6x6d0 l6x6d1
      have a6x6 := fun o1 o2 o3 i => cell_al3 l6x6 o1 o2 o3 i
      have HO6 := Lib.hid O6
      clear O6 hb6
      go_wp2_with fail
      refine (num_any _ _).mono ?_
      rintro e w' ⟨rfl, rfl⟩
      go_wp2_with fail
      refine (HT1.out _).mono ?_
      rintro e w7 ⟨rfl, hb7⟩
      have O7 := Own.grow' hb7 HO6.out
      try simp only [List.setIfInBounds_toArray, List.set_cons_zero, List.set_cons_succ] at O7
      have bw7 : Below w.heap.size w w7 := Below.trans (by go_grown) (Below.mono hb7 (by first | omega | (simp; done) | (simp; omega)))
      have zw7 := Below.size hb7
      try simp only [World.size_alloc, World.size_drew, World.size_setCell] at zw7
      clear c6x0 f6x0 l6x0 l6x0d0 l6x0d1 a6x0 c6x1 f6x1 l6x1 l6x1d0 l6x1d1 a6x1 c6x2 f6x2 l6x2 l6x2d0 l6x2d1 a6x2 c6x3 f6x3 l6x3 l6x3d0 l6x3d1 a6x3 c6x4 f6x4 l6x4 l6x4d0 l6x4d1 a6x4 c6x5 f6x5 l6x5 l6x5d0 l6x5d1 a6x5 c6x6 f6x6 l6x6 l6x6d0 l6x6d1 a6x6
      have c7x0 := Own.cell O7 0 rfl
      have f7x0 := Own.free O7 0 rfl
      have l7x0 := Own.lt O7 0 rfl
      have l7x0d0 := le_up 0 l7x0
      have l7x0d1 := le_up 1 l7x0
      simp only [upN] at l7x0d0 l7x0d1
      have a7x0 := fun o1 o2 o3 i => cell_al3 l7x0 o1 o2 o3 i
      have c7x1 := Own.cell O7 1 rfl
      have f7x1 := Own.free O7 1 rfl
      have l7x1 := Own.lt O7 1 rfl
      have l7x1d0 := le_up 0 l7x1
      have l7x1d1 := le_up 1 l7x1
      simp only [upN] at l7x1d0 l7x1d1
      have a7x1 := fun o1 o2 o3 i => cell_al3 l7x1 o1 o2 o3 i
      have c7x2 := Own.cell O7 2 rfl
      have f7x2 := Own.free O7 2 rfl
      have l7x2 := Own.lt O7 2 rfl
      have l7x2d0 := le_up 0 l7x2
      have l7x2d1 := le_up 1 l7x2
      simp only [upN] at l7x2d0 l7x2d1
      have a7x2 := fun o1 o2 o3 i => cell_al3 l7x2 o1 o2 o3 i
      have c7x3 := Own.cell O7 3 rfl
      have f7x3 := Own.free O7 3 rfl
      have l7x3 := Own.lt O7 3 rfl
      have l7x3d0 := le_up 0 l7x3
      have l7x3d1 := le_up 1 l7x3
      simp only [upN] at l7x3d0 l7x3d1
      have a7x3 := fun o1 o2 o3 i => cell_al3 l7x3 o1 o2 o3 i
      have c7x4 := Own.cell O7 4 rfl
      have f7x4 := Own.free O7 4 rfl
      have l7x4 := Own.lt O7 4 rfl
      have l7x4d0 := le_up 0 l7x4
      have l7x4d1 := le_up 1 l7x4
      simp only [upN] at l7x4d0 l7x4d1
      have a7x4 := fun o1 o2 o3 i => cell_al3 l7x4 o1 o2 o3 i
      have c7x5 := Own.cell O7 5 rfl
      have f7x5 := Own.free O7 5 rfl
      have l7x5 := Own.lt O7 5 rfl
      have l7x5d0 := le_up 0 l7x5
      have l7x5d1 := le_up 1 l7x5
      simp only [upN] at l7x5d0 l7x5d1
      have a7x5 := fun o1 o2 o3 i => cell_al3 l7x5 o1 o2 o3 i
      have c7x6 := Own.cell O7 6 rfl
      have f7x6 := Own.free O7 6 rfl
      have l7x6 := Own.lt O7 6 rfl
      have l7x6d0 := le_up 0 l7x6
      have l7x6d1 := le_up 1 l7x6
      simp only [upN] at l7x6d0 l7x6d1
      have a7x6 := fun o1 o2 o3 i => cell_al3 l7x6 o1 o2 o3 i
      have HO7 := Lib.hid O7
      clear O7 hb7
      go_wp2_with fail
      refine (HT2.out _).mono ?_
      rintro e w8 ⟨rfl, hb8⟩
      have O8 := Own.grow' hb8 (Own.new HO7.out (w7.heap.size) (by first | rfl | simp))
      try simp only [List.setIfInBounds_toArray, List.set_cons_zero, List.set_cons_succ] at O8
      have bw8 : Below w.heap.size w w8 := Below.trans (by go_grown) (Below.mono hb8 (by first | omega | (simp; done) | (simp; omega)))
      have zw8 := Below.size hb8
      try simp only [World.size_alloc, World.size_drew, World.size_setCell] at zw8
      clear c7x0 f7x0 l7x0 l7x0d0 l7x0d1 a7x0 c7x1 f7x1 l7x1 l7x1d0 l7x1d1 a7x1 c7x2 f7x2 l7x2 l7x2d0 l7x2d1 a7x2 c7x3 f7x3 l7x3 l7x3d0 l7x3d1 a7x3 c7x4 f7x4 l7x4 l7x4d0 l7x4d1 a7x4 c7x5 f7x5 l7x5 l7x5d0 l7x5d1 a7x5 c7x6 f7x6 l7x6 l7x6d0 l7x6d1 a7x6
      have c8x0 := Own.cell O8 0 rfl
      have f8x0 := Own.free O8 0 rfl
      have l8x0 := Own.lt O8 0 rfl
      have l8x0d0 := le_up 0 l8x0
      have l8x0d1 := le_up 1 l8x0
      simp only [upN] at l8x0d0 l8x0d1
      have a8x0 := fun o1 o2 o3 i => cell_al3 l8x0 o1 o2 o3 i
      have c8x1 := Own.cell O8 1 rfl
      have f8x1 := Own.free O8 1 rfl
      have l8x1 := Own.lt O8 1 rfl
      have l8x1d0 := le_up 0 l8x1
      have l8x1d1 := le_up 1 l8x1
      simp only [upN] at l8x1d0 l8x1d1
      have a8x1 := fun o1 o2 o3 i => cell_al3 l8x1 o1 o2 o3 i
      have c8x2 := Own.cell O8 2 rfl
      have f8x2 := Own.free O8 2 rfl
      have l8x2 := Own.lt O8 2 rfl
      have l8x2d0 := le_up 0 l8x2
      have l8x2d1 := le_up 1 l8x2
      simp only [upN] at l8x2d0 l8x2d1
      have a8x2 := fun o1 o2 o3 i => cell_al3 l8x2 o1 o2 o3 i
      have c8x3 := Own.cell O8 3 rfl
      have f8x3 := Own.free O8 3 rfl
      have l8x3 := Own.lt O8 3 rfl
      have l8x3d0 := le_up 0 l8x3
      have l8x3d1 := le_up 1 l8x3
      simp only [upN] at l8x3d0 l8x3d1
      have a8x3 := fun o1 o2 o3 i => cell_al3 l8x3 o1 o2 o3 i
      have c8x4 := Own.cell O8 4 rfl
      have f8x4 := Own.free O8 4 rfl
      have l8x4 := Own.lt O8 4 rfl
      have l8x4d0 := le_up 0 l8x4
      have l8x4d1 := le_up 1 l8x4
      simp only [upN] at l8x4d0 l8x4d1
      have a8x4 := fun o1 o2 o3 i => cell_al3 l8x4 o1 o2 o3 i
      have c8x5 := Own.cell O8 5 rfl
      have f8x5 := Own.free O8 5 rfl
      have l8x5 := Own.lt O8 5 rfl
      have l8x5d0 := le_up 0 l8x5
      have l8x5d1 := le_up 1 l8x5
      simp only [upN] at l8x5d0 l8x5d1
      have a8x5 := fun o1 o2 o3 i => cell_al3 l8x5 o1 o2 o3 i
      have c8x6 := Own.cell O8 6 rfl
      have f8x6 := Own.free O8 6 rfl
      have l8x6 := Own.lt O8 6 rfl
      have l8x6d0 := le_up 0 l8x6
      have l8x6d1 := le_up 1 l8x6
      simp only [upN] at l8x6d0 l8x6d1
      have a8x6 := fun o1 o2 o3 i => cell_al3 l8x6 o1 o2 o3 i
      have c8x7 := Own.cell O8 7 rfl
      have f8x7 := Own.free O8 7 rfl
      have l8x7 := Own.lt O8 7 rfl
      have l8x7d0 := le_up 0 l8x7
      have l8x7d1 := le_up 1 l8x7
      simp only [upN] at l8x7d0 l8x7d1
      have a8x7 := fun o1 o2 o3 i => cell_al3 l8x7 o1 o2 o3 i
      have HO8 := Lib.hid O8
      clear O8 hb8
      go_wp2_with fail
      refine (HS1.out _).mono ?_
      rintro e w9 ⟨rfl, hb9⟩
      have O9 := Own.grow' hb9 (Own.new HO8.out (w8.heap.size) (by first | rfl | simp))
      try simp only [List.setIfInBounds_toArray, List.set_cons_zero, List.set_cons_succ] at O9
      have bw9 : Below w.heap.size w w9 := Below.trans (by go_grown) (Below.mono hb9 (by first | omega | (simp; done) | (simp; omega)))
      have zw9 := Below.size hb9
      try simp only [World.size_alloc, World.size_drew, World.size_setCell] at zw9
      clear c8x0 f8x0 l8x0 l8x0d0 l8x0d1 a8x0 c8x1 f8x1 l8x1 l8x1d0 l8x1d1 a8x1 c8x2 f8x2 l8x2 l8x2d0 l8x2d1 a8x2 c8x3 f8x3 l8x3 l8x3d0 l8x3d1 a8x3 c8x4 f8x4 l8x4 l8x4d0 l8x4d1 a8x4 c8x5 f8x5 l8x5 l8x5d0 l8x5d1 a8x5 c8x6 f8x6 l8x6 l8x6d0 l8x6d1 a8x6 c8x7 f8x7 l8x7 l8x7d0 l8x7d1 a8x7
      have c9x0 := Own.cell O9 0 rfl
      have f9x0 := Own.free O9 0 rfl
      have l9x0 := Own.lt O9 0 rfl
      have l9x0d0 := le_up 0 l9x0
      have l9x0d1 := le_up 1 l9x0
      simp only [upN] at l9x0d0 l9x0d1
      have a9x0 := fun o1 o2 o3 i => cell_al3 l9x0 o1 o2 o3 i
      have c9x1 := Own.cell O9 1 rfl
      have f9x1 := Own.free O9 1 rfl
      have l9x1 := Own.lt O9 1 rfl
      have l9x1d0 := le_up 0 l9x1
      have l9x1d1 := le_up 1 l9x1
      simp only [upN] at l9x1d0 l9x1d1
      have a9x1 := fun o1 o2 o3 i => cell_al3 l9x1 o1 o2 o3 i
      have c9x2 := Own.cell O9 2 rfl
      have f9x2 := Own.free O9 2 rfl
      have l9x2 := Own.lt O9 2 rfl
      have l9x2d0 := le_up 0 l9x2
      have l9x2d1 := le_up 1 l9x2
      simp only [upN] at l9x2d0 l9x2d1
      have a9x2 := fun o1 o2 o3 i => cell_al3 l9x2 o1 o2 o3 i
      have c9x3 := Own.cell O9 3 rfl
      have f9x3 := Own.free O9 3 rfl
      have l9x3 := Own.lt O9 3 rfl
      have l9x3d0 := le_up 0 l9x3
      have l9x3d1 := le_up 1 l9x3
      simp only [upN] at l9x3d0 l9x3d1
      have a9x3 := fun o1 o2 o3 i => cell_al3 l9x3 o1 o2 o3 i
      have c9x4 := Own.cell O9 4 rfl
      have f9x4 := Own.free O9 4 rfl
      have l9x4 := Own.lt O9 4 rfl
      have l9x4d0 := le_up 0 l9x4
      have l9x4d1 := le_up 1 l9x4
      simp only [upN] at l9x4d0 l9x4d1
      have a9x4 := fun o1 o2 o3 i => cell_al3 l9x4 o1 o2 o3 i
      have c9x5 := Own.cell O9 5 rfl
      have f9x5 := Own.free O9 5 rfl
      have l9x5 := Own.lt O9 5 rfl
      have l9x5d0 := le_up 0 l9x5
      have l9x5d1 := le_up 1 l9x5
      simp only [upN] at l9x5d0 l9x5d1
      have a9x5 := fun o1 o2 o3 i => cell_al3 l9x5 o1 o2 o3 i
      have c9x6 := Own.cell O9 6 rfl
      have f9x6 := Own.free O9 6 rfl
      have l9x6 := Own.lt O9 6 rfl
      have l9x6d0 := le_up 0 l9x6
      have l9x6d1 := le_up 1 l9x6
      simp only [upN] at l9x6d0 l9x6d1
      have a9x6 := fun o1 o2 o3 i => cell_al3 l9x6 o1 o2 o3 i
      have c9x7 := Own.cell O9 7 rfl
      have f9x7 := Own.free O9 7 rfl
      have l9x7 := Own.lt O9 7 rfl
      have l9x7d0 := le_up 0 l9x7
      have l9x7d1 := le_up 1 l9x7
      simp only [upN] at l9x7d0 l9x7d1
      have a9x7 := fun o1 o2 o3 i => cell_al3 l9x7 o1 o2 o3 i
      have c9x8 := Own.cell O9 8 rfl
      have f9x8 := Own.free O9 8 rfl
      have l9x8 := Own.lt O9 8 rfl
      have l9x8d0 := le_up 0 l9x8
      have l9x8d1 := le_up 1 l9x8
      simp only [upN] at l9x8d0 l9x8d1
      have a9x8 := fun o1 o2 o3 i => cell_al3 l9x8 o1 o2 o3 i
      have HO9 := Lib.hid O9
      clear O9 hb9
      go_wp2_with fail
      refine (HS2.out _).mono ?_
      rintro e w10 ⟨rfl, hb10⟩
      have O10 := Own.grow' hb10 (Own.new (Own.new HO9.out (w9.heap.size) (by first | rfl | simp)) (w9.heap.size + 1) (by simp))
      try simp only [List.setIfInBounds_toArray, List.set_cons_zero, List.set_cons_succ] at O10
      have bw10 : Below w.heap.size w w10 := Below.trans (by go_grown) (Below.mono hb10 (by first | omega | (simp; done) | (simp; omega)))
      have zw10 := Below.size hb10
      try simp only [World.size_alloc, World.size_drew, World.size_setCell] at zw10
      clear c9x0 f9x0 l9x0 l9x0d0 l9x0d1 a9x0 c9x1 f9x1 l9x1 l9x1d0 l9x1d1 a9x1 c9x2 f9x2 l9x2 l9x2d0 l9x2d1 a9x2 c9x3 f9x3 l9x3 l9x3d0 l9x3d1 a9x3 c9x4 f9x4 l9x4 l9x4d0 l9x4d1 a9x4 c9x5 f9x5 l9x5 l9x5d0 l9x5d1 a9x5 c9x6 f9x6 l9x6 l9x6d0 l9x6d1 a9x6 c9x7 f9x7 l9x7 l9x7d0 l9x7d1 a9x7 c9x8 f9x8 l9x8 l9x8d0 l9x8d1 a9x8
      have c10x0 := Own.cell O10 0 rfl
      have f10x0 := Own.free O10 0 rfl
      have l10x0 := Own.lt O10 0 rfl
      have l10x0d0 := le_up 0 l10x0
      have l10x0d1 := le_up 1 l10x0
      simp only [upN] at l10x0d0 l10x0d1
      have a10x0 := fun o1 o2 o3 i => cell_al3 l10x0 o1 o2 o3 i
      have c10x1 := Own.cell O10 1 rfl
      have f10x1 := Own.free O10 1 rfl
      have l10x1 := Own.lt O10 1 rfl
      have l10x1d0 := le_up 0 l10x1
      have l10x1d1 := le_up 1 l10x1
      simp only [upN] at l10x1d0 l10x1d1
      have a10x1 := fun o1 o2 o3 i => cell_al3 l10x1 o1 o2 o3 i
      have c10x2 := Own.cell O10 2 rfl
      have f10x2 := Own.free O10 2 rfl
      have l10x2 := Own.lt O10 2 rfl
      have l10x2d0 := le_up 0 l10x2
      have l10x2d1 := le_up 1 l10x2
      simp only [upN] at l10x2d0 l10x2d1
      have a10x2 := fun o1 o2 o3 i => cell_al3 l10x2 o1 o2 o3 i
      have c10x3 := Own.cell O10 3 rfl
      have f10x3 := Own.free O10 3 rfl
      have l10x3 := Own.lt O10 3 rfl
      have l10x3d0 := le_up 0 l10x3
      have l10x3d1 := le_up 1 l10x3
      simp only [upN] at l10x3d0 l10x3d1
      have a10x3 := fun o1 o2 o3 i => cell_al3 l10x3 o1 o2 o3 i
      have c10x4 := Own.cell O10 4 rfl
      have f10x4 := Own.free O10 4 rfl
      have l10x4 := Own.lt O10 4 rfl
      have l10x4d0 := le_up 0 l10x4
      have l10x4d1 := le_up 1 l10x4
      simp only [upN] at l10x4d0 l10x4d1
      have a10x4 := fun o1 o2 o3 i => cell_al3 l10x4 o1 o2 o3 i
      have c10x5 := Own.cell O10 5 rfl
      have f10x5 := Own.free O10 5 rfl
      have l10x5 := Own.lt O10 5 rfl
      have l10x5d0 := le_up 0 l10x5
      have l10x5d1 := le_up 1 l10x5
      simp only [upN] at l10x5d0 l10x5d1
      have a10x5 := fun o1 o2 o3 i => cell_al3 l10x5 o1 o2 o3 i
      have c10x6 := Own.cell O10 6 rfl
      have f10x6 := Own.free O10 6 rfl
      have l10x6 := Own.lt O10 6 rfl
      have l10x6d0 := le_up 0 l10x6
      have l10x6d1 := le_up 1 l10x6
      simp only [upN] at l10x6d0 l10x6d1
      have a10x6 := fun o1 o2 o3 i => cell_al3 l10x6 o1 o2 o3 i
      have c10x7 := Own.cell O10 7 rfl
      have f10x7 := Own.free O10 7 rfl
      have l10x7 := Own.lt O10 7 rfl
      have l10x7d0 := le_up 0 l10x7
      have l10x7d1 := le_up 1 l10x7
      simp only [upN] at l10x7d0 l10x7d1
      have a10x7 := fun o1 o2 o3 i => cell_al3 l10x7 o1 o2 o3 i
      have c10x8 := Own.cell O10 8 rfl
      have f10x8 := Own.free O10 8 rfl
      have l10x8 := Own.lt O10 8 rfl
      have l10x8d0 := le_up 0 l10x8
      have l10x8d1 := le_up 1 l10x8
      simp only [upN] at l10x8d0 l10x8d1
      have a10x8 := fun o1 o2 o3 i => cell_al3 l10x8 o1 o2 o3 i
      have c10x9 := Own.cell O10 9 rfl
      have f10x9 := Own.free O10 9 rfl
      have l10x9 := Own.lt O10 9 rfl
      have l10x9d0 := le_up 0 l10x9
      have l10x9d1 := le_up 1 l10x9
      simp only [upN] at l10x9d0 l10x9d1
      have a10x9 := fun o1 o2 o3 i => cell_al3 l10x9 o1 o2 o3 i
      have c10x10 := Own.cell O10 10 rfl
      have f10x10 := Own.free O10 10 rfl
      have l10x10 := Own.lt O10 10 rfl
      have l10x10d0 := le_up 0 l10x10
      have l10x10d1 := le_up 1 l10x10
      simp only [upN] at l10x10d0 l10x10d1
      have a10x10 := fun o1 o2 o3 i => cell_al3 l10x10 o1 o2 o3 i
      have HO10 := Lib.hid O10
      clear O10 hb10
      go_wp2_with fail
      refine (num_any _ _).mono ?_
      rintro e w' ⟨rfl, rfl⟩
      go_wp2_with fail
      refine (num_any _ _).mono ?_
      rintro e w' ⟨rfl, rfl⟩
      go_wp2_with fail
      refine (num_any _ _).mono ?_
      rintro e w' ⟨rfl, rfl⟩
      go_wp2_with fail
      refine (num_any _ _).mono ?_
      rintro e w' ⟨rfl, rfl⟩
      go_wp2_with fail
      refine (HA1.out _).mono ?_
      rintro e w11 ⟨rfl, hb11⟩
      have O11 := Own.grow' hb11 (Own.new (Own.new HO10.out (w10.heap.size) (by first | rfl | simp)) (w10.heap.size + 1) (by simp))
      try simp only [List.setIfInBounds_toArray, List.set_cons_zero, List.set_cons_succ] at O11
      have bw11 : Below w.heap.size w w11 := Below.trans (by go_grown) (Below.mono hb11 (by first | omega | (simp; done) | (simp; omega)))
      have zw11 := Below.size hb11
      try simp only [World.size_alloc, World.size_drew, World.size_setCell] at zw11
      clear c10x0 f10x0 l10x0 l10x0d0 l10x0d1 a10x0 c10x1 f10x1 l10x1 l10x1d0 l10x1d1 a10x1 c10x2 f10x2 l10x2 l10x2d0 l10x2d1 a10x2 c10x3 f10x3 l10x3 l10x3d0 l10x3d1 a10x3 c10x4 f10x4 l10x4 l10x4d0 l10x4d1 a10x4 c10x5 f10x5 l10x5 l10x5d0 l10x5d1 a10x5 c10x6 f10x6 l10x6 l10x6d0 l10x6d1 a10x6 c10x7 f10x7 l10x7 l10x7d0 l10x7d1 a10x7 c10x8 f10x8 l10x8 l10x8d0 l10x8d1 a10x8 c10x9 f10x9 l10x9 l10x9d0 l10x9d1 a10x9 c10x10 f10x10 l10x10 l10x10d0 l10x10d1 a10x10
      have c11x0 := Own.cell O11 0 rfl
      have f11x0 := Own.free O11 0 rfl
      have l11x0 := Own.lt O11 0 rfl
      have l11x0d0 := le_up 0 l11x0
      have l11x0d1 := le_up 1 l11x0
      simp only [upN] at l11x0d0 l11x0d1
      have a11x0 := fun o1 o2 o3 i => cell_al3 l11x0 o1 o2 o3 i
      have c11x1 := Own.cell O11 1 rfl
      have f11x1 := Own.free O11 1 rfl
      have l11x1 := Own.lt O11 1 rfl
      have l11x1d0 := le_up 0 l11x1
      have l11x1d1 := le_up 1 l11x1
      simp only [upN] at l11x1d0 l11x1d1
      have a11x1 := fun o1 o2 o3 i => cell_al3 l11x1 o1 o2 o3 i
      have c11x2 := Own.cell O11 2 rfl
      have f11x2 := Own.free O11 2 rfl
      have l11x2 := Own.lt O11 2 rfl
      have l11x2d0 := le_up 0 l11x2
      have l11x2d1 := le_up 1 l11x2
      simp only [upN] at l11x2d0 l11x2d1
      have a11x2 := fun o1 o2 o3 i => cell_al3 l11x2 o1 o2 o3 i
      have c11x3 := Own.cell O11 3 rfl
      have f11x3 := Own.free O11 3 rfl
      have l11x3 := Own.lt O11 3 rfl
      have l11x3d0 := le_up 0 l11x3
      have l11x3d1 := le_up 1 l11x3
      simp only [upN] at l11x3d0 l11x3d1
      have a11x3 := fun o1 o2 o3 i => cell_al3 l11x3 o1 o2 o3 i
      have c11x4 := Own.cell O11 4 rfl
      have f11x4 := Own.free O11 4 rfl
      have l11x4 := Own.lt O11 4 rfl
      have l11x4d0 := le_up 0 l11x4
      have l11x4d1 := le_up 1 l11x4
      simp only [upN] at l11x4d0 l11x4d1
      have a11x4 := fun o1 o2 o3 i => cell_al3 l11x4 o1 o2 o3 i
      have c11x5 := Own.cell O11 5 rfl
      have f11x5 := Own.free O11 5 rfl
      have l11x5 := Own.lt O11 5 rfl
      have l11x5d0 := le_up 0 l11x5
      have l11x5d1 := le_up 1 l11x5
      simp only [upN] at l11x5d0 l11x5d1
      have a11x5 := fun o1 o2 o3 i => cell_al3 l11x5 o1 o2 o3 i
      have c11x6 := Own.cell O11 6 rfl
      have f11x6 := Own.free O11 6 rfl
      have l11x6 := Own.lt O11 6 rfl
      have l11x6d0 := le_up 0 l11x6
      have l11x6d1 := le_up 1 l11x6
      simp only [upN] at l11x6d0 l11x6d1
      have a11x6 := fun o1 o2 o3 i => cell_al3 l11x6 o1 o2 o3 i
      have c11x7 := Own.cell O11 7 rfl
      have f11x7 := Own.free O11 7 rfl
      have l11x7 := Own.lt O11 7 rfl
      have l11x7d0 := le_up 0 l11x7
      have l11x7d1 := le_up 1 l11x7
      simp only [upN] at l11x7d0 l11x7d1
      have a11x7 := fun o1 o2 o3 i => cell_al3 l11x7 o1 o2 o3 i
      have c11x8 := Own.cell O11 8 rfl
      have f11x8 := Own.free O11 8 rfl
      have l11x8 := Own.lt O11 8 rfl
      have l11x8d0 := le_up 0 l11x8
      have l11x8d1 := le_up 1 l11x8
      simp only [upN] at l11x8d0 l11x8d1
      have a11x8 := fun o1 o2 o3 i => cell_al3 l11x8 o1 o2 o3 i
      have c11x9 := Own.cell O11 9 rfl
      have f11x9 := Own.free O11 9 rfl
      have l11x9 := Own.lt O11 9 rfl
      have l11x9d0 := le_up 0 l11x9
      have l11x9d1 := le_up 1 l11x9
      simp only [upN] at l11x9d0 l11x9d1
      have a11x9 := fun o1 o2 o3 i => cell_al3 l11x9 o1 o2 o3 i
      have c11x10 := Own.cell O11 10 rfl
      have f11x10 := Own.free O11 10 rfl
      have l11x10 := Own.lt O11 10 rfl
      have l11x10d0 := le_up 0 l11x10
      have l11x10d1 := le_up 1 l11x10
      simp only [upN] at l11x10d0 l11x10d1
      have a11x10 := fun o1 o2 o3 i => cell_al3 l11x10 o1 o2 o3 i
      have c11x11 := Own.cell O11 11 rfl
      have f11x11 := Own.free O11 11 rfl
      have l11x11 := Own.lt O11 11 rfl
      have l11x11d0 := le_up 0 l11x11
      have l11x11d1 := le_up 1 l11x11
      simp only [upN] at l11x11d0 l11x11d1
      have a11x11 := fun o1 o2 o3 i => cell_al3 l11x11 o1 o2 o3 i
      have c11x12 := Own.cell O11 12 rfl
      have f11x12 := Own.free O11 12 rfl
      have l11x12 := Own.lt O11 12 rfl
      have l11x12d0 := le_up 0 l11x12
      have l11x12d1 := le_up 1 l11x12
      simp only [upN] at l11x12d0 l11x12d1
      have a11x12 := fun o1 o2 o3 i => cell_al3 l11x12 o1 o2 o3 i
      have HO11 := Lib.hid O11
      clear O11 hb11
      go_wp2_with fail
      refine (HA2.out _).mono ?_
      rintro e w12 ⟨rfl, hb12⟩
      have O12 := Own.grow' hb12 HO11.out
      try simp only [List.setIfInBounds_toArray, List.set_cons_zero, List.set_cons_succ] at O12
      have bw12 : Below w.heap.size w w12 := Below.trans (by go_grown) (Below.mono hb12 (by first | omega | (simp; done) | (simp; omega)))
      have zw12 := Below.size hb12
      try simp only [World.size_alloc, World.size_drew, World.size_setCell] at zw12
      clear c11x0 f11x0 l11x0 l11x0d0 l11x0d1 a11x0 c11x1 f11x1 l11x1 l11x1d0 l11x1d1 a11x1 c11x2 f11x2 l11x2 l11x2d0 l11x2d1 a11x2 c11x3 f11x3 l11x3 l11x3d0 l11x3d1 a11x3 c11x4 f11x4 l11x4 l11x4d0 l11x4d1 a11x4 c11x5 f11x5 l11x5 l11x5d0 l11x5d1 a11x5 c11x6 f11x6 l11x6 l11x6d0 l11x6d1 a11x6 c11x7 f11x7 l11x7 l11x7d0 l11x7d1 a11x7 c11x8 f11x8 l11x8 l11x8d0 l11x8d1 a11x8 c11x9 f11x9 l11x9 l11x9d0 l11x9d1 a11x9 c11x10 f11x10 l11x10 l11x10d0 l11x10d1 a11x10 c11x11 f11x11 l11x11 l11x11d0 l11x11d1 a11x11 c11x12 f11x12 l11x12 l11x12d0 l11x12d1 a11x12
      have c12x0 := Own.cell O12 0 rfl
      have f12x0 := Own.free O12 0 rfl
      have l12x0 := Own.lt O12 0 rfl
      have l12x0d0 := le_up 0 l12x0
      have l12x0d1 := le_up 1 l12x0
      simp only [upN] at l12x0d0 l12x0d1
      have a12x0 := fun o1 o2 o3 i => cell_al3 l12x0 o1 o2 o3 i
      have c12x1 := Own.cell O12 1 rfl
      have f12x1 := Own.free O12 1 rfl
      have l12x1 := Own.lt O12 1 rfl
      have l12x1d0 := le_up 0 l12x1
      have l12x1d1 := le_up 1 l12x1
      simp only [upN] at l12x1d0 l12x1d1
      have a12x1 := fun o1 o2 o3 i => cell_al3 l12x1 o1 o2 o3 i
      have c12x2 := Own.cell O12 2 rfl
      have f12x2 := Own.free O12 2 rfl
      have l12x2 := Own.lt O12 2 rfl
      have l12x2d0 := le_up 0 l12x2
      have l12x2d1 := le_up 1 l12x2
      simp only [upN] at l12x2d0 l12x2d1
      have a12x2 := fun o1 o2 o3 i => cell_al3 l12x2 o1 o2 o3 i
      have c12x3 := Own.cell O12 3 rfl
      have f12x3 := Own.free O12 3 rfl
      have l12x3 := Own.lt O12 3 rfl
      have l12x3d0 := le_up 0 l12x3
      have l12x3d1 := le_up 1 l12x3
      simp only [upN] at l12x3d0 l12x3d1
      have a12x3 := fun o1 o2 o3 i => cell_al3 l12x3 o1 o2 o3 i
      have c12x4 := Own.cell O12 4 rfl
      have f12x4 := Own.free O12 4 rfl
      have l12x4 := Own.lt O12 4 rfl
      have l12x4d0 := le_up 0 l12x4
      have l12x4d1 := le_up 1 l12x4
      simp only [upN] at l12x4d0 l12x4d1
      have a12x4 := fun o1 o2 o3 i => cell_al3 l12x4 o1 o2 o3 i
      have c12x5 := Own.cell O12 5 rfl
      have f12x5 := Own.free O12 5 rfl
      have l12x5 := Own.lt O12 5 rfl
      have l12x5d0 := le_up 0 l12x5
      have l12x5d1 := le_up 1 l12x5
      simp only [upN] at l12x5d0 l12x5d1
      have a12x5 := fun o1 o2 o3 i => cell_al3 l12x5 o1 o2 o3 i
      have c12x6 := Own.cell O12 6 rfl
      have f12x6 := Own.free O12 6 rfl
      have l12x6 := Own.lt O12 6 rfl
      have l12x6d0 := le_up 0 l12x6
      have l12x6d1 := le_up 1 l12x6
      simp only [upN] at l12x6d0 l12x6d1
      have a12x6 := fun o1 o2 o3 i => cell_al3 l12x6 o1 o2 o3 i
      have c12x7 := Own.cell O12 7 rfl
      have f12x7 := Own.free O12 7 rfl
      have l12x7 := Own.lt O12 7 rfl
      have l12x7d0 := le_up 0 l12x7
      have l12x7d1 := le_up 1 l12x7
      simp only [upN] at l12x7d0 l12x7d1
      have a12x7 := fun o1 o2 o3 i => cell_al3 l12x7 o1 o2 o3 i
      have c12x8 := Own.cell O12 8 rfl
      have f12x8 := Own.free O12 8 rfl
      have l12x8 := Own.lt O12 8 rfl
      have l12x8d0 := le_up 0 l12x8
      have l12x8d1 := le_up 1 l12x8
      simp only [upN] at l12x8d0 l12x8d1
      have a12x8 := fun o1 o2 o3 i => cell_al3 l12x8 o1 o2 o3 i
      have c12x9 := Own.cell O12 9 rfl
      have f12x9 := Own.free O12 9 rfl
      have l12x9 := Own.lt O12 9 rfl
      have l12x9d0 := le_up 0 l12x9
      have l12x9d1 := le_up 1 l12x9
      simp only [upN] at l12x9d0 l12x9d1
      have a12x9 := fun o1 o2 o3 i => cell_al3 l12x9 o1 o2 o3 i
      have c12x10 := Own.cell O12 10 rfl
      have f12x10 := Own.free O12 10 rfl
      have l12x10 := Own.lt O12 10 rfl
      have l12x10d0 := le_up 0 l12x10
      have l12x10d1 := le_up 1 l12x10
      simp only [upN] at l12x10d0 l12x10d1
      have a12x10 := fun o1 o2 o3 i => cell_al3 l12x10 o1 o2 o3 i
      have c12x11 := Own.cell O12 11 rfl
      have f12x11 := Own.free O12 11 rfl
      have l12x11 := Own.lt O12 11 rfl
      have l12x11d0 := le_up 0 l12x11
      have l12x11d1 := le_up 1 l12x11
      simp only [upN] at l12x11d0 l12x11d1
      have a12x11 := fun o1 o2 o3 i => cell_al3 l12x11 o1 o2 o3 i
      have c12x12 := Own.cell O12 12 rfl
      have f12x12 := Own.free O12 12 rfl
      have l12x12 := Own.lt O12 12 rfl
      have l12x12d0 := le_up 0 l12x12
      have l12x12d1 := le_up 1 l12x12
      simp only [upN] at l12x12d0 l12x12d1
      have a12x12 := fun o1 o2 o3 i => cell_al3 l12x12 o1 o2 o3 i
      have HO12 := Lib.hid O12
      clear O12 hb12
      go_wp2_with fail
      refine (HA3.out _).mono ?_
      rintro e w13 ⟨rfl, hb13⟩
      have O13 := Own.grow' hb13 HO12.out
      try simp only [List.setIfInBounds_toArray, List.set_cons_zero, List.set_cons_succ] at O13
      have bw13 : Below w.heap.size w w13 := Below.trans (by go_grown) (Below.mono hb13 (by first | omega | (simp; done) | (simp; omega)))
      have zw13 := Below.size hb13
      try simp only [World.size_alloc, World.size_drew, World.size_setCell] at zw13
      clear c12x0 f12x0 l12x0 l12x0d0 l12x0d1 a12x0 c12x1 f12x1 l12x1 l12x1d0 l12x1d1 a12x1 c12x2 f12x2 l12x2 l12x2d0 l12x2d1 a12x2 c12x3 f12x3 l12x3 l12x3d0 l12x3d1 a12x3 c12x4 f12x4 l12x4 l12x4d0 l12x4d1 a12x4 c12x5 f12x5 l12x5 l12x5d0 l12x5d1 a12x5 c12x6 f12x6 l12x6 l12x6d0 l12x6d1 a12x6 c12x7 f12x7 l12x7 l12x7d0 l12x7d1 a12x7 c12x8 f12x8 l12x8 l12x8d0 l12x8d1 a12x8 c12x9 f12x9 l12x9 l12x9d0 l12x9d1 a12x9 c12x10 f12x10 l12x10 l12x10d0 l12x10d1 a12x10 c12x11 f12x11 l12x11 l12x11d0 l12x11d1 a12x11 c12x12 f12x12 l12x12 l12x12d0 l12x12d1 a12x12
      have c13x0 := Own.cell O13 0 rfl
      have f13x0 := Own.free O13 0 rfl
      have l13x0 := Own.lt O13 0 rfl
      have l13x0d0 := le_up 0 l13x0
      have l13x0d1 := le_up 1 l13x0
      simp only [upN] at l13x0d0 l13x0d1
      have a13x0 := fun o1 o2 o3 i => cell_al3 l13x0 o1 o2 o3 i
      have c13x1 := Own.cell O13 1 rfl
      have f13x1 := Own.free O13 1 rfl
      have l13x1 := Own.lt O13 1 rfl
      have l13x1d0 := le_up 0 l13x1
      have l13x1d1 := le_up 1 l13x1
      simp only [upN] at l13x1d0 l13x1d1
      have a13x1 := fun o1 o2 o3 i => cell_al3 l13x1 o1 o2 o3 i
      have c13x2 := Own.cell O13 2 rfl
      have f13x2 := Own.free O13 2 rfl
      have l13x2 := Own.lt O13 2 rfl
      have l13x2d0 := le_up 0 l13x2
      have l13x2d1 := le_up 1 l13x2
      simp only [upN] at l13x2d0 l13x2d1
      have a13x2 := fun o1 o2 o3 i => cell_al3 l13x2 o1 o2 o3 i
      have c13x3 := Own.cell O13 3 rfl
      have f13x3 := Own.free O13 3 rfl
      have l13x3 := Own.lt O13 3 rfl
      have l13x3d0 := le_up 0 l13x3
      have l13x3d1 := le_up 1 l13x3
      simp only [upN] at l13x3d0 l13x3d1
      have a13x3 := fun o1 o2 o3 i => cell_al3 l13x3 o1 o2 o3 i
      have c13x4 := Own.cell O13 4 rfl
      have f13x4 := Own.free O13 4 rfl
      have l13x4 := Own.lt O13 4 rfl
      have l13x4d0 := le_up 0 l13x4
      have l13x4d1 := le_up 1 l13x4
      simp only [upN] at l13x4d0 l13x4d1
      have a13x4 := fun o1 o2 o3 i => cell_al3 l13x4 o1 o2 o3 i
      have c13x5 := Own.cell O13 5 rfl
      have f13x5 := Own.free O13 5 rfl
      have l13x5 := Own.lt O13 5 rfl
      have l13x5d0 := le_up 0 l13x5
      have l13x5d1 := le_up 1 l13x5
      simp only [upN] at l13x5d0 l13x5d1
      have a13x5 := fun o1 o2 o3 i => cell_al3 l13x5 o1 o2 o3 i
      have c13x6 := Own.cell O13 6 rfl
      have f13x6 := Own.free O13 6 rfl
      have l13x6 := Own.lt O13 6 rfl
      have l13x6d0 := le_up 0 l13x6
      have l13x6d1 := le_up 1 l13x6
      simp only [upN] at l13x6d0 l13x6d1
      have a13x6 := fun o1 o2 o3 i => cell_al3 l13x6 o1 o2 o3 i
      have c13x7 := Own.cell O13 7 rfl
      have f13x7 := Own.free O13 7 rfl
      have l13x7 := Own.lt O13 7 rfl
      have l13x7d0 := le_up 0 l13x7
      have l13x7d1 := le_up 1 l13x7
      simp only [upN] at l13x7d0 l13x7d1
      have a13x7 := fun o1 o2 o3 i => cell_al3 l13x7 o1 o2 o3 i
      have c13x8 := Own.cell O13 8 rfl
      have f13x8 := Own.free O13 8 rfl
      have l13x8 := Own.lt O13 8 rfl
      have l13x8d0 := le_up 0 l13x8
      have l13x8d1 := le_up 1 l13x8
      simp only [upN] at l13x8d0 l13x8d1
      have a13x8 := fun o1 o2 o3 i => cell_al3 l13x8 o1 o2 o3 i
      have c13x9 := Own.cell O13 9 rfl
      have f13x9 := Own.free O13 9 rfl
      have l13x9 := Own.lt O13 9 rfl
      have l13x9d0 := le_up 0 l13x9
      have l13x9d1 := le_up 1 l13x9
      simp only [upN] at l13x9d0 l13x9d1
      have a13x9 := fun o1 o2 o3 i => cell_al3 l13x9 o1 o2 o3 i
      have c13x10 := Own.cell O13 10 rfl
      have f13x10 := Own.free O13 10 rfl
      have l13x10 := Own.lt O13 10 rfl
      have l13x10d0 := le_up 0 l13x10
      have l13x10d1 := le_up 1 l13x10
      simp only [upN] at l13x10d0 l13x10d1
      have a13x10 := fun o1 o2 o3 i => cell_al3 l13x10 o1 o2 o3 i
      have c13x11 := Own.cell O13 11 rfl
      have f13x11 := Own.free O13 11 rfl
      have l13x11 := Own.lt O13 11 rfl
      have l13x11d0 := le_up 0 l13x11
      have l13x11d1 := le_up 1 l13x11
      simp only [upN] at l13x11d0 l13x11d1
      have a13x11 := fun o1 o2 o3 i => cell_al3 l13x11 o1 o2 o3 i
      have c13x12 := Own.cell O13 12 rfl
      have f13x12 := Own.free O13 12 rfl
      have l13x12 := Own.lt O13 12 rfl
      have l13x12d0 := le_up 0 l13x12
      have l13x12d1 := le_up 1 l13x12
      simp only [upN] at l13x12d0 l13x12d1
      have a13x12 := fun o1 o2 o3 i => cell_al3 l13x12 o1 o2 o3 i
      have HO13 := Lib.hid O13
      clear O13 hb13
      go_wp2_with fail
      refine wp_region_grow w.heap.size 36 0 0 [(0, 0, 2854495385411919762116571938898990272765493248, 2048), (1, 1, 5708990770823839524233143877797980545530986496, 2854495385411919762116571938898990272765493248), (2, 2, 11417981541647679048466287755595961091061972992, 5708990770823839524233143877797980545530986496), (3, 0, 22835963083295358096932575511191922182123945984, 131072), (4, 12, 45671926166590716193865151022383844364247891968, 22835963083295358096932575511191922182123945984), (5, 16, 91343852333181432387730302044767688728495783936, 45671926166590716193865151022383844364247891968), (6, 36, 182687704666362864775460604089535377456991567872, 102761833874829111436196589800363649819557756928), (7, 0, 365375409332725729550921208179070754913983135744, 262144), (8, 160, 730750818665451459101842416358141509827966271488, 365375409332725729550921208179070754913983135744), (9, 256, 1461501637330902918203684832716283019655932542976, 730750818665451459101842416358141509827966271488), (10, 576, 2923003274661805836407369665432566039311865085952, 1644189341997265782979145436805818397112924110848), (11, 1024, 5846006549323611672814739330865132078623730171904, 2923003274661805836407369665432566039311865085952), (12, 2560, 11692013098647223345629478661730264157247460343808, 5846006549323611672814739330865132078623730171904), (13, 4096, 23384026197294446691258957323460528314494920687616, 11692013098647223345629478661730264157247460474880), (14, 12288, 46768052394588893382517914646921056628989841375232, 35076039295941670036888435985190792471742381031424), (15, 4096, 93536104789177786765035829293842113257979682750464, 11692013098647223345629478661730264157247460605952), (16, 36864, 187072209578355573530071658587684226515959365500928, 105228117887825010110665307955572377415227143094272), (17, 86016, 374144419156711147060143317175368453031918731001856, 245532275071591690258219051896335547302196667219968), (18, 4096, 748288838313422294120286634350736906063837462003712, 11692013098647223345629478661730264157247460343936), (19, 266240, 1496577676626844588240573268701473812127674924007424, 759980851412069517465916113012467170221084922347520), (20, 659456, 2993155353253689176481146537402947624255349848014848, 1882414108882202958646346064538572529316841115353088), (21, 1052672, 5986310706507378352962293074805895248510699696029696, 3004847366352336399826776016064677888412597308358656), (22, 2101248, 11972621413014756705924586149611790497021399392059392, 5986310706507378352962293074805895248510699696029696), (23, 4194304, 23945242826029513411849172299223580994042798784118784, 11972621413014756705924586149611790497021399392059520), (24, 12582912, 47890485652059026823698344598447161988085597568237568, 35917864239044270117773758448835371491064198176178176), (25, 20971520, 95780971304118053647396689196894323976171195136475136, 59863107065073783529622930748058952485106996960296960), (26, 37748736, 191561942608236107294793378393788647952342390272950272, 107753592717132810353321275346506114473192594528534528), (27, 67108864, 383123885216472214589586756787577295904684780545900544, 191561942608236107294793378393788647952342390272951296), (28, 201326592, 766247770432944429179173513575154591809369561091801088, 574685827824708321884380135181365943857027170818850816), (29, 335544320, 1532495540865888858358347027150309183618739122183602176, 957809713041180536473966891968943239761711951364751360), (30, 608174080, 3064991081731777716716694054300618367237478244367204352, 1736030104887139722359064991693709622068102911848611840), (31, 1145044992, 6129982163463555433433388108601236734474956488734408704, 3076963703144792473422618640450230157734499643759263744), (32, 2147483648, 12259964326927110866866776217202473468949912977468817408, 6129982163463555433433388108601236734474956488734412800), (33, 6442450944, 24519928653854221733733552434404946937899825954937634816, 18389946490390666300300164325803710203424869466203226112), (34, 10741612544, 49039857307708443467467104868809893875799651909875269632, 30661883438730791923872865129155795462871803843064102912), (35, 17184063488, 98079714615416886934934209737619787751599303819750539264, 49051829929121458224173029454959505666296673309267329024)] [(.p 0, 1), (.p 1, 3), (.p 2, 7), (.p 3, 15), (.p 4, 31), (.p 5, 63), (.p 6, 127), (.p 7, 255), (.p 8, 511), (.p 9, 1023), (.p 10, 2047), (.p 11, 4095), (.p 12, 8191), (.p 13, 16383), (.p 14, 32767), (.p 15, 65535), (.p 16, 131071), (.p 17, 262143), (.p 18, 524287), (.p 19, 1048575), (.p 20, 2097151), (.p 21, 4194303), (.p 22, 8388607), (.p 23, 16777215), (.p 24, 33554431), (.p 25, 67108863), (.p 26, 134217727), (.p 27, 268435455), (.p 28, 536870911), (.p 29, 1073741823), (.p 30, 2147483647), (.p 31, 4294967295), (.p 32, 8589934591), (.p 33, 17179869183), (.p 34, 34359738367), (.p 35, 68719476735)] [] _ (fun p hp => hp) (by first | omega | (simp; done) | (simp; omega)) (by kernel_rfl) (by kernel_rfl) HO13.out ?_
      refine wpG_pure (i := 0) (v := ?v14x0) rfl rfl (by rfl) (fun w hB hG K hK => ?h14x0) ?_
      case h14x0 =>
        have cx := Own.cell hG 5 rfl
        go_wp2_with fail
        exact hK _ (Below.refl _ _)
      simp only [List.set_cons_zero, List.set_cons_succ]
      refine wpG_pure (i := 1) (v := ?v14x1) rfl rfl (by rfl) (fun w hB hG K hK => ?h14x1) ?_
      case h14x1 =>
        go_wp2_with fail
        refine (HC1.out _).mono ?_
        rintro e wx ⟨rfl, hbx⟩
        exact hK _ hbx
      simp only [List.set_cons_zero, List.set_cons_succ]
      refine wpG_pure (i := 2) (v := ?v14x2) rfl rfl (by rfl) (fun w hB hG K hK => ?h14x2) ?_
      case h14x2 =>
        go_wp2_with fail
        refine (num_any _ _).mono ?_
        rintro e wx ⟨rfl, rfl⟩
        exact hK _ (Below.refl _ _)
      simp only [List.set_cons_zero, List.set_cons_succ]
      refine wpG_pure (i := 3) (v := ?v14x3) rfl rfl (by rfl) (fun w hB hG K hK => ?h14x3) ?_
      case h14x3 =>
        have cx := Own.cell hG 3 rfl
        go_wp2_with fail
        exact hK _ (Below.refl _ _)
      simp only [List.set_cons_zero, List.set_cons_succ]
      refine wpG_pure (i := 4) (v := ?v14x4) rfl rfl (by rfl) (fun w hB hG K hK => ?h14x4) ?_
      case h14x4 =>
        go_wp2_with fail
        refine (HC2.out _).mono ?_
        rintro e wx ⟨rfl, hbx⟩
        exact hK _ hbx
      simp only [List.set_cons_zero, List.set_cons_succ]
      refine wpG_pure (i := 5) (v := ?v14x5) rfl rfl (by rfl) (fun w hB hG K hK => ?h14x5) ?_
      case h14x5 =>
        go_wp2_with fail
        refine (num_any _ _).mono ?_
        rintro e wx ⟨rfl, rfl⟩
        exact hK _ (Below.refl _ _)
      simp only [List.set_cons_zero, List.set_cons_succ]
      refine wpG_pure (i := 6) (v := ?v14x6) rfl rfl (by rfl) (fun w hB hG K hK => ?h14x6) ?_
      case h14x6 =>
        go_wp2_with fail
        exact hK _ (Below.refl _ _)
      simp only [List.set_cons_zero, List.set_cons_succ]
      refine wpG_pure (i := 7) (v := ?v14x7) rfl rfl (by rfl) (fun w hB hG K hK => ?h14x7) ?_
      case h14x7 =>
        have cx := Own.cell hG 2 rfl
        go_wp2_with fail
        exact hK _ (Below.refl _ _)
      simp only [List.set_cons_zero, List.set_cons_succ]
      refine wpG_pure (i := 8) (v := ?v14x8) rfl rfl (by rfl) (fun w hB hG K hK => ?h14x8) ?_
      case h14x8 =>
        go_wp2_with fail
        refine (HC3.out _).mono ?_
        rintro e wx ⟨rfl, hbx⟩
        exact hK _ hbx
      simp only [List.set_cons_zero, List.set_cons_succ]
      refine wpG_pure (i := 9) (v := ?v14x9) rfl rfl (by rfl) (fun w hB hG K hK => ?h14x9) ?_
      case h14x9 =>
        go_wp2_with fail
        refine (num_any _ _).mono ?_
        rintro e wx ⟨rfl, rfl⟩
        exact hK _ (Below.refl _ _)
      simp only [List.set_cons_zero, List.set_cons_succ]
      refine wpG_pure (i := 10) (v := ?v14x10) rfl rfl (by rfl) (fun w hB hG K hK => ?h14x10) ?_
      case h14x10 =>
        go_wp2_with fail
        exact hK _ (Below.refl _ _)
      simp only [List.set_cons_zero, List.set_cons_succ]
      refine wpG_pure (i := 11) (v := ?v14x11) rfl rfl (by rfl) (fun w hB hG K hK => ?h14x11) ?_
      case h14x11 =>
        go_wp2_with fail
        exact hK _ (Below.refl _ _)
      simp only [List.set_cons_zero, List.set_cons_succ]
      refine wpG_move (i := 12) rfl rfl rfl (by rfl) rfl ?_
      simp only [List.set_cons_zero, List.set_cons_succ]
      refine wpG_pure (i := 13) (v := ?v14x13) rfl rfl (by rfl) (fun w hB hG K hK => ?h14x13) ?_
      case h14x13 =>
        go_wp2_with fail
        exact hK _ (Below.refl _ _)
      simp only [List.set_cons_zero, List.set_cons_succ]
      refine wpG_pure (i := 14) (v := ?v14x14) rfl rfl (by rfl) (fun w hB hG K hK => ?h14x14) ?_
      case h14x14 =>
        have cx := Own.cell hG 3 rfl
        go_wp2_with fail
        exact hK _ (Below.refl _ _)
      simp only [List.set_cons_zero, List.set_cons_succ]
      refine wpG_pure (i := 15) (v := ?v14x15) rfl rfl (by rfl) (fun w hB hG K hK => ?h14x15) ?_
      case h14x15 =>
        go_wp2_with fail
        exact hK _ (Below.refl _ _)
      simp only [List.set_cons_zero, List.set_cons_succ]
      refine wpG_pure (i := 16) (v := ?v14x16) rfl rfl (by rfl) (fun w hB hG K hK => ?h14x16) ?_
      case h14x16 =>
        have cx := Own.cell hG 2 rfl
        go_wp2_with fail
        exact hK _ (Below.refl _ _)
      simp only [List.set_cons_zero, List.set_cons_succ]
      refine wpG_pure (i := 17) (v := ?v14x17) rfl rfl (by rfl) (fun w hB hG K hK => ?h14x17) ?_
      case h14x17 =>
        go_wp2_with fail
        exact hK _ (Below.refl _ _)
      simp only [List.set_cons_zero, List.set_cons_succ]
      refine wpG_pure (i := 18) (v := ?v14x18) rfl rfl (by rfl) (fun w hB hG K hK => ?h14x18) ?_
      case h14x18 =>
        go_wp2_with fail
        exact hK _ (Below.refl _ _)
      simp only [List.set_cons_zero, List.set_cons_succ]
      refine wpG_pure (i := 19) (v := ?v14x19) rfl rfl (by rfl) (fun w hB hG K hK => ?h14x19) ?_
      case h14x19 =>
        have cx := Own.cell hG 10 rfl
        go_wp2_with fail
        exact hK _ (Below.refl _ _)
      simp only [List.set_cons_zero, List.set_cons_succ]
      refine wpG_pure (i := 20) (v := ?v14x20) rfl rfl (by rfl) (fun w hB hG K hK => ?h14x20) ?_
      case h14x20 =>
        go_wp2_with fail
        exact hK _ (Below.refl _ _)
      simp only [List.set_cons_zero, List.set_cons_succ]
      refine wpG_pure (i := 21) (v := ?v14x21) rfl rfl (by rfl) (fun w hB hG K hK => ?h14x21) ?_
      case h14x21 =>
        go_wp2_with fail
        exact hK _ (Below.refl _ _)
      simp only [List.set_cons_zero, List.set_cons_succ]
      refine wpG_move (i := 22) rfl rfl rfl (by rfl) rfl ?_
      simp only [List.set_cons_zero, List.set_cons_succ]
      refine wpG_pure (i := 23) (v := ?v14x23) rfl rfl (by rfl) (fun w hB hG K hK => ?h14x23) ?_
      case h14x23 =>
        go_wp2_with fail
        exact hK _ (Below.refl _ _)
      simp only [List.set_cons_zero, List.set_cons_succ]
      refine wpG_pure (i := 24) (v := ?v14x24) rfl rfl (by rfl) (fun w hB hG K hK => ?h14x24) ?_
      case h14x24 =>
        have cx := Own.cell hG 10 rfl
        go_wp2_with fail
        exact hK _ (Below.refl _ _)
      simp only [List.set_cons_zero, List.set_cons_succ]
      refine wpG_pure (i := 25) (v := ?v14x25) rfl rfl (by rfl) (fun w hB hG K hK => ?h14x25) ?_
      case h14x25 =>
        go_wp2_with fail
        exact hK _ (Below.refl _ _)
      simp only [List.set_cons_zero, List.set_cons_succ]
      refine wpG_move (i := 26) rfl rfl rfl (by rfl) rfl ?_
      simp only [List.set_cons_zero, List.set_cons_succ]
      refine wpG_pure (i := 27) (v := ?v14x27) rfl rfl (by rfl) (fun w hB hG K hK => ?h14x27) ?_
      case h14x27 =>
        go_wp2_with fail
        exact hK _ (Below.refl _ _)
      simp only [List.set_cons_zero, List.set_cons_succ]
      refine wpG_pure (i := 28) (v := ?v14x28) rfl rfl (by rfl) (fun w hB hG K hK => ?h14x28) ?_
      case h14x28 =>
        have cx := Own.cell hG 8 rfl
        go_wp2_with fail
        exact hK _ (Below.refl _ _)
      simp only [List.set_cons_zero, List.set_cons_succ]
      refine wpG_pure (i := 29) (v := ?v14x29) rfl rfl (by rfl) (fun w hB hG K hK => ?h14x29) ?_
      case h14x29 =>
        go_wp2_with fail
        exact hK _ (Below.refl _ _)
      simp only [List.set_cons_zero, List.set_cons_succ]
      refine wpG_pure (i := 30) (v := ?v14x30) rfl rfl (by rfl) (fun w hB hG K hK => ?h14x30) ?_
      case h14x30 =>
        go_wp2_with fail
        exact hK _ (Below.refl _ _)
      simp only [List.set_cons_zero, List.set_cons_succ]
      refine wpG_move (i := 31) rfl rfl rfl (by rfl) rfl ?_
      simp only [List.set_cons_zero, List.set_cons_succ]
      refine wpG_skip (i := 32) rfl rfl (by rfl) ?_
      simp only [List.set_cons_zero, List.set_cons_succ]
      refine wpG_skip (i := 33) rfl rfl (by rfl) ?_
      simp only [List.set_cons_zero, List.set_cons_succ]
      refine wpG_pure (i := 34) (v := ?v14x34) rfl rfl (by rfl) (fun w hB hG K hK => ?h14x34) ?_
      case h14x34 =>
        go_wp2_with fail
        exact hK _ (Below.refl _ _)
      simp only [List.set_cons_zero, List.set_cons_succ]
      refine wpG_pure (i := 35) (v := ?v14x35) rfl rfl (by rfl) (fun w hB hG K hK => ?h14x35) ?_
      case h14x35 =>
        go_wp2_with fail
        exact hK _ (Below.refl _ _)
      simp only [List.set_cons_zero, List.set_cons_succ]
      refine wpG_nil (fun w14 hb14 hG14 => ?_)
      simp only [List.append_eq, List.cons_append, List.nil_append, List.drop_succ_cons, List.drop_zero, List.drop_nil]
      have O14 := Own.of hG14
      try simp only [List.setIfInBounds_toArray, List.set_cons_zero, List.set_cons_succ] at O14
      have bw14 : Below w.heap.size w w14 := Below.trans (by go_grown) (Below.mono hb14 (by first | omega | (simp; done) | (simp; omega)))
      have zw14 := Below.size hb14
      try simp only [World.size_alloc, World.size_drew, World.size_setCell] at zw14
      clear c13x0 f13x0 l13x0 l13x0d0 l13x0d1 a13x0 c13x1 f13x1 l13x1 l13x1d0 l13x1d1 a13x1 c13x2 f13x2 l13x2 l13x2d0 l13x2d1 a13x2 c13x3 f13x3 l13x3 l13x3d0 l13x3d1 a13x3 c13x4 f13x4 l13x4 l13x4d0 l13x4d1 a13x4 c13x5 f13x5 l13x5 l13x5d0 l13x5d1 a13x5 c13x6 f13x6 l13x6 l13x6d0 l13x6d1 a13x6 c13x7 f13x7 l13x7 l13x7d0 l13x7d1 a13x7 c13x8 f13x8 l13x8 l13x8d0 l13x8d1 a13x8 c13x9 f13x9 l13x9 l13x9d0 l13x9d1 a13x9 c13x10 f13x10 l13x10 l13x10d0 l13x10d1 a13x10 c13x11 f13x11 l13x11 l13x11d0 l13x11d1 a13x11 c13x12 f13x12 l13x12 l13x12d0 l13x12d1 a13x12
      have c14x0 := Own.cell O14 0 rfl
      have f14x0 := Own.free O14 0 rfl
      have l14x0 := Own.lt O14 0 rfl
      have l14x0d0 := le_up 0 l14x0
      have l14x0d1 := le_up 1 l14x0
      simp only [upN] at l14x0d0 l14x0d1
      have a14x0 := fun o1 o2 o3 i => cell_al3 l14x0 o1 o2 o3 i
      have c14x1 := Own.cell O14 1 rfl
      have f14x1 := Own.free O14 1 rfl
      have l14x1 := Own.lt O14 1 rfl
      have l14x1d0 := le_up 0 l14x1
      have l14x1d1 := le_up 1 l14x1
      simp only [upN] at l14x1d0 l14x1d1
      have a14x1 := fun o1 o2 o3 i => cell_al3 l14x1 o1 o2 o3 i
      have c14x2 := Own.cell O14 2 rfl
      have f14x2 := Own.free O14 2 rfl
      have l14x2 := Own.lt O14 2 rfl
      have l14x2d0 := le_up 0 l14x2
      have l14x2d1 := le_up 1 l14x2
      simp only [upN] at l14x2d0 l14x2d1
      have a14x2 := fun o1 o2 o3 i => cell_al3 l14x2 o1 o2 o3 i
      have c14x3 := Own.cell O14 3 rfl
      have f14x3 := Own.free O14 3 rfl
      have l14x3 := Own.lt O14 3 rfl
      have l14x3d0 := le_up 0 l14x3
      have l14x3d1 := le_up 1 l14x3
      simp only [upN] at l14x3d0 l14x3d1
      have a14x3 := fun o1 o2 o3 i => cell_al3 l14x3 o1 o2 o3 i
      have c14x4 := Own.cell O14 4 rfl
      have f14x4 := Own.free O14 4 rfl
      have l14x4 := Own.lt O14 4 rfl
      have l14x4d0 := le_up 0 l14x4
      have l14x4d1 := le_up 1 l14x4
      simp only [upN] at l14x4d0 l14x4d1
      have a14x4 := fun o1 o2 o3 i => cell_al3 l14x4 o1 o2 o3 i
      have c14x5 := Own.cell O14 5 rfl
      have f14x5 := Own.free O14 5 rfl
      have l14x5 := Own.lt O14 5 rfl
      have l14x5d0 := le_up 0 l14x5
      have l14x5d1 := le_up 1 l14x5
      simp only [upN] at l14x5d0 l14x5d1
      have a14x5 := fun o1 o2 o3 i => cell_al3 l14x5 o1 o2 o3 i
      have c14x6 := Own.cell O14 6 rfl
      have f14x6 := Own.free O14 6 rfl
      have l14x6 := Own.lt O14 6 rfl
      have l14x6d0 := le_up 0 l14x6
      have l14x6d1 := le_up 1 l14x6
      simp only [upN] at l14x6d0 l14x6d1
      have a14x6 := fun o1 o2 o3 i => cell_al3 l14x6 o1 o2 o3 i
      have c14x7 := Own.cell O14 7 rfl
      have f14x7 := Own.free O14 7 rfl
      have l14x7 := Own.lt O14 7 rfl
      have l14x7d0 := le_up 0 l14x7
      have l14x7d1 := le_up 1 l14x7
      simp only [upN] at l14x7d0 l14x7d1
      have a14x7 := fun o1 o2 o3 i => cell_al3 l14x7 o1 o2 o3 i
      have c14x8 := Own.cell O14 8 rfl
      have f14x8 := Own.free O14 8 rfl
      have l14x8 := Own.lt O14 8 rfl
      have l14x8d0 := le_up 0 l14x8
      have l14x8d1 := le_up 1 l14x8
      simp only [upN] at l14x8d0 l14x8d1
      have a14x8 := fun o1 o2 o3 i => cell_al3 l14x8 o1 o2 o3 i
      have c14x9 := Own.cell O14 9 rfl
      have f14x9 := Own.free O14 9 rfl
      have l14x9 := Own.lt O14 9 rfl
      have l14x9d0 := le_up 0 l14x9
      have l14x9d1 := le_up 1 l14x9
      simp only [upN] at l14x9d0 l14x9d1
      have a14x9 := fun o1 o2 o3 i => cell_al3 l14x9 o1 o2 o3 i
      have c14x10 := Own.cell O14 10 rfl
      have f14x10 := Own.free O14 10 rfl
      have l14x10 := Own.lt O14 10 rfl
      have l14x10d0 := le_up 0 l14x10
      have l14x10d1 := le_up 1 l14x10
      simp only [upN] at l14x10d0 l14x10d1
      have a14x10 := fun o1 o2 o3 i => cell_al3 l14x10 o1 o2 o3 i
      have c14x11 := Own.cell O14 11 rfl
      have f14x11 := Own.free O14 11 rfl
      have l14x11 := Own.lt O14 11 rfl
      have l14x11d0 := le_up 0 l14x11
      have l14x11d1 := le_up 1 l14x11
      simp only [upN] at l14x11d0 l14x11d1
      have a14x11 := fun o1 o2 o3 i => cell_al3 l14x11 o1 o2 o3 i
      have c14x12 := Own.cell O14 12 rfl
      have f14x12 := Own.free O14 12 rfl
      have l14x12 := Own.lt O14 12 rfl
      have l14x12d0 := le_up 0 l14x12
      have l14x12d1 := le_up 1 l14x12
      simp only [upN] at l14x12d0 l14x12d1
      have a14x12 := fun o1 o2 o3 i => cell_al3 l14x12 o1 o2 o3 i
      have HO14 := Lib.hid O14
      clear O14 hb14
      go_wp2_with fail
      refine (works_any _).mono ?_
      rintro e w15 ⟨rfl, hb15⟩
      have O15 := Own.grow' hb15 HO14.out
      try simp only [List.setIfInBounds_toArray, List.set_cons_zero, List.set_cons_succ] at O15
      have bw15 : Below w.heap.size w w15 := Below.trans (by go_grown) (Below.mono hb15 (by first | omega | (simp; done) | (simp; omega)))
      have zw15 := Below.size hb15
      try simp only [World.size_alloc, World.size_drew, World.size_setCell] at zw15
      clear c14x0 f14x0 l14x0 l14x0d0 l14x0d1 a14x0 c14x1 f14x1 l14x1 l14x1d0 l14x1d1 a14x1 c14x2 f14x2 l14x2 l14x2d0 l14x2d1 a14x2 c14x3 f14x3 l14x3 l14x3d0 l14x3d1 a14x3 c14x4 f14x4 l14x4 l14x4d0 l14x4d1 a14x4 c14x5 f14x5 l14x5 l14x5d0 l14x5d1 a14x5 c14x6 f14x6 l14x6 l14x6d0 l14x6d1 a14x6 c14x7 f14x7 l14x7 l14x7d0 l14x7d1 a14x7 c14x8 f14x8 l14x8 l14x8d0 l14x8d1 a14x8 c14x9 f14x9 l14x9 l14x9d0 l14x9d1 a14x9 c14x10 f14x10 l14x10 l14x10d0 l14x10d1 a14x10 c14x11 f14x11 l14x11 l14x11d0 l14x11d1 a14x11 c14x12 f14x12 l14x12 l14x12d0 l14x12d1 a14x12
      have c15x0 := Own.cell O15 0 rfl
      have f15x0 := Own.free O15 0 rfl
      have l15x0 := Own.lt O15 0 rfl
      have l15x0d0 := le_up 0 l15x0
      have l15x0d1 := le_up 1 l15x0
      simp only [upN] at l15x0d0 l15x0d1
      have a15x0 := fun o1 o2 o3 i => cell_al3 l15x0 o1 o2 o3 i
      have c15x1 := Own.cell O15 1 rfl
      have f15x1 := Own.free O15 1 rfl
      have l15x1 := Own.lt O15 1 rfl
      have l15x1d0 := le_up 0 l15x1
      have l15x1d1 := le_up 1 l15x1
      simp only [upN] at l15x1d0 l15x1d1
      have a15x1 := fun o1 o2 o3 i => cell_al3 l15x1 o1 o2 o3 i
      have c15x2 := Own.cell O15 2 rfl
      have f15x2 := Own.free O15 2 rfl
      have l15x2 := Own.lt O15 2 rfl
      have l15x2d0 := le_up 0 l15x2
      have l15x2d1 := le_up 1 l15x2
      simp only [upN] at l15x2d0 l15x2d1
      have a15x2 := fun o1 o2 o3 i => cell_al3 l15x2 o1 o2 o3 i
      have c15x3 := Own.cell O15 3 rfl
      have f15x3 := Own.free O15 3 rfl
      have l15x3 := Own.lt O15 3 rfl
      have l15x3d0 := le_up 0 l15x3
      have l15x3d1 := le_up 1 l15x3
      simp only [upN] at l15x3d0 l15x3d1
      have a15x3 := fun o1 o2 o3 i => cell_al3 l15x3 o1 o2 o3 i
      have c15x4 := Own.cell O15 4 rfl
      have f15x4 := Own.free O15 4 rfl
      have l15x4 := Own.lt O15 4 rfl
      have l15x4d0 := le_up 0 l15x4
      have l15x4d1 := le_up 1 l15x4
      simp only [upN] at l15x4d0 l15x4d1
      have a15x4 := fun o1 o2 o3 i => cell_al3 l15x4 o1 o2 o3 i
      have c15x5 := Own.cell O15 5 rfl
      have f15x5 := Own.free O15 5 rfl
      have l15x5 := Own.lt O15 5 rfl
      have l15x5d0 := le_up 0 l15x5
      have l15x5d1 := le_up 1 l15x5
      simp only [upN] at l15x5d0 l15x5d1
      have a15x5 := fun o1 o2 o3 i => cell_al3 l15x5 o1 o2 o3 i
      have c15x6 := Own.cell O15 6 rfl
      have f15x6 := Own.free O15 6 rfl
      have l15x6 := Own.lt O15 6 rfl
      have l15x6d0 := le_up 0 l15x6
      have l15x6d1 := le_up 1 l15x6
      simp only [upN] at l15x6d0 l15x6d1
      have a15x6 := fun o1 o2 o3 i => cell_al3 l15x6 o1 o2 o3 i
      have c15x7 := Own.cell O15 7 rfl
      have f15x7 := Own.free O15 7 rfl
      have l15x7 := Own.lt O15 7 rfl
      have l15x7d0 := le_up 0 l15x7
      have l15x7d1 := le_up 1 l15x7
      simp only [upN] at l15x7d0 l15x7d1
      have a15x7 := fun o1 o2 o3 i => cell_al3 l15x7 o1 o2 o3 i
      have c15x8 := Own.cell O15 8 rfl
      have f15x8 := Own.free O15 8 rfl
      have l15x8 := Own.lt O15 8 rfl
      have l15x8d0 := le_up 0 l15x8
      have l15x8d1 := le_up 1 l15x8
      simp only [upN] at l15x8d0 l15x8d1
      have a15x8 := fun o1 o2 o3 i => cell_al3 l15x8 o1 o2 o3 i
      have c15x9 := Own.cell O15 9 rfl
      have f15x9 := Own.free O15 9 rfl
      have l15x9 := Own.lt O15 9 rfl
      have l15x9d0 := le_up 0 l15x9
      have l15x9d1 := le_up 1 l15x9
      simp only [upN] at l15x9d0 l15x9d1
      have a15x9 := fun o1 o2 o3 i => cell_al3 l15x9 o1 o2 o3 i
      have c15x10 := Own.cell O15 10 rfl
      have f15x10 := Own.free O15 10 rfl
      have l15x10 := Own.lt O15 10 rfl
      have l15x10d0 := le_up 0 l15x10
      have l15x10d1 := le_up 1 l15x10
      simp only [upN] at l15x10d0 l15x10d1
      have a15x10 := fun o1 o2 o3 i => cell_al3 l15x10 o1 o2 o3 i
      have c15x11 := Own.cell O15 11 rfl
      have f15x11 := Own.free O15 11 rfl
      have l15x11 := Own.lt O15 11 rfl
      have l15x11d0 := le_up 0 l15x11
      have l15x11d1 := le_up 1 l15x11
      simp only [upN] at l15x11d0 l15x11d1
      have a15x11 := fun o1 o2 o3 i => cell_al3 l15x11 o1 o2 o3 i
      have c15x12 := Own.cell O15 12 rfl
      have f15x12 := Own.free O15 12 rfl
      have l15x12 := Own.lt O15 12 rfl
      have l15x12d0 := le_up 0 l15x12
      have l15x12d1 := le_up 1 l15x12
      simp only [upN] at l15x12d0 l15x12d1
      have a15x12 := fun o1 o2 o3 i => cell_al3 l15x12 o1 o2 o3 i
      have HO15 := Lib.hid O15
      clear O15 hb15
      go_wp2_with fail
      go_ret
      exact ⟨rfl, by go_grown⟩
end Go.Proofs.Ytjmplababaejaaa
