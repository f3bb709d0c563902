/- Walks of package gauge: Back. -/
import Derived.Test.YtjmplababaejaaaGaugeL
import Derived.Test.YtjmplababaejaaaReg
set_option linter.unusedVariables false
set_option linter.unusedSimpArgs false
namespace Go.Proofs.Ytjmplababaejaaa
open Go.RowKit

theorem knRow_blk2 {w : World} {b : Nat} {t : TypeId} {g h : Kn} (hb : Blk w b #[.int .u64 g.l, .int .u64 g.lo, .int .u64 g.hi, .int .u64 g.a, .int .u64 h.l, .int .u64 h.lo, .int .u64 h.hi, .int .u64 h.a] t) : KnRow w b [g, h] := fun i x hx => by
  have hc := hb.cell
  match i, hx with
  | 0, hx => simp at hx; subst hx; exact ⟨by rw [hc]; rfl, by rw [hc]; rfl, by rw [hc]; rfl, by rw [hc]; rfl⟩
  | 1, hx => simp at hx; subst hx; exact ⟨by rw [hc]; rfl, by rw [hc]; rfl, by rw [hc]; rfl, by rw [hc]; rfl⟩
  | i + 2, hx => simp at hx
theorem fits_blk2 {w : World} {b : Nat} {t : TypeId} {g h : Kn} {r : Bool} (hr : (g.ok && h.ok) = r) (hb : Blk w b #[.int .u64 g.l, .int .u64 g.lo, .int .u64 g.hi, .int .u64 g.a, .int .u64 h.l, .int .u64 h.lo, .int .u64 h.hi, .int .u64 h.a] t) :
    Calls Try.prog 41 #[.slice (some ⟨b, 0, none⟩) 2 2] w fun e w' => e = .returned (.bool r) ∧ Below w.heap.size w w' := by
  have h1 := fits_any b 2 2 [g, h] w rfl (by omega) hb.lt (knRow_blk2 hb)
  refine h1.mono fun e w' he => ⟨?_, he.2⟩
  rw [he.1, ← hr]; simp
theorem join_blk2 {w : World} {b : Nat} {t : TypeId} {x y : Int} (hx : U x) (hb : Blk w b #[.int .u64 x, .int .u64 y] t) :
    Calls Try.prog 45 #[.slice (some ⟨b, 0, none⟩) 2 2] w fun e w' => e = .returned (.int .u64 (orI x y)) ∧ Below w.heap.size w w' :=
  (join_any b x y w hx (by rw [hb.cell]; rfl) (by rw [hb.cell]; rfl)).mono fun e w' he => ⟨he.1, he.2 ▸ Below.refl _ _⟩

set_option maxHeartbeats 4000000 in
set_option maxRecDepth 20000 in
theorem back_in (g h : Kn) (m p0 p1 p2 f0 f1 f2 b0 b1 b2 : Int) (w : World) (hb : (g.ok && h.ok) = true) (hm : m ≤ 1099511627776) (hm2 : g.hi ≤ m) (ha : U g.a)
    (hmi : ∀ W : World, Calls Try.prog 42 #[.agg #[.int .u64 m, .int .u64 m, .int .u64 m], .agg #[.int .u64 g.l, .int .u64 g.lo, .int .u64 g.hi]] W fun e w' => e = .returned (.agg #[.int .u64 p0, .int .u64 p1, .int .u64 p2]) ∧ Below W.heap.size W w')
    (hea : ∀ W : World, Calls Try.prog 34 #[.agg #[.int .u64 p0, .int .u64 p1, .int .u64 p2], .func (.func 43) #[] #[]] W fun e w' => e = .returned (.agg #[.int .u64 f0, .int .u64 f1, .int .u64 f2]) ∧ Below W.heap.size W w')
    (hfo : ∀ W : World, Calls Try.prog 36 #[.agg #[.int .u64 f0, .int .u64 f1, .int .u64 f2], .agg #[.int .u64 h.l, .int .u64 h.lo, .int .u64 h.hi], .func (.func 44) #[] #[]] W fun e w' => e = .returned (.agg #[.int .u64 b0, .int .u64 b1, .int .u64 b2]) ∧ Below W.heap.size W w') :
    Calls Try.prog 9 #[.int .u64 m, .agg #[.int .u64 g.l, .int .u64 g.lo, .int .u64 g.hi, .int .u64 g.a], .agg #[.int .u64 h.l, .int .u64 h.lo, .int .u64 h.hi, .int .u64 h.a]] w
      fun e w' => e = .returned (.tuple #[.agg #[.int .u64 p0, .int .u64 p1, .int .u64 p2, .int .u64 (madeA p1 p2 g.a)], .agg #[.int .u64 b0, .int .u64 b1, .int .u64 b2, .int .u64 (madeA b1 b2 (orI g.a h.a))], .int .i64 0]) ∧ Below w.heap.size w w' := by
  have hfg : ∀ W : World, (Instr.field 70 (.agg #[.int .u64 g.l, .int .u64 g.lo, .int .u64 g.hi, .int .u64 g.a]) 0).run Try.prog W = .ok (.agg #[.int .u64 g.l, .int .u64 g.lo, .int .u64 g.hi]) W := fun _ => by kernel_rfl
  have hfh : ∀ W : World, (Instr.field 70 (.agg #[.int .u64 h.l, .int .u64 h.lo, .int .u64 h.hi, .int .u64 h.a]) 0).run Try.prog W = .ok (.agg #[.int .u64 h.l, .int .u64 h.lo, .int .u64 h.hi]) W := fun _ => by kernel_rfl
  have HF := Lib.hid fun (W : World) (b : Nat) (t : TypeId) (hbk : Blk W b #[.int .u64 g.l, .int .u64 g.lo, .int .u64 g.hi, .int .u64 g.a, .int .u64 h.l, .int .u64 h.lo, .int .u64 h.hi, .int .u64 h.a] t) => fits_blk2 hb hbk
  clear hb
  have HM := Lib.hid hmi
  have HE := Lib.hid hea
  have HO := Lib.hid hfo
  have hd : decide (1099511627776 < m) = false := decide_eq_false (by omega)
  have hd2 : decide (m < g.hi) = false := decide_eq_false (by omega)
  clear hmi hea hfo
  go_enter Try.func9, Try.ntmps9
  go_wp2_with fail
  refine wp_region_grow w.heap.size 17 0 16 [(0, 0, 4096, 16), (1, 1, 8192, 4096), (2, 0, 16384, 32), (3, 6, 32768, 16384), (4, 10, 65536, 40960), (5, 24, 131072, 65536), (6, 32, 262144, 131072), (7, 96, 524288, 262144), (8, 128, 1048576, 524289), (9, 384, 2097152, 1572864), (10, 640, 4194304, 2621440), (11, 1152, 8388608, 4194304), (12, 2048, 16777216, 8388609), (13, 2048, 33554432, 8388624), (14, 10240, 67108864, 41943040), (15, 22528, 134217728, 92274688), (16, 34816, 268435456, 142606336)] [(.p 0, 1), (.p 1, 3), (.p 2, 7), (.p 3, 15), (.g 4, 31), (.q 5, 63), (.p 6, 127), (.p 7, 255), (.p 8, 511), (.p 9, 1023), (.p 10, 2047), (.p 11, 4095), (.p 12, 8191), (.p 13, 16383), (.p 14, 32767), (.p 15, 65535), (.p 16, 131071)] [] _ (fun p hp => hp) (by first | omega | (simp; done) | (simp; omega)) (by kernel_rfl) (by kernel_rfl) (Own.new (Own.new (Own.new (Own.new (Own.nil w) (w.heap.size) rfl) (w.heap.size + 1) (by simp)) (w.heap.size + 1 + 1) (by simp)) (w.heap.size + 1 + 1 + 1) (by simp)) ?_
  refine wpG_pure (i := 0) (v := ?v1x0) rfl rfl (by rfl) (fun w hB hG K hK => ?h1x0) ?_
  case h1x0 =>
    have cx := hG.cell 3 rfl
    go_wp2_with fail
    exact hK _ (Below.refl _ _)
  simp only [List.set_cons_zero, List.set_cons_succ]
  refine wpG_pure (i := 1) (v := ?v1x1) rfl rfl (by rfl) (fun w hB hG K hK => ?h1x1) ?_
  case h1x1 =>
    go_wp2_with fail
    refine (ofGauge_any _ _ _ _ _).mono ?_
    rintro e wx ⟨rfl, hbx⟩
    exact hK _ hbx
  simp only [List.set_cons_zero, List.set_cons_succ]
  refine wpG_pure (i := 2) (v := ?v1x2) rfl rfl (by rfl) (fun w hB hG K hK => ?h1x2) ?_
  case h1x2 =>
    have cx := hG.cell 2 rfl
    go_wp2_with fail
    exact hK _ (Below.refl _ _)
  simp only [List.set_cons_zero, List.set_cons_succ]
  refine wpG_pure (i := 3) (v := ?v1x3) rfl rfl (by rfl) (fun w hB hG K hK => ?h1x3) ?_
  case h1x3 =>
    go_wp2_with fail
    refine (ofGauge_any _ _ _ _ _).mono ?_
    rintro e wx ⟨rfl, hbx⟩
    exact hK _ hbx
  simp only [List.set_cons_zero, List.set_cons_succ]
  refine wpG_make (i := 4) (c := ?c1x4) (t := ?t1x4) (fun b => .slice (some ⟨b, 0, none⟩) 2 2) rfl rfl (by rfl) (fun w hB hG K hK => ?h1x4) (fun v1g1 l1g1 n1g1 => ?_)
  case h1x4 =>
    go_wp2_with fail
    exact hK
  simp only [List.set_cons_zero, List.set_cons_succ]
  try simp only [World.size_alloc, World.size_drew, World.size_setCell] at l1g1
  clear n1g1
  refine wpG_op (i := 5) (v := ?v1x5) rfl rfl (by rfl) (fun w hB hG K hK => ?h1x5) ?_
  case h1x5 =>
    go_wp2_with fail
    refine (HF.out _ _ _ (hG.get 0 rfl)).mono ?_
    rintro e wx ⟨rfl, hbx⟩
    exact hK _ hbx
  simp only [List.set_cons_zero, List.set_cons_succ]
  refine wpG_pure (i := 6) (v := ?v1x6) rfl rfl (by rfl) (fun w hB hG K hK => ?h1x6) ?_
  case h1x6 =>
    go_wp2_with fail
    exact hK _ (Below.refl _ _)
  simp only [List.set_cons_zero, List.set_cons_succ]
  refine wpG_move (i := 7) rfl rfl rfl (by rfl) rfl ?_
  simp only [List.set_cons_zero, List.set_cons_succ]
  refine wpG_move (i := 8) rfl rfl rfl (by rfl) rfl ?_
  simp only [List.set_cons_zero, List.set_cons_succ]
  refine wpG_pure (i := 9) (v := ?v1x9) rfl rfl (by rfl) (fun w hB hG K hK => ?h1x9) ?_
  case h1x9 =>
    go_wp2_with fail
    exact hK _ (Below.refl _ _)
  simp only [List.set_cons_zero, List.set_cons_succ]
  refine wpG_pure (i := 10) (v := ?v1x10) rfl rfl (by rfl) (fun w hB hG K hK => ?h1x10) ?_
  case h1x10 =>
    go_wp2_with fail
    exact hK _ (Below.refl _ _)
  simp only [List.set_cons_zero, List.set_cons_succ]
  refine wpG_move (i := 11) rfl rfl rfl (by rfl) rfl ?_
  simp only [List.set_cons_zero, List.set_cons_succ]
  refine wpG_move (i := 12) rfl rfl rfl (by rfl) rfl ?_
  simp only [List.set_cons_zero, List.set_cons_succ]
  refine wpG_pure (i := 13) (v := ?v1x13) rfl rfl (by rfl) (fun w hB hG K hK => ?h1x13) ?_
  case h1x13 =>
    go_wp2_with fail
    exact hK _ (Below.refl _ _)
  simp only [List.set_cons_zero, List.set_cons_succ]
  refine wpG_pure (i := 14) (v := ?v1x14) rfl rfl (by rfl) (fun w hB hG K hK => ?h1x14) ?_
  case h1x14 =>
    have cx := hG.cell 3 rfl
    go_wp2_with fail
    exact hK _ (Below.refl _ _)
  simp only [List.set_cons_zero, List.set_cons_succ]
  refine wpG_pure (i := 15) (v := ?v1x15) rfl rfl (by rfl) (fun w hB hG K hK => ?h1x15) ?_
  case h1x15 =>
    go_wp2_with fail
    exact hK _ (Below.refl _ _)
  simp only [List.set_cons_zero, List.set_cons_succ]
  refine wpG_pure (i := 16) (v := ?v1x16) rfl rfl (by rfl) (fun w hB hG K hK => ?h1x16) ?_
  case h1x16 =>
    go_wp2_with fail
    exact hK _ (Below.refl _ _)
  simp only [List.set_cons_zero, List.set_cons_succ]
  refine wpG_nil (fun w1 hb1 hG1 => ?_)
  simp only [List.append_eq, List.cons_append, List.nil_append, List.drop_succ_cons, List.drop_zero, List.drop_nil]
  have u1g1 := Own.lt hG1 0 rfl
  have O1 := Own.of hG1
  try simp only [List.setIfInBounds_toArray, List.set_cons_zero, List.set_cons_succ] at O1
  have bw1 : Below w.heap.size w w1 := Below.trans (by go_grown) (Below.mono hb1 (by first | omega | (simp; done) | (simp; omega)))
  have zw1 := Below.size hb1
  try simp only [World.size_alloc, World.size_drew, World.size_setCell] at zw1
  have c1x0 := O1.cell 0 rfl
  have f1x0 := O1.free 0 rfl
  have l1x0 := O1.lt 0 rfl
  have l1x0d0 := le_up 0 l1x0
  have l1x0d1 := le_up 1 l1x0
  simp only [upN] at l1x0d0 l1x0d1
  have c1x1 := O1.cell 1 rfl
  have f1x1 := O1.free 1 rfl
  have l1x1 := O1.lt 1 rfl
  have l1x1d0 := le_up 0 l1x1
  have l1x1d1 := le_up 1 l1x1
  simp only [upN] at l1x1d0 l1x1d1
  have c1x2 := O1.cell 2 rfl
  have f1x2 := O1.free 2 rfl
  have l1x2 := O1.lt 2 rfl
  have l1x2d0 := le_up 0 l1x2
  have l1x2d1 := le_up 1 l1x2
  simp only [upN] at l1x2d0 l1x2d1
  have c1x3 := O1.cell 3 rfl
  have f1x3 := O1.free 3 rfl
  have l1x3 := O1.lt 3 rfl
  have l1x3d0 := le_up 0 l1x3
  have l1x3d1 := le_up 1 l1x3
  simp only [upN] at l1x3d0 l1x3d1
  have c1x4 := O1.cell 4 rfl
  have f1x4 := O1.free 4 rfl
  have l1x4 := O1.lt 4 rfl
  have l1x4d0 := le_up 0 l1x4
  have l1x4d1 := le_up 1 l1x4
  simp only [upN] at l1x4d0 l1x4d1
  have HO1 := Lib.hid O1
  clear O1 hb1
  go_wp2_with fail
  refine (ofGauge_any _ _ _ _ _).mono ?_
  rintro e w2 ⟨rfl, hb2⟩
  have O2 := Own.grow' hb2 HO1.out
  try simp only [List.setIfInBounds_toArray, List.set_cons_zero, List.set_cons_succ] at O2
  have bw2 : Below w.heap.size w w2 := Below.trans (by go_grown) (Below.mono hb2 (by first | omega | (simp; done) | (simp; omega)))
  have zw2 := Below.size hb2
  try simp only [World.size_alloc, World.size_drew, World.size_setCell] at zw2
  clear c1x0 f1x0 l1x0 l1x0d0 l1x0d1 c1x1 f1x1 l1x1 l1x1d0 l1x1d1 c1x2 f1x2 l1x2 l1x2d0 l1x2d1 c1x3 f1x3 l1x3 l1x3d0 l1x3d1 c1x4 f1x4 l1x4 l1x4d0 l1x4d1
  have c2x0 := O2.cell 0 rfl
  have f2x0 := O2.free 0 rfl
  have l2x0 := O2.lt 0 rfl
  have l2x0d0 := le_up 0 l2x0
  have l2x0d1 := le_up 1 l2x0
  simp only [upN] at l2x0d0 l2x0d1
  have c2x1 := O2.cell 1 rfl
  have f2x1 := O2.free 1 rfl
  have l2x1 := O2.lt 1 rfl
  have l2x1d0 := le_up 0 l2x1
  have l2x1d1 := le_up 1 l2x1
  simp only [upN] at l2x1d0 l2x1d1
  have c2x2 := O2.cell 2 rfl
  have f2x2 := O2.free 2 rfl
  have l2x2 := O2.lt 2 rfl
  have l2x2d0 := le_up 0 l2x2
  have l2x2d1 := le_up 1 l2x2
  simp only [upN] at l2x2d0 l2x2d1
  have c2x3 := O2.cell 3 rfl
  have f2x3 := O2.free 3 rfl
  have l2x3 := O2.lt 3 rfl
  have l2x3d0 := le_up 0 l2x3
  have l2x3d1 := le_up 1 l2x3
  simp only [upN] at l2x3d0 l2x3d1
  have c2x4 := O2.cell 4 rfl
  have f2x4 := O2.free 4 rfl
  have l2x4 := O2.lt 4 rfl
  have l2x4d0 := le_up 0 l2x4
  have l2x4d1 := le_up 1 l2x4
  simp only [upN] at l2x4d0 l2x4d1
  have HO2 := Lib.hid O2
  clear O2 hb2
  go_wp2_with fail
  refine (HM.out _).mono ?_
  rintro e w3 ⟨rfl, hb3⟩
  have O3 := Own.grow' hb3 HO2.out
  try simp only [List.setIfInBounds_toArray, List.set_cons_zero, List.set_cons_succ] at O3
  have bw3 : Below w.heap.size w w3 := Below.trans (by go_grown) (Below.mono hb3 (by first | omega | (simp; done) | (simp; omega)))
  have zw3 := Below.size hb3
  try simp only [World.size_alloc, World.size_drew, World.size_setCell] at zw3
  clear c2x0 f2x0 l2x0 l2x0d0 l2x0d1 c2x1 f2x1 l2x1 l2x1d0 l2x1d1 c2x2 f2x2 l2x2 l2x2d0 l2x2d1 c2x3 f2x3 l2x3 l2x3d0 l2x3d1 c2x4 f2x4 l2x4 l2x4d0 l2x4d1
  have c3x0 := O3.cell 0 rfl
  have f3x0 := O3.free 0 rfl
  have l3x0 := O3.lt 0 rfl
  have l3x0d0 := le_up 0 l3x0
  have l3x0d1 := le_up 1 l3x0
  simp only [upN] at l3x0d0 l3x0d1
  have c3x1 := O3.cell 1 rfl
  have f3x1 := O3.free 1 rfl
  have l3x1 := O3.lt 1 rfl
  have l3x1d0 := le_up 0 l3x1
  have l3x1d1 := le_up 1 l3x1
  simp only [upN] at l3x1d0 l3x1d1
  have c3x2 := O3.cell 2 rfl
  have f3x2 := O3.free 2 rfl
  have l3x2 := O3.lt 2 rfl
  have l3x2d0 := le_up 0 l3x2
  have l3x2d1 := le_up 1 l3x2
  simp only [upN] at l3x2d0 l3x2d1
  have c3x3 := O3.cell 3 rfl
  have f3x3 := O3.free 3 rfl
  have l3x3 := O3.lt 3 rfl
  have l3x3d0 := le_up 0 l3x3
  have l3x3d1 := le_up 1 l3x3
  simp only [upN] at l3x3d0 l3x3d1
  have c3x4 := O3.cell 4 rfl
  have f3x4 := O3.free 4 rfl
  have l3x4 := O3.lt 4 rfl
  have l3x4d0 := le_up 0 l3x4
  have l3x4d1 := le_up 1 l3x4
  simp only [upN] at l3x4d0 l3x4d1
  have HO3 := Lib.hid O3
  clear O3 hb3
  go_wp2_with fail
  refine (HE.out _).mono ?_
  rintro e w4 ⟨rfl, hb4⟩
  have O4 := Own.grow' hb4 (Own.new HO3.out (w3.heap.size) rfl)
  try simp only [List.setIfInBounds_toArray, List.set_cons_zero, List.set_cons_succ] at O4
  have bw4 : Below w.heap.size w w4 := Below.trans (by go_grown) (Below.mono hb4 (by first | omega | (simp; done) | (simp; omega)))
  have zw4 := Below.size hb4
  try simp only [World.size_alloc, World.size_drew, World.size_setCell] at zw4
  clear c3x0 f3x0 l3x0 l3x0d0 l3x0d1 c3x1 f3x1 l3x1 l3x1d0 l3x1d1 c3x2 f3x2 l3x2 l3x2d0 l3x2d1 c3x3 f3x3 l3x3 l3x3d0 l3x3d1 c3x4 f3x4 l3x4 l3x4d0 l3x4d1
  have c4x0 := O4.cell 0 rfl
  have f4x0 := O4.free 0 rfl
  have l4x0 := O4.lt 0 rfl
  have l4x0d0 := le_up 0 l4x0
  have l4x0d1 := le_up 1 l4x0
  simp only [upN] at l4x0d0 l4x0d1
  have c4x1 := O4.cell 1 rfl
  have f4x1 := O4.free 1 rfl
  have l4x1 := O4.lt 1 rfl
  have l4x1d0 := le_up 0 l4x1
  have l4x1d1 := le_up 1 l4x1
  simp only [upN] at l4x1d0 l4x1d1
  have c4x2 := O4.cell 2 rfl
  have f4x2 := O4.free 2 rfl
  have l4x2 := O4.lt 2 rfl
  have l4x2d0 := le_up 0 l4x2
  have l4x2d1 := le_up 1 l4x2
  simp only [upN] at l4x2d0 l4x2d1
  have c4x3 := O4.cell 3 rfl
  have f4x3 := O4.free 3 rfl
  have l4x3 := O4.lt 3 rfl
  have l4x3d0 := le_up 0 l4x3
  have l4x3d1 := le_up 1 l4x3
  simp only [upN] at l4x3d0 l4x3d1
  have c4x4 := O4.cell 4 rfl
  have f4x4 := O4.free 4 rfl
  have l4x4 := O4.lt 4 rfl
  have l4x4d0 := le_up 0 l4x4
  have l4x4d1 := le_up 1 l4x4
  simp only [upN] at l4x4d0 l4x4d1
  have c4x5 := O4.cell 5 rfl
  have f4x5 := O4.free 5 rfl
  have l4x5 := O4.lt 5 rfl
  have l4x5d0 := le_up 0 l4x5
  have l4x5d1 := le_up 1 l4x5
  simp only [upN] at l4x5d0 l4x5d1
  have HO4 := Lib.hid O4
  clear O4 hb4
  go_wp2_with fail
  refine wp_region_grow w.heap.size 6 0 32 [(0, 0, 2199023255552, 1024), (1, 0, 4398046511104, 32), (2, 2, 8796093022208, 4398046511104), (3, 4, 17592186044416, 8796093022208), (4, 13, 35184372088832, 19791209299968), (5, 0, 2048, 0), (6, 63, 0, 35184372090880)] [(.p 0, 1), (.p 1, 3), (.p 2, 7), (.p 3, 15), (.p 4, 31), (.g 5, 63)] [(6, 127)] _ (fun p hp => hp) (by first | omega | (simp; done) | (simp; omega)) (by kernel_rfl) (by kernel_rfl) (Own.new HO4.out (w4.heap.size) rfl) ?_
  refine wpG_pure (i := 0) (v := ?v5x0) rfl rfl (by rfl) (fun w hB hG K hK => ?h5x0) ?_
  case h5x0 =>
    have cx := hG.cell 0 rfl
    go_wp2_with fail
    exact hK _ (Below.refl _ _)
  simp only [List.set_cons_zero, List.set_cons_succ]
  refine wpG_pure (i := 1) (v := ?v5x1) rfl rfl (by rfl) (fun w hB hG K hK => ?h5x1) ?_
  case h5x1 =>
    have cx := hG.cell 5 rfl
    go_wp2_with fail
    exact hK _ (Below.refl _ _)
  simp only [List.set_cons_zero, List.set_cons_succ]
  refine wpG_pure (i := 2) (v := ?v5x2) rfl rfl (by rfl) (fun w hB hG K hK => ?h5x2) ?_
  case h5x2 =>
    go_wp2_with fail
    refine (ofGauge_any _ _ _ _ _).mono ?_
    rintro e wx ⟨rfl, hbx⟩
    exact hK _ hbx
  simp only [List.set_cons_zero, List.set_cons_succ]
  refine wpG_pure (i := 3) (v := ?v5x3) rfl rfl (by rfl) (fun w hB hG K hK => ?h5x3) ?_
  case h5x3 =>
    go_wp2_with fail
    exact hK _ (Below.refl _ _)
  simp only [List.set_cons_zero, List.set_cons_succ]
  refine wpG_pure (i := 4) (v := ?v5x4) rfl rfl (by rfl) (fun w hB hG K hK => ?h5x4) ?_
  case h5x4 =>
    go_wp2_with fail
    refine (HO.out _).mono ?_
    rintro e wx ⟨rfl, hbx⟩
    exact hK _ hbx
  simp only [List.set_cons_zero, List.set_cons_succ]
  refine wpG_make (i := 5) (c := ?c5x5) (t := ?t5x5) (fun b => .pointer (some ⟨b, 0, none⟩)) rfl rfl (by rfl) (fun w hB hG K hK => ?h5x5) (fun v5g1 l5g1 n5g1 => ?_)
  case h5x5 =>
    go_wp2_with fail
    exact hK
  simp only [List.set_cons_zero, List.set_cons_succ]
  try simp only [World.size_alloc, World.size_drew, World.size_setCell] at l5g1
  clear n5g1
  refine wpG_nil (fun w5 hb5 hG5 => ?_)
  simp only [List.append_eq, List.cons_append, List.nil_append, List.drop_succ_cons, List.drop_zero, List.drop_nil]
  have u5g1 := Own.lt hG5 0 rfl
  have O5 := Own.of hG5
  try simp only [List.setIfInBounds_toArray, List.set_cons_zero, List.set_cons_succ] at O5
  have bw5 : Below w.heap.size w w5 := Below.trans (by go_grown) (Below.mono hb5 (by first | omega | (simp; done) | (simp; omega)))
  have zw5 := Below.size hb5
  try simp only [World.size_alloc, World.size_drew, World.size_setCell] at zw5
  clear c4x0 f4x0 l4x0 l4x0d0 l4x0d1 c4x1 f4x1 l4x1 l4x1d0 l4x1d1 c4x2 f4x2 l4x2 l4x2d0 l4x2d1 c4x3 f4x3 l4x3 l4x3d0 l4x3d1 c4x4 f4x4 l4x4 l4x4d0 l4x4d1 c4x5 f4x5 l4x5 l4x5d0 l4x5d1
  have c5x0 := O5.cell 0 rfl
  have f5x0 := O5.free 0 rfl
  have l5x0 := O5.lt 0 rfl
  have l5x0d0 := le_up 0 l5x0
  have l5x0d1 := le_up 1 l5x0
  simp only [upN] at l5x0d0 l5x0d1
  have c5x1 := O5.cell 1 rfl
  have f5x1 := O5.free 1 rfl
  have l5x1 := O5.lt 1 rfl
  have l5x1d0 := le_up 0 l5x1
  have l5x1d1 := le_up 1 l5x1
  simp only [upN] at l5x1d0 l5x1d1
  have c5x2 := O5.cell 2 rfl
  have f5x2 := O5.free 2 rfl
  have l5x2 := O5.lt 2 rfl
  have l5x2d0 := le_up 0 l5x2
  have l5x2d1 := le_up 1 l5x2
  simp only [upN] at l5x2d0 l5x2d1
  have c5x3 := O5.cell 3 rfl
  have f5x3 := O5.free 3 rfl
  have l5x3 := O5.lt 3 rfl
  have l5x3d0 := le_up 0 l5x3
  have l5x3d1 := le_up 1 l5x3
  simp only [upN] at l5x3d0 l5x3d1
  have c5x4 := O5.cell 4 rfl
  have f5x4 := O5.free 4 rfl
  have l5x4 := O5.lt 4 rfl
  have l5x4d0 := le_up 0 l5x4
  have l5x4d1 := le_up 1 l5x4
  simp only [upN] at l5x4d0 l5x4d1
  have c5x5 := O5.cell 5 rfl
  have f5x5 := O5.free 5 rfl
  have l5x5 := O5.lt 5 rfl
  have l5x5d0 := le_up 0 l5x5
  have l5x5d1 := le_up 1 l5x5
  simp only [upN] at l5x5d0 l5x5d1
  have c5x6 := O5.cell 6 rfl
  have f5x6 := O5.free 6 rfl
  have l5x6 := O5.lt 6 rfl
  have l5x6d0 := le_up 0 l5x6
  have l5x6d1 := le_up 1 l5x6
  simp only [upN] at l5x6d0 l5x6d1
  have c5x7 := O5.cell 7 rfl
  have f5x7 := O5.free 7 rfl
  have l5x7 := O5.lt 7 rfl
  have l5x7d0 := le_up 0 l5x7
  have l5x7d1 := le_up 1 l5x7
  simp only [upN] at l5x7d0 l5x7d1
  have HO5 := Lib.hid O5
  clear O5 hb5
  go_wp2_with fail
  refine wp_region_grow w.heap.size 14 0 1024 [(0, 0, 70368744177664, 512), (1, 0, 140737488355328, 16), (2, 2, 281474976710656, 140737488355328), (3, 5, 562949953421312, 351843720888320), (4, 8, 1125899906842624, 562949953421312), (5, 0, 2251799813685248, 2048), (6, 0, 4503599627370496, 16), (7, 64, 9007199254740992, 4503599627370496), (8, 0, 18014398509481984, 32), (9, 256, 36028797018963968, 18014398509481984), (10, 640, 72057594037927936, 45035996273704960), (11, 1040, 144115188075855872, 72057594037927936), (12, 2080, 288230376151711744, 146366987889541120), (13, 6144, 576460752303423488, 288230376151711744), (14, 8223, 0, 1125899906842688), (15, 32767, 0, 576460752303423616), (16, 65535, 256, 0)] [(.p 0, 1), (.p 1, 3), (.p 2, 7), (.p 3, 15), (.p 4, 31), (.p 5, 63), (.p 6, 127), (.p 7, 255), (.p 8, 511), (.p 9, 1023), (.g 10, 2047), (.q 11, 4095), (.p 12, 8191), (.p 13, 16383)] [(14, 32767), (15, 65535), (16, 131071)] _ (fun p hp => hp) (by first | omega | (simp; done) | (simp; omega)) (by kernel_rfl) (by kernel_rfl) (Own.set (Own.set (Own.set HO5.out 0 rfl (Ne1.cons (by first | omega | (simp; omega)) (Ne1.cons (by first | omega | (simp; omega)) (Ne1.cons (by first | omega | (simp; omega)) (Ne1.cons (by first | omega | (simp; omega)) (Ne1.cons (by first | omega | (simp; omega)) (Ne1.cons (by first | omega | (simp; omega)) (Ne1.cons (by first | omega | (simp; omega)) Ne1.nil)))))))) 0 rfl (Ne1.cons (by first | omega | (simp; omega)) (Ne1.cons (by first | omega | (simp; omega)) (Ne1.cons (by first | omega | (simp; omega)) (Ne1.cons (by first | omega | (simp; omega)) (Ne1.cons (by first | omega | (simp; omega)) (Ne1.cons (by first | omega | (simp; omega)) (Ne1.cons (by first | omega | (simp; omega)) Ne1.nil)))))))) 0 rfl (Ne1.cons (by first | omega | (simp; omega)) (Ne1.cons (by first | omega | (simp; omega)) (Ne1.cons (by first | omega | (simp; omega)) (Ne1.cons (by first | omega | (simp; omega)) (Ne1.cons (by first | omega | (simp; omega)) (Ne1.cons (by first | omega | (simp; omega)) (Ne1.cons (by first | omega | (simp; omega)) Ne1.nil)))))))) ?_
  refine wpG_pure (i := 0) (v := ?v6x0) rfl rfl (by rfl) (fun w hB hG K hK => ?h6x0) ?_
  case h6x0 =>
    have cx := hG.cell 2 rfl
    go_wp2_with fail
    exact hK _ (Below.refl _ _)
  simp only [List.set_cons_zero, List.set_cons_succ]
  refine wpG_pure (i := 1) (v := ?v6x1) rfl rfl (by rfl) (fun w hB hG K hK => ?h6x1) ?_
  case h6x1 =>
    go_wp2_with fail
    exact hK _ (Below.refl _ _)
  simp only [List.set_cons_zero, List.set_cons_succ]
  refine wpG_pure (i := 2) (v := ?v6x2) rfl rfl (by rfl) (fun w hB hG K hK => ?h6x2) ?_
  case h6x2 =>
    have cx := hG.cell 7 rfl
    go_wp2_with fail
    exact hK _ (Below.refl _ _)
  simp only [List.set_cons_zero, List.set_cons_succ]
  refine wpG_pure (i := 3) (v := ?v6x3) rfl rfl (by rfl) (fun w hB hG K hK => ?h6x3) ?_
  case h6x3 =>
    go_wp2_with fail
    exact hK _ (Below.refl _ _)
  simp only [List.set_cons_zero, List.set_cons_succ]
  refine wpG_pure (i := 4) (v := ?v6x4) rfl rfl (by rfl) (fun w hB hG K hK => ?h6x4) ?_
  case h6x4 =>
    go_wp2_with fail
    refine (gauge_any _ _ _ _ _).mono ?_
    rintro e wx ⟨rfl, hbx⟩
    exact hK _ hbx
  simp only [List.set_cons_zero, List.set_cons_succ]
  refine wpG_pure (i := 5) (v := ?v6x5) rfl rfl (by rfl) (fun w hB hG K hK => ?h6x5) ?_
  case h6x5 =>
    have cx := hG.cell 0 rfl
    go_wp2_with fail
    exact hK _ (Below.refl _ _)
  simp only [List.set_cons_zero, List.set_cons_succ]
  refine wpG_pure (i := 6) (v := ?v6x6) rfl rfl (by rfl) (fun w hB hG K hK => ?h6x6) ?_
  case h6x6 =>
    go_wp2_with fail
    exact hK _ (Below.refl _ _)
  simp only [List.set_cons_zero, List.set_cons_succ]
  refine wpG_pure (i := 7) (v := ?v6x7) rfl rfl (by rfl) (fun w hB hG K hK => ?h6x7) ?_
  case h6x7 =>
    have cx := hG.cell 7 rfl
    go_wp2_with fail
    exact hK _ (Below.refl _ _)
  simp only [List.set_cons_zero, List.set_cons_succ]
  refine wpG_pure (i := 8) (v := ?v6x8) rfl rfl (by rfl) (fun w hB hG K hK => ?h6x8) ?_
  case h6x8 =>
    go_wp2_with fail
    exact hK _ (Below.refl _ _)
  simp only [List.set_cons_zero, List.set_cons_succ]
  refine wpG_pure (i := 9) (v := ?v6x9) rfl rfl (by rfl) (fun w hB hG K hK => ?h6x9) ?_
  case h6x9 =>
    have cx := hG.cell 6 rfl
    go_wp2_with fail
    exact hK _ (Below.refl _ _)
  simp only [List.set_cons_zero, List.set_cons_succ]
  refine wpG_make (i := 10) (c := ?c6x10) (t := ?t6x10) (fun b => .slice (some ⟨b, 0, none⟩) 2 2) rfl rfl (by rfl) (fun w hB hG K hK => ?h6x10) (fun v6g1 l6g1 n6g1 => ?_)
  case h6x10 =>
    go_wp2_with fail
    exact hK
  simp only [List.set_cons_zero, List.set_cons_succ]
  try simp only [World.size_alloc, World.size_drew, World.size_setCell] at l6g1
  clear n6g1
  refine wpG_op (i := 11) (v := ?v6x11) rfl rfl (by rfl) (fun w hB hG K hK => ?h6x11) ?_
  case h6x11 =>
    go_wp2_with fail
    refine (join_blk2 ha (hG.get 0 rfl)).mono ?_
    rintro e wx ⟨rfl, hbx⟩
    exact hK _ hbx
  simp only [List.set_cons_zero, List.set_cons_succ]
  refine wpG_pure (i := 12) (v := ?v6x12) rfl rfl (by rfl) (fun w hB hG K hK => ?h6x12) ?_
  case h6x12 =>
    go_wp2_with fail
    exact hK _ (Below.refl _ _)
  simp only [List.set_cons_zero, List.set_cons_succ]
  refine wpG_pure (i := 13) (v := ?v6x13) rfl rfl (by rfl) (fun w hB hG K hK => ?h6x13) ?_
  case h6x13 =>
    go_wp2_with fail
    refine (gauge_any _ _ _ _ _).mono ?_
    rintro e wx ⟨rfl, hbx⟩
    exact hK _ hbx
  simp only [List.set_cons_zero, List.set_cons_succ]
  refine wpG_nil (fun w6 hb6 hG6 => ?_)
  simp only [List.append_eq, List.cons_append, List.nil_append, List.drop_succ_cons, List.drop_zero, List.drop_nil]
  have u6g1 := Own.lt hG6 0 rfl
  have O6 := Own.of hG6
  try simp only [List.setIfInBounds_toArray, List.set_cons_zero, List.set_cons_succ] at O6
  have bw6 : Below w.heap.size w w6 := Below.trans (by go_grown) (Below.mono hb6 (by first | omega | (simp; done) | (simp; omega)))
  have zw6 := Below.size hb6
  try simp only [World.size_alloc, World.size_drew, World.size_setCell] at zw6
  clear c5x0 f5x0 l5x0 l5x0d0 l5x0d1 c5x1 f5x1 l5x1 l5x1d0 l5x1d1 c5x2 f5x2 l5x2 l5x2d0 l5x2d1 c5x3 f5x3 l5x3 l5x3d0 l5x3d1 c5x4 f5x4 l5x4 l5x4d0 l5x4d1 c5x5 f5x5 l5x5 l5x5d0 l5x5d1 c5x6 f5x6 l5x6 l5x6d0 l5x6d1 c5x7 f5x7 l5x7 l5x7d0 l5x7d1
  have c6x0 := O6.cell 0 rfl
  have f6x0 := O6.free 0 rfl
  have l6x0 := O6.lt 0 rfl
  have l6x0d0 := le_up 0 l6x0
  have l6x0d1 := le_up 1 l6x0
  simp only [upN] at l6x0d0 l6x0d1
  have c6x1 := O6.cell 1 rfl
  have f6x1 := O6.free 1 rfl
  have l6x1 := O6.lt 1 rfl
  have l6x1d0 := le_up 0 l6x1
  have l6x1d1 := le_up 1 l6x1
  simp only [upN] at l6x1d0 l6x1d1
  have c6x2 := O6.cell 2 rfl
  have f6x2 := O6.free 2 rfl
  have l6x2 := O6.lt 2 rfl
  have l6x2d0 := le_up 0 l6x2
  have l6x2d1 := le_up 1 l6x2
  simp only [upN] at l6x2d0 l6x2d1
  have c6x3 := O6.cell 3 rfl
  have f6x3 := O6.free 3 rfl
  have l6x3 := O6.lt 3 rfl
  have l6x3d0 := le_up 0 l6x3
  have l6x3d1 := le_up 1 l6x3
  simp only [upN] at l6x3d0 l6x3d1
  have c6x4 := O6.cell 4 rfl
  have f6x4 := O6.free 4 rfl
  have l6x4 := O6.lt 4 rfl
  have l6x4d0 := le_up 0 l6x4
  have l6x4d1 := le_up 1 l6x4
  simp only [upN] at l6x4d0 l6x4d1
  have c6x5 := O6.cell 5 rfl
  have f6x5 := O6.free 5 rfl
  have l6x5 := O6.lt 5 rfl
  have l6x5d0 := le_up 0 l6x5
  have l6x5d1 := le_up 1 l6x5
  simp only [upN] at l6x5d0 l6x5d1
  have c6x6 := O6.cell 6 rfl
  have f6x6 := O6.free 6 rfl
  have l6x6 := O6.lt 6 rfl
  have l6x6d0 := le_up 0 l6x6
  have l6x6d1 := le_up 1 l6x6
  simp only [upN] at l6x6d0 l6x6d1
  have c6x7 := O6.cell 7 rfl
  have f6x7 := O6.free 7 rfl
  have l6x7 := O6.lt 7 rfl
  have l6x7d0 := le_up 0 l6x7
  have l6x7d1 := le_up 1 l6x7
  simp only [upN] at l6x7d0 l6x7d1
  have c6x8 := O6.cell 8 rfl
  have f6x8 := O6.free 8 rfl
  have l6x8 := O6.lt 8 rfl
  have l6x8d0 := le_up 0 l6x8
  have l6x8d1 := le_up 1 l6x8
  simp only [upN] at l6x8d0 l6x8d1
  have HO6 := Lib.hid O6
  clear O6 hb6
  go_wp2_with fail
  refine bodyPost_ret (v := .tuple #[.agg #[.int .u64 p0, .int .u64 p1, .int .u64 p2, .int .u64 (madeA p1 p2 g.a)], .agg #[.int .u64 b0, .int .u64 b1, .int .u64 b2, .int .u64 (madeA b1 b2 (orI g.a h.a))], .int .i64 0]) (by simp [results, Try.results9, go_sem, *]) rfl ?_
  exact ⟨rfl, by go_grown⟩

set_option maxHeartbeats 4000000 in
set_option maxRecDepth 20000 in
theorem back_bad (g h : Kn) (m : Int) (w : World) (hb : (g.ok && h.ok) = false) :
    Calls Try.prog 9 #[.int .u64 m, .agg #[.int .u64 g.l, .int .u64 g.lo, .int .u64 g.hi, .int .u64 g.a], .agg #[.int .u64 h.l, .int .u64 h.lo, .int .u64 h.hi, .int .u64 h.a]] w
      fun e w' => e = .returned (.tuple #[.agg #[.int .u64 0, .int .u64 0, .int .u64 0, .int .u64 0], .agg #[.int .u64 0, .int .u64 0, .int .u64 0, .int .u64 0], .int .i64 2]) ∧ Below w.heap.size w w' := by
  have hfg : ∀ W : World, (Instr.field 70 (.agg #[.int .u64 g.l, .int .u64 g.lo, .int .u64 g.hi, .int .u64 g.a]) 0).run Try.prog W = .ok (.agg #[.int .u64 g.l, .int .u64 g.lo, .int .u64 g.hi]) W := fun _ => by kernel_rfl
  have hfh : ∀ W : World, (Instr.field 70 (.agg #[.int .u64 h.l, .int .u64 h.lo, .int .u64 h.hi, .int .u64 h.a]) 0).run Try.prog W = .ok (.agg #[.int .u64 h.l, .int .u64 h.lo, .int .u64 h.hi]) W := fun _ => by kernel_rfl
  have HF := Lib.hid fun (W : World) (b : Nat) (t : TypeId) (hbk : Blk W b #[.int .u64 g.l, .int .u64 g.lo, .int .u64 g.hi, .int .u64 g.a, .int .u64 h.l, .int .u64 h.lo, .int .u64 h.hi, .int .u64 h.a] t) => fits_blk2 hb hbk
  clear hb
  go_enter Try.func9, Try.ntmps9
  go_wp2_with fail
  refine wp_region_grow w.heap.size 17 0 16 [(0, 0, 4096, 16), (1, 1, 8192, 4096), (2, 0, 16384, 32), (3, 6, 32768, 16384), (4, 10, 65536, 40960), (5, 24, 131072, 65536), (6, 32, 262144, 131072), (7, 96, 524288, 262144), (8, 128, 1048576, 524289), (9, 384, 2097152, 1572864), (10, 640, 4194304, 2621440), (11, 1152, 8388608, 4194304), (12, 2048, 16777216, 8388609), (13, 2048, 33554432, 8388624), (14, 10240, 67108864, 41943040), (15, 22528, 134217728, 92274688), (16, 34816, 268435456, 142606336)] [(.p 0, 1), (.p 1, 3), (.p 2, 7), (.p 3, 15), (.g 4, 31), (.q 5, 63), (.p 6, 127), (.p 7, 255), (.p 8, 511), (.p 9, 1023), (.p 10, 2047), (.p 11, 4095), (.p 12, 8191), (.p 13, 16383), (.p 14, 32767), (.p 15, 65535), (.p 16, 131071)] [] _ (fun p hp => hp) (by first | omega | (simp; done) | (simp; omega)) (by kernel_rfl) (by kernel_rfl) (Own.new (Own.new (Own.new (Own.new (Own.nil w) (w.heap.size) rfl) (w.heap.size + 1) (by simp)) (w.heap.size + 1 + 1) (by simp)) (w.heap.size + 1 + 1 + 1) (by simp)) ?_
  refine wpG_pure (i := 0) (v := ?v1x0) rfl rfl (by rfl) (fun w hB hG K hK => ?h1x0) ?_
  case h1x0 =>
    have cx := hG.cell 3 rfl
    go_wp2_with fail
    exact hK _ (Below.refl _ _)
  simp only [List.set_cons_zero, List.set_cons_succ]
  refine wpG_pure (i := 1) (v := ?v1x1) rfl rfl (by rfl) (fun w hB hG K hK => ?h1x1) ?_
  case h1x1 =>
    go_wp2_with fail
    refine (ofGauge_any _ _ _ _ _).mono ?_
    rintro e wx ⟨rfl, hbx⟩
    exact hK _ hbx
  simp only [List.set_cons_zero, List.set_cons_succ]
  refine wpG_pure (i := 2) (v := ?v1x2) rfl rfl (by rfl) (fun w hB hG K hK => ?h1x2) ?_
  case h1x2 =>
    have cx := hG.cell 2 rfl
    go_wp2_with fail
    exact hK _ (Below.refl _ _)
  simp only [List.set_cons_zero, List.set_cons_succ]
  refine wpG_pure (i := 3) (v := ?v1x3) rfl rfl (by rfl) (fun w hB hG K hK => ?h1x3) ?_
  case h1x3 =>
    go_wp2_with fail
    refine (ofGauge_any _ _ _ _ _).mono ?_
    rintro e wx ⟨rfl, hbx⟩
    exact hK _ hbx
  simp only [List.set_cons_zero, List.set_cons_succ]
  refine wpG_make (i := 4) (c := ?c1x4) (t := ?t1x4) (fun b => .slice (some ⟨b, 0, none⟩) 2 2) rfl rfl (by rfl) (fun w hB hG K hK => ?h1x4) (fun v1g1 l1g1 n1g1 => ?_)
  case h1x4 =>
    go_wp2_with fail
    exact hK
  simp only [List.set_cons_zero, List.set_cons_succ]
  try simp only [World.size_alloc, World.size_drew, World.size_setCell] at l1g1
  clear n1g1
  refine wpG_op (i := 5) (v := ?v1x5) rfl rfl (by rfl) (fun w hB hG K hK => ?h1x5) ?_
  case h1x5 =>
    go_wp2_with fail
    refine (HF.out _ _ _ (hG.get 0 rfl)).mono ?_
    rintro e wx ⟨rfl, hbx⟩
    exact hK _ hbx
  simp only [List.set_cons_zero, List.set_cons_succ]
  refine wpG_pure (i := 6) (v := ?v1x6) rfl rfl (by rfl) (fun w hB hG K hK => ?h1x6) ?_
  case h1x6 =>
    go_wp2_with fail
    exact hK _ (Below.refl _ _)
  simp only [List.set_cons_zero, List.set_cons_succ]
  refine wpG_move (i := 7) rfl rfl rfl (by rfl) rfl ?_
  simp only [List.set_cons_zero, List.set_cons_succ]
  refine wpG_skip (i := 8) rfl rfl (by rfl) ?_
  simp only [List.set_cons_zero, List.set_cons_succ]
  refine wpG_skip (i := 9) rfl rfl (by rfl) ?_
  simp only [List.set_cons_zero, List.set_cons_succ]
  refine wpG_pure (i := 10) (v := ?v1x10) rfl rfl (by rfl) (fun w hB hG K hK => ?h1x10) ?_
  case h1x10 =>
    go_wp2_with fail
    exact hK _ (Below.refl _ _)
  simp only [List.set_cons_zero, List.set_cons_succ]
  refine wpG_move (i := 11) rfl rfl rfl (by rfl) rfl ?_
  simp only [List.set_cons_zero, List.set_cons_succ]
  refine wpG_skip (i := 12) rfl rfl (by rfl) ?_
  simp only [List.set_cons_zero, List.set_cons_succ]
  refine wpG_skip (i := 13) rfl rfl (by rfl) ?_
  simp only [List.set_cons_zero, List.set_cons_succ]
  refine wpG_skip (i := 14) rfl rfl (by rfl) ?_
  simp only [List.set_cons_zero, List.set_cons_succ]
  refine wpG_skip (i := 15) rfl rfl (by rfl) ?_
  simp only [List.set_cons_zero, List.set_cons_succ]
  refine wpG_pure (i := 16) (v := ?v1x16) rfl rfl (by rfl) (fun w hB hG K hK => ?h1x16) ?_
  case h1x16 =>
    go_wp2_with fail
    exact hK _ (Below.refl _ _)
  simp only [List.set_cons_zero, List.set_cons_succ]
  refine wpG_nil (fun w1 hb1 hG1 => ?_)
  simp only [List.append_eq, List.cons_append, List.nil_append, List.drop_succ_cons, List.drop_zero, List.drop_nil]
  have u1g1 := Own.lt hG1 0 rfl
  have O1 := Own.of hG1
  try simp only [List.setIfInBounds_toArray, List.set_cons_zero, List.set_cons_succ] at O1
  have bw1 : Below w.heap.size w w1 := Below.trans (by go_grown) (Below.mono hb1 (by first | omega | (simp; done) | (simp; omega)))
  have zw1 := Below.size hb1
  try simp only [World.size_alloc, World.size_drew, World.size_setCell] at zw1
  have c1x0 := O1.cell 0 rfl
  have f1x0 := O1.free 0 rfl
  have l1x0 := O1.lt 0 rfl
  have l1x0d0 := le_up 0 l1x0
  have l1x0d1 := le_up 1 l1x0
  simp only [upN] at l1x0d0 l1x0d1
  have c1x1 := O1.cell 1 rfl
  have f1x1 := O1.free 1 rfl
  have l1x1 := O1.lt 1 rfl
  have l1x1d0 := le_up 0 l1x1
  have l1x1d1 := le_up 1 l1x1
  simp only [upN] at l1x1d0 l1x1d1
  have c1x2 := O1.cell 2 rfl
  have f1x2 := O1.free 2 rfl
  have l1x2 := O1.lt 2 rfl
  have l1x2d0 := le_up 0 l1x2
  have l1x2d1 := le_up 1 l1x2
  simp only [upN] at l1x2d0 l1x2d1
  have c1x3 := O1.cell 3 rfl
  have f1x3 := O1.free 3 rfl
  have l1x3 := O1.lt 3 rfl
  have l1x3d0 := le_up 0 l1x3
  have l1x3d1 := le_up 1 l1x3
  simp only [upN] at l1x3d0 l1x3d1
  have c1x4 := O1.cell 4 rfl
  have f1x4 := O1.free 4 rfl
  have l1x4 := O1.lt 4 rfl
  have l1x4d0 := le_up 0 l1x4
  have l1x4d1 := le_up 1 l1x4
  simp only [upN] at l1x4d0 l1x4d1
  have HO1 := Lib.hid O1
  clear O1 hb1
  go_wp2_with fail
  go_region
  all_goals (go_wp2_with fail)
  all_goals (refine bodyPost_ret (v := .tuple #[.agg #[.int .u64 0, .int .u64 0, .int .u64 0, .int .u64 0], .agg #[.int .u64 0, .int .u64 0, .int .u64 0, .int .u64 0], .int .i64 2]) (by simp [results, Try.results9, go_sem, *]) rfl ?_)
  all_goals (exact ⟨rfl, by go_grown⟩)

set_option maxHeartbeats 4000000 in
set_option maxRecDepth 20000 in
theorem back_over (g h : Kn) (m : Int) (w : World) (hb : (g.ok && h.ok) = true) (hm : 1099511627776 < m) :
    Calls Try.prog 9 #[.int .u64 m, .agg #[.int .u64 g.l, .int .u64 g.lo, .int .u64 g.hi, .int .u64 g.a], .agg #[.int .u64 h.l, .int .u64 h.lo, .int .u64 h.hi, .int .u64 h.a]] w
      fun e w' => e = .returned (.tuple #[.agg #[.int .u64 0, .int .u64 0, .int .u64 0, .int .u64 0], .agg #[.int .u64 0, .int .u64 0, .int .u64 0, .int .u64 0], .int .i64 2]) ∧ Below w.heap.size w w' := by
  have hfg : ∀ W : World, (Instr.field 70 (.agg #[.int .u64 g.l, .int .u64 g.lo, .int .u64 g.hi, .int .u64 g.a]) 0).run Try.prog W = .ok (.agg #[.int .u64 g.l, .int .u64 g.lo, .int .u64 g.hi]) W := fun _ => by kernel_rfl
  have hfh : ∀ W : World, (Instr.field 70 (.agg #[.int .u64 h.l, .int .u64 h.lo, .int .u64 h.hi, .int .u64 h.a]) 0).run Try.prog W = .ok (.agg #[.int .u64 h.l, .int .u64 h.lo, .int .u64 h.hi]) W := fun _ => by kernel_rfl
  have HF := Lib.hid fun (W : World) (b : Nat) (t : TypeId) (hbk : Blk W b #[.int .u64 g.l, .int .u64 g.lo, .int .u64 g.hi, .int .u64 g.a, .int .u64 h.l, .int .u64 h.lo, .int .u64 h.hi, .int .u64 h.a] t) => fits_blk2 hb hbk
  clear hb
  have hd : decide (1099511627776 < m) = true := decide_eq_true hm
  go_enter Try.func9, Try.ntmps9
  go_wp2_with fail
  refine wp_region_grow w.heap.size 17 0 16 [(0, 0, 4096, 16), (1, 1, 8192, 4096), (2, 0, 16384, 32), (3, 6, 32768, 16384), (4, 10, 65536, 40960), (5, 24, 131072, 65536), (6, 32, 262144, 131072), (7, 96, 524288, 262144), (8, 128, 1048576, 524289), (9, 384, 2097152, 1572864), (10, 640, 4194304, 2621440), (11, 1152, 8388608, 4194304), (12, 2048, 16777216, 8388609), (13, 2048, 33554432, 8388624), (14, 10240, 67108864, 41943040), (15, 22528, 134217728, 92274688), (16, 34816, 268435456, 142606336)] [(.p 0, 1), (.p 1, 3), (.p 2, 7), (.p 3, 15), (.g 4, 31), (.q 5, 63), (.p 6, 127), (.p 7, 255), (.p 8, 511), (.p 9, 1023), (.p 10, 2047), (.p 11, 4095), (.p 12, 8191), (.p 13, 16383), (.p 14, 32767), (.p 15, 65535), (.p 16, 131071)] [] _ (fun p hp => hp) (by first | omega | (simp; done) | (simp; omega)) (by kernel_rfl) (by kernel_rfl) (Own.new (Own.new (Own.new (Own.new (Own.nil w) (w.heap.size) rfl) (w.heap.size + 1) (by simp)) (w.heap.size + 1 + 1) (by simp)) (w.heap.size + 1 + 1 + 1) (by simp)) ?_
  refine wpG_pure (i := 0) (v := ?v1x0) rfl rfl (by rfl) (fun w hB hG K hK => ?h1x0) ?_
  case h1x0 =>
    have cx := hG.cell 3 rfl
    go_wp2_with fail
    exact hK _ (Below.refl _ _)
  simp only [List.set_cons_zero, List.set_cons_succ]
  refine wpG_pure (i := 1) (v := ?v1x1) rfl rfl (by rfl) (fun w hB hG K hK => ?h1x1) ?_
  case h1x1 =>
    go_wp2_with fail
    refine (ofGauge_any _ _ _ _ _).mono ?_
    rintro e wx ⟨rfl, hbx⟩
    exact hK _ hbx
  simp only [List.set_cons_zero, List.set_cons_succ]
  refine wpG_pure (i := 2) (v := ?v1x2) rfl rfl (by rfl) (fun w hB hG K hK => ?h1x2) ?_
  case h1x2 =>
    have cx := hG.cell 2 rfl
    go_wp2_with fail
    exact hK _ (Below.refl _ _)
  simp only [List.set_cons_zero, List.set_cons_succ]
  refine wpG_pure (i := 3) (v := ?v1x3) rfl rfl (by rfl) (fun w hB hG K hK => ?h1x3) ?_
  case h1x3 =>
    go_wp2_with fail
    refine (ofGauge_any _ _ _ _ _).mono ?_
    rintro e wx ⟨rfl, hbx⟩
    exact hK _ hbx
  simp only [List.set_cons_zero, List.set_cons_succ]
  refine wpG_make (i := 4) (c := ?c1x4) (t := ?t1x4) (fun b => .slice (some ⟨b, 0, none⟩) 2 2) rfl rfl (by rfl) (fun w hB hG K hK => ?h1x4) (fun v1g1 l1g1 n1g1 => ?_)
  case h1x4 =>
    go_wp2_with fail
    exact hK
  simp only [List.set_cons_zero, List.set_cons_succ]
  try simp only [World.size_alloc, World.size_drew, World.size_setCell] at l1g1
  clear n1g1
  refine wpG_op (i := 5) (v := ?v1x5) rfl rfl (by rfl) (fun w hB hG K hK => ?h1x5) ?_
  case h1x5 =>
    go_wp2_with fail
    refine (HF.out _ _ _ (hG.get 0 rfl)).mono ?_
    rintro e wx ⟨rfl, hbx⟩
    exact hK _ hbx
  simp only [List.set_cons_zero, List.set_cons_succ]
  refine wpG_pure (i := 6) (v := ?v1x6) rfl rfl (by rfl) (fun w hB hG K hK => ?h1x6) ?_
  case h1x6 =>
    go_wp2_with fail
    exact hK _ (Below.refl _ _)
  simp only [List.set_cons_zero, List.set_cons_succ]
  refine wpG_move (i := 7) rfl rfl rfl (by rfl) rfl ?_
  simp only [List.set_cons_zero, List.set_cons_succ]
  refine wpG_move (i := 8) rfl rfl rfl (by rfl) rfl ?_
  simp only [List.set_cons_zero, List.set_cons_succ]
  refine wpG_pure (i := 9) (v := ?v1x9) rfl rfl (by rfl) (fun w hB hG K hK => ?h1x9) ?_
  case h1x9 =>
    go_wp2_with fail
    exact hK _ (Below.refl _ _)
  simp only [List.set_cons_zero, List.set_cons_succ]
  refine wpG_pure (i := 10) (v := ?v1x10) rfl rfl (by rfl) (fun w hB hG K hK => ?h1x10) ?_
  case h1x10 =>
    go_wp2_with fail
    exact hK _ (Below.refl _ _)
  simp only [List.set_cons_zero, List.set_cons_succ]
  refine wpG_move (i := 11) rfl rfl rfl (by rfl) rfl ?_
  simp only [List.set_cons_zero, List.set_cons_succ]
  refine wpG_skip (i := 12) rfl rfl (by rfl) ?_
  simp only [List.set_cons_zero, List.set_cons_succ]
  refine wpG_skip (i := 13) rfl rfl (by rfl) ?_
  simp only [List.set_cons_zero, List.set_cons_succ]
  refine wpG_skip (i := 14) rfl rfl (by rfl) ?_
  simp only [List.set_cons_zero, List.set_cons_succ]
  refine wpG_skip (i := 15) rfl rfl (by rfl) ?_
  simp only [List.set_cons_zero, List.set_cons_succ]
  refine wpG_pure (i := 16) (v := ?v1x16) rfl rfl (by rfl) (fun w hB hG K hK => ?h1x16) ?_
  case h1x16 =>
    go_wp2_with fail
    exact hK _ (Below.refl _ _)
  simp only [List.set_cons_zero, List.set_cons_succ]
  refine wpG_nil (fun w1 hb1 hG1 => ?_)
  simp only [List.append_eq, List.cons_append, List.nil_append, List.drop_succ_cons, List.drop_zero, List.drop_nil]
  have u1g1 := Own.lt hG1 0 rfl
  have O1 := Own.of hG1
  try simp only [List.setIfInBounds_toArray, List.set_cons_zero, List.set_cons_succ] at O1
  have bw1 : Below w.heap.size w w1 := Below.trans (by go_grown) (Below.mono hb1 (by first | omega | (simp; done) | (simp; omega)))
  have zw1 := Below.size hb1
  try simp only [World.size_alloc, World.size_drew, World.size_setCell] at zw1
  have c1x0 := O1.cell 0 rfl
  have f1x0 := O1.free 0 rfl
  have l1x0 := O1.lt 0 rfl
  have l1x0d0 := le_up 0 l1x0
  have l1x0d1 := le_up 1 l1x0
  simp only [upN] at l1x0d0 l1x0d1
  have c1x1 := O1.cell 1 rfl
  have f1x1 := O1.free 1 rfl
  have l1x1 := O1.lt 1 rfl
  have l1x1d0 := le_up 0 l1x1
  have l1x1d1 := le_up 1 l1x1
  simp only [upN] at l1x1d0 l1x1d1
  have c1x2 := O1.cell 2 rfl
  have f1x2 := O1.free 2 rfl
  have l1x2 := O1.lt 2 rfl
  have l1x2d0 := le_up 0 l1x2
  have l1x2d1 := le_up 1 l1x2
  simp only [upN] at l1x2d0 l1x2d1
  have c1x3 := O1.cell 3 rfl
  have f1x3 := O1.free 3 rfl
  have l1x3 := O1.lt 3 rfl
  have l1x3d0 := le_up 0 l1x3
  have l1x3d1 := le_up 1 l1x3
  simp only [upN] at l1x3d0 l1x3d1
  have c1x4 := O1.cell 4 rfl
  have f1x4 := O1.free 4 rfl
  have l1x4 := O1.lt 4 rfl
  have l1x4d0 := le_up 0 l1x4
  have l1x4d1 := le_up 1 l1x4
  simp only [upN] at l1x4d0 l1x4d1
  have HO1 := Lib.hid O1
  clear O1 hb1
  go_wp2_with fail
  go_region
  all_goals (go_wp2_with fail)
  all_goals (refine bodyPost_ret (v := .tuple #[.agg #[.int .u64 0, .int .u64 0, .int .u64 0, .int .u64 0], .agg #[.int .u64 0, .int .u64 0, .int .u64 0, .int .u64 0], .int .i64 2]) (by simp [results, Try.results9, go_sem, *]) rfl ?_)
  all_goals (exact ⟨rfl, by go_grown⟩)

set_option maxHeartbeats 4000000 in
set_option maxRecDepth 20000 in
theorem back_less (g h : Kn) (m : Int) (w : World) (hb : (g.ok && h.ok) = true) (hm : m ≤ 1099511627776) (hm2 : m < g.hi) :
    Calls Try.prog 9 #[.int .u64 m, .agg #[.int .u64 g.l, .int .u64 g.lo, .int .u64 g.hi, .int .u64 g.a], .agg #[.int .u64 h.l, .int .u64 h.lo, .int .u64 h.hi, .int .u64 h.a]] w
      fun e w' => e = .returned (.tuple #[.agg #[.int .u64 0, .int .u64 0, .int .u64 0, .int .u64 0], .agg #[.int .u64 0, .int .u64 0, .int .u64 0, .int .u64 0], .int .i64 2]) ∧ Below w.heap.size w w' := by
  have hfg : ∀ W : World, (Instr.field 70 (.agg #[.int .u64 g.l, .int .u64 g.lo, .int .u64 g.hi, .int .u64 g.a]) 0).run Try.prog W = .ok (.agg #[.int .u64 g.l, .int .u64 g.lo, .int .u64 g.hi]) W := fun _ => by kernel_rfl
  have hfh : ∀ W : World, (Instr.field 70 (.agg #[.int .u64 h.l, .int .u64 h.lo, .int .u64 h.hi, .int .u64 h.a]) 0).run Try.prog W = .ok (.agg #[.int .u64 h.l, .int .u64 h.lo, .int .u64 h.hi]) W := fun _ => by kernel_rfl
  have HF := Lib.hid fun (W : World) (b : Nat) (t : TypeId) (hbk : Blk W b #[.int .u64 g.l, .int .u64 g.lo, .int .u64 g.hi, .int .u64 g.a, .int .u64 h.l, .int .u64 h.lo, .int .u64 h.hi, .int .u64 h.a] t) => fits_blk2 hb hbk
  clear hb
  have hd : decide (1099511627776 < m) = false := decide_eq_false (by omega)
  have hd2 : decide (m < g.hi) = true := decide_eq_true hm2
  go_enter Try.func9, Try.ntmps9
  go_wp2_with fail
  refine wp_region_grow w.heap.size 17 0 16 [(0, 0, 4096, 16), (1, 1, 8192, 4096), (2, 0, 16384, 32), (3, 6, 32768, 16384), (4, 10, 65536, 40960), (5, 24, 131072, 65536), (6, 32, 262144, 131072), (7, 96, 524288, 262144), (8, 128, 1048576, 524289), (9, 384, 2097152, 1572864), (10, 640, 4194304, 2621440), (11, 1152, 8388608, 4194304), (12, 2048, 16777216, 8388609), (13, 2048, 33554432, 8388624), (14, 10240, 67108864, 41943040), (15, 22528, 134217728, 92274688), (16, 34816, 268435456, 142606336)] [(.p 0, 1), (.p 1, 3), (.p 2, 7), (.p 3, 15), (.g 4, 31), (.q 5, 63), (.p 6, 127), (.p 7, 255), (.p 8, 511), (.p 9, 1023), (.p 10, 2047), (.p 11, 4095), (.p 12, 8191), (.p 13, 16383), (.p 14, 32767), (.p 15, 65535), (.p 16, 131071)] [] _ (fun p hp => hp) (by first | omega | (simp; done) | (simp; omega)) (by kernel_rfl) (by kernel_rfl) (Own.new (Own.new (Own.new (Own.new (Own.nil w) (w.heap.size) rfl) (w.heap.size + 1) (by simp)) (w.heap.size + 1 + 1) (by simp)) (w.heap.size + 1 + 1 + 1) (by simp)) ?_
  refine wpG_pure (i := 0) (v := ?v1x0) rfl rfl (by rfl) (fun w hB hG K hK => ?h1x0) ?_
  case h1x0 =>
    have cx := hG.cell 3 rfl
    go_wp2_with fail
    exact hK _ (Below.refl _ _)
  simp only [List.set_cons_zero, List.set_cons_succ]
  refine wpG_pure (i := 1) (v := ?v1x1) rfl rfl (by rfl) (fun w hB hG K hK => ?h1x1) ?_
  case h1x1 =>
    go_wp2_with fail
    refine (ofGauge_any _ _ _ _ _).mono ?_
    rintro e wx ⟨rfl, hbx⟩
    exact hK _ hbx
  simp only [List.set_cons_zero, List.set_cons_succ]
  refine wpG_pure (i := 2) (v := ?v1x2) rfl rfl (by rfl) (fun w hB hG K hK => ?h1x2) ?_
  case h1x2 =>
    have cx := hG.cell 2 rfl
    go_wp2_with fail
    exact hK _ (Below.refl _ _)
  simp only [List.set_cons_zero, List.set_cons_succ]
  refine wpG_pure (i := 3) (v := ?v1x3) rfl rfl (by rfl) (fun w hB hG K hK => ?h1x3) ?_
  case h1x3 =>
    go_wp2_with fail
    refine (ofGauge_any _ _ _ _ _).mono ?_
    rintro e wx ⟨rfl, hbx⟩
    exact hK _ hbx
  simp only [List.set_cons_zero, List.set_cons_succ]
  refine wpG_make (i := 4) (c := ?c1x4) (t := ?t1x4) (fun b => .slice (some ⟨b, 0, none⟩) 2 2) rfl rfl (by rfl) (fun w hB hG K hK => ?h1x4) (fun v1g1 l1g1 n1g1 => ?_)
  case h1x4 =>
    go_wp2_with fail
    exact hK
  simp only [List.set_cons_zero, List.set_cons_succ]
  try simp only [World.size_alloc, World.size_drew, World.size_setCell] at l1g1
  clear n1g1
  refine wpG_op (i := 5) (v := ?v1x5) rfl rfl (by rfl) (fun w hB hG K hK => ?h1x5) ?_
  case h1x5 =>
    go_wp2_with fail
    refine (HF.out _ _ _ (hG.get 0 rfl)).mono ?_
    rintro e wx ⟨rfl, hbx⟩
    exact hK _ hbx
  simp only [List.set_cons_zero, List.set_cons_succ]
  refine wpG_pure (i := 6) (v := ?v1x6) rfl rfl (by rfl) (fun w hB hG K hK => ?h1x6) ?_
  case h1x6 =>
    go_wp2_with fail
    exact hK _ (Below.refl _ _)
  simp only [List.set_cons_zero, List.set_cons_succ]
  refine wpG_move (i := 7) rfl rfl rfl (by rfl) rfl ?_
  simp only [List.set_cons_zero, List.set_cons_succ]
  refine wpG_move (i := 8) rfl rfl rfl (by rfl) rfl ?_
  simp only [List.set_cons_zero, List.set_cons_succ]
  refine wpG_pure (i := 9) (v := ?v1x9) rfl rfl (by rfl) (fun w hB hG K hK => ?h1x9) ?_
  case h1x9 =>
    go_wp2_with fail
    exact hK _ (Below.refl _ _)
  simp only [List.set_cons_zero, List.set_cons_succ]
  refine wpG_pure (i := 10) (v := ?v1x10) rfl rfl (by rfl) (fun w hB hG K hK => ?h1x10) ?_
  case h1x10 =>
    go_wp2_with fail
    exact hK _ (Below.refl _ _)
  simp only [List.set_cons_zero, List.set_cons_succ]
  refine wpG_move (i := 11) rfl rfl rfl (by rfl) rfl ?_
  simp only [List.set_cons_zero, List.set_cons_succ]
  refine wpG_move (i := 12) rfl rfl rfl (by rfl) rfl ?_
  simp only [List.set_cons_zero, List.set_cons_succ]
  refine wpG_pure (i := 13) (v := ?v1x13) rfl rfl (by rfl) (fun w hB hG K hK => ?h1x13) ?_
  case h1x13 =>
    go_wp2_with fail
    exact hK _ (Below.refl _ _)
  simp only [List.set_cons_zero, List.set_cons_succ]
  refine wpG_pure (i := 14) (v := ?v1x14) rfl rfl (by rfl) (fun w hB hG K hK => ?h1x14) ?_
  case h1x14 =>
    have cx := hG.cell 3 rfl
    go_wp2_with fail
    exact hK _ (Below.refl _ _)
  simp only [List.set_cons_zero, List.set_cons_succ]
  refine wpG_pure (i := 15) (v := ?v1x15) rfl rfl (by rfl) (fun w hB hG K hK => ?h1x15) ?_
  case h1x15 =>
    go_wp2_with fail
    exact hK _ (Below.refl _ _)
  simp only [List.set_cons_zero, List.set_cons_succ]
  refine wpG_pure (i := 16) (v := ?v1x16) rfl rfl (by rfl) (fun w hB hG K hK => ?h1x16) ?_
  case h1x16 =>
    go_wp2_with fail
    exact hK _ (Below.refl _ _)
  simp only [List.set_cons_zero, List.set_cons_succ]
  refine wpG_nil (fun w1 hb1 hG1 => ?_)
  simp only [List.append_eq, List.cons_append, List.nil_append, List.drop_succ_cons, List.drop_zero, List.drop_nil]
  have u1g1 := Own.lt hG1 0 rfl
  have O1 := Own.of hG1
  try simp only [List.setIfInBounds_toArray, List.set_cons_zero, List.set_cons_succ] at O1
  have bw1 : Below w.heap.size w w1 := Below.trans (by go_grown) (Below.mono hb1 (by first | omega | (simp; done) | (simp; omega)))
  have zw1 := Below.size hb1
  try simp only [World.size_alloc, World.size_drew, World.size_setCell] at zw1
  have c1x0 := O1.cell 0 rfl
  have f1x0 := O1.free 0 rfl
  have l1x0 := O1.lt 0 rfl
  have l1x0d0 := le_up 0 l1x0
  have l1x0d1 := le_up 1 l1x0
  simp only [upN] at l1x0d0 l1x0d1
  have c1x1 := O1.cell 1 rfl
  have f1x1 := O1.free 1 rfl
  have l1x1 := O1.lt 1 rfl
  have l1x1d0 := le_up 0 l1x1
  have l1x1d1 := le_up 1 l1x1
  simp only [upN] at l1x1d0 l1x1d1
  have c1x2 := O1.cell 2 rfl
  have f1x2 := O1.free 2 rfl
  have l1x2 := O1.lt 2 rfl
  have l1x2d0 := le_up 0 l1x2
  have l1x2d1 := le_up 1 l1x2
  simp only [upN] at l1x2d0 l1x2d1
  have c1x3 := O1.cell 3 rfl
  have f1x3 := O1.free 3 rfl
  have l1x3 := O1.lt 3 rfl
  have l1x3d0 := le_up 0 l1x3
  have l1x3d1 := le_up 1 l1x3
  simp only [upN] at l1x3d0 l1x3d1
  have c1x4 := O1.cell 4 rfl
  have f1x4 := O1.free 4 rfl
  have l1x4 := O1.lt 4 rfl
  have l1x4d0 := le_up 0 l1x4
  have l1x4d1 := le_up 1 l1x4
  simp only [upN] at l1x4d0 l1x4d1
  have HO1 := Lib.hid O1
  clear O1 hb1
  go_wp2_with fail
  go_region
  all_goals (go_wp2_with fail)
  all_goals (refine bodyPost_ret (v := .tuple #[.agg #[.int .u64 0, .int .u64 0, .int .u64 0, .int .u64 0], .agg #[.int .u64 0, .int .u64 0, .int .u64 0, .int .u64 0], .int .i64 2]) (by simp [results, Try.results9, go_sem, *]) rfl ?_)
  all_goals (exact ⟨rfl, by go_grown⟩)


end Go.Proofs.Ytjmplababaejaaa
