/- Walks: a refund behind a change. -/
import Derived.Test.YtiglfbnicihpmaaStoreF
import Derived.Test.YtiglfbnicihpmaaStoreH
import Derived.Test.YtiglfbnicihpmaaSGaugeP
import Derived.Test.YtiglfbnicihpmaaSGaugeQ
import Derived.Test.YtiglfbnicihpmaaRngB
import Derived.WalkMore
import Derived.ScopeJumps
set_option linter.unusedVariables false
set_option linter.unusedSimpArgs false
namespace Go.Proofs.Ytiglfbnicihpmaa
open Go.RowKit
theorem wp_scope_fwd {P : Program} {a : Act} {w : World} {Q : Exit → Act → World → Prop} {c rest : Code} (l : Nat) (hf : findLabel c l = some rest) (first : c.wp P (Exit.jump l (fun a w => rest.wp P (Exit.noGoto Q) a w) Q) a w) : (Code.scope c).wp P Q a w :=
  wp_scope_jumps l _ (fun _ _ => 0) hf first (fun a w h => wp_mono h (fun e a w hq => by
    cases e with
    | goto l' => exact hq.elim
    | _ => exact hq))

set_option maxHeartbeats 4000000 in
set_option maxRecDepth 20000 in
theorem refund_y (g c0 c1 c2 s t : Kn) (e2 : Int) (x y z : Vl) (w : World)
    (hc : ∀ V : World, Calls Try.prog 6 #[.bool false, .agg #[.int .u64 x.a, .int .u64 x.b, .int .u64 x.c, .int .u64 x.d, .int .u64 x.l], .agg #[.int .u64 y.a, .int .u64 y.b, .int .u64 y.c, .int .u64 y.d, .int .u64 y.l], .agg #[.int .u64 z.a, .int .u64 z.b, .int .u64 z.c, .int .u64 z.d, .int .u64 z.l]] V fun e w' => e = .returned (.tuple #[.agg #[.int .u64 c0.l, .int .u64 c0.lo, .int .u64 c0.hi, .int .u64 c0.a], .agg #[.int .u64 c1.l, .int .u64 c1.lo, .int .u64 c1.hi, .int .u64 c1.a], .agg #[.int .u64 c2.l, .int .u64 c2.lo, .int .u64 c2.hi, .int .u64 c2.a]]) ∧ Below V.heap.size V w')
    (hr : ∀ V : World, Calls Try.prog 28 #[.agg #[.int .u64 g.l, .int .u64 g.lo, .int .u64 g.hi, .int .u64 g.a], .agg #[.int .u64 c1.l, .int .u64 c1.lo, .int .u64 c1.hi, .int .u64 c1.a]] V fun e w' => e = .returned (.tuple #[.agg #[.int .u64 s.l, .int .u64 s.lo, .int .u64 s.hi, .int .u64 s.a], .int .i64 0]) ∧ Below V.heap.size V w')
    (hl : ∀ V : World, Calls Try.prog 29 #[.agg #[.int .u64 s.l, .int .u64 s.lo, .int .u64 s.hi, .int .u64 s.a], .agg #[.int .u64 c2.l, .int .u64 c2.lo, .int .u64 c2.hi, .int .u64 c2.a]] V fun e w' => e = .returned (.tuple #[.agg #[.int .u64 t.l, .int .u64 t.lo, .int .u64 t.hi, .int .u64 t.a], .int .i64 e2]) ∧ Below V.heap.size V w') :
    Calls Try.prog 13 #[.agg #[.int .u64 g.l, .int .u64 g.lo, .int .u64 g.hi, .int .u64 g.a], .agg #[.int .u64 x.a, .int .u64 x.b, .int .u64 x.c, .int .u64 x.d, .int .u64 x.l], .agg #[.int .u64 y.a, .int .u64 y.b, .int .u64 y.c, .int .u64 y.d, .int .u64 y.l], .agg #[.int .u64 z.a, .int .u64 z.b, .int .u64 z.c, .int .u64 z.d, .int .u64 z.l]] w fun e w' => e = .returned (.tuple #[.agg #[.int .u64 t.l, .int .u64 t.lo, .int .u64 t.hi, .int .u64 t.a], .int .i64 e2]) ∧ Below w.heap.size w w' := by
  have HC := Lib.hid hc
  have HR := Lib.hid hr
  have HL := Lib.hid hl
  clear hc hr hl
  go_enter Try.func13, Try.ntmps13
  go_wp2_with fail
  go_step3
  go_wp2_with fail
  refine (HC.out _).mono ?_
  rintro e w1 ⟨rfl, hb1⟩
  have O1 := Own.grow' hb1 (Own.new (Own.new (Own.new (Own.new (Own.new (Own.nil w) (w.heap.size) (by first | rfl | simp)) (w.heap.size + 1) (by simp)) (w.heap.size + 1 + 1) (by simp)) (w.heap.size + 1 + 1 + 1) (by simp)) (w.heap.size + 1 + 1 + 1 + 1) (by simp))
  try simp only [List.setIfInBounds_toArray, List.set_cons_zero, List.set_cons_succ] at O1
  have bw1 : Below w.heap.size w w1 := Below.trans (by go_grown) (Below.mono hb1 (by first | omega | (simp; done) | (simp; omega)))
  have zw1 := Below.size hb1
  try simp only [World.size_alloc, World.size_drew, World.size_setCell] at zw1
  have c1x0 := Own.cell O1 0 rfl
  have f1x0 := Own.free O1 0 rfl
  have l1x0 := Own.lt O1 0 rfl
  have l1x0d0 := le_up 0 l1x0
  have l1x0d1 := le_up 1 l1x0
  have l1x0d2 := le_up 2 l1x0
  have l1x0d3 := le_up 3 l1x0
  simp only [upN] at l1x0d0 l1x0d1 l1x0d2 l1x0d3
  have a1x0 := fun o1 o2 o3 i => cell_al3 l1x0 o1 o2 o3 i
  have a1x0' := fun o1 o2 o3 o4 i => cell_al4 l1x0 o1 o2 o3 o4 i
  have c1x1 := Own.cell O1 1 rfl
  have f1x1 := Own.free O1 1 rfl
  have l1x1 := Own.lt O1 1 rfl
  have l1x1d0 := le_up 0 l1x1
  have l1x1d1 := le_up 1 l1x1
  have l1x1d2 := le_up 2 l1x1
  have l1x1d3 := le_up 3 l1x1
  simp only [upN] at l1x1d0 l1x1d1 l1x1d2 l1x1d3
  have a1x1 := fun o1 o2 o3 i => cell_al3 l1x1 o1 o2 o3 i
  have a1x1' := fun o1 o2 o3 o4 i => cell_al4 l1x1 o1 o2 o3 o4 i
  have c1x2 := Own.cell O1 2 rfl
  have f1x2 := Own.free O1 2 rfl
  have l1x2 := Own.lt O1 2 rfl
  have l1x2d0 := le_up 0 l1x2
  have l1x2d1 := le_up 1 l1x2
  have l1x2d2 := le_up 2 l1x2
  have l1x2d3 := le_up 3 l1x2
  simp only [upN] at l1x2d0 l1x2d1 l1x2d2 l1x2d3
  have a1x2 := fun o1 o2 o3 i => cell_al3 l1x2 o1 o2 o3 i
  have a1x2' := fun o1 o2 o3 o4 i => cell_al4 l1x2 o1 o2 o3 o4 i
  have c1x3 := Own.cell O1 3 rfl
  have f1x3 := Own.free O1 3 rfl
  have l1x3 := Own.lt O1 3 rfl
  have l1x3d0 := le_up 0 l1x3
  have l1x3d1 := le_up 1 l1x3
  have l1x3d2 := le_up 2 l1x3
  have l1x3d3 := le_up 3 l1x3
  simp only [upN] at l1x3d0 l1x3d1 l1x3d2 l1x3d3
  have a1x3 := fun o1 o2 o3 i => cell_al3 l1x3 o1 o2 o3 i
  have a1x3' := fun o1 o2 o3 o4 i => cell_al4 l1x3 o1 o2 o3 o4 i
  have c1x4 := Own.cell O1 4 rfl
  have f1x4 := Own.free O1 4 rfl
  have l1x4 := Own.lt O1 4 rfl
  have l1x4d0 := le_up 0 l1x4
  have l1x4d1 := le_up 1 l1x4
  have l1x4d2 := le_up 2 l1x4
  have l1x4d3 := le_up 3 l1x4
  simp only [upN] at l1x4d0 l1x4d1 l1x4d2 l1x4d3
  have a1x4 := fun o1 o2 o3 i => cell_al3 l1x4 o1 o2 o3 i
  have a1x4' := fun o1 o2 o3 o4 i => cell_al4 l1x4 o1 o2 o3 o4 i
  have HO1 := Lib.hid O1
  clear O1 hb1
  go_wp2_with fail
  refine (HR.out _).mono ?_
  rintro e w2 ⟨rfl, hb2⟩
  have O2 := Own.grow' hb2 (Own.new (Own.new (Own.new HO1.out (w1.heap.size) (by first | rfl | simp)) (w1.heap.size + 1) (by simp)) (w1.heap.size + 1 + 1) (by simp))
  try simp only [List.setIfInBounds_toArray, List.set_cons_zero, List.set_cons_succ] at O2
  have bw2 : Below w.heap.size w w2 := Below.trans (by go_grown) (Below.mono hb2 (by first | omega | (simp; done) | (simp; omega)))
  have zw2 := Below.size hb2
  try simp only [World.size_alloc, World.size_drew, World.size_setCell] at zw2
  clear c1x0 f1x0 l1x0 l1x0d0 l1x0d1 l1x0d2 l1x0d3 a1x0 a1x0' c1x1 f1x1 l1x1 l1x1d0 l1x1d1 l1x1d2 l1x1d3 a1x1 a1x1' c1x2 f1x2 l1x2 l1x2d0 l1x2d1 l1x2d2 l1x2d3 a1x2 a1x2' c1x3 f1x3 l1x3 l1x3d0 l1x3d1 l1x3d2 l1x3d3 a1x3 a1x3' c1x4 f1x4 l1x4 l1x4d0 l1x4d1 l1x4d2 l1x4d3 a1x4 a1x4'
  have c2x0 := Own.cell O2 0 rfl
  have f2x0 := Own.free O2 0 rfl
  have l2x0 := Own.lt O2 0 rfl
  have l2x0d0 := le_up 0 l2x0
  have l2x0d1 := le_up 1 l2x0
  have l2x0d2 := le_up 2 l2x0
  have l2x0d3 := le_up 3 l2x0
  simp only [upN] at l2x0d0 l2x0d1 l2x0d2 l2x0d3
  have a2x0 := fun o1 o2 o3 i => cell_al3 l2x0 o1 o2 o3 i
  have a2x0' := fun o1 o2 o3 o4 i => cell_al4 l2x0 o1 o2 o3 o4 i
  have c2x1 := Own.cell O2 1 rfl
  have f2x1 := Own.free O2 1 rfl
  have l2x1 := Own.lt O2 1 rfl
  have l2x1d0 := le_up 0 l2x1
  have l2x1d1 := le_up 1 l2x1
  have l2x1d2 := le_up 2 l2x1
  have l2x1d3 := le_up 3 l2x1
  simp only [upN] at l2x1d0 l2x1d1 l2x1d2 l2x1d3
  have a2x1 := fun o1 o2 o3 i => cell_al3 l2x1 o1 o2 o3 i
  have a2x1' := fun o1 o2 o3 o4 i => cell_al4 l2x1 o1 o2 o3 o4 i
  have c2x2 := Own.cell O2 2 rfl
  have f2x2 := Own.free O2 2 rfl
  have l2x2 := Own.lt O2 2 rfl
  have l2x2d0 := le_up 0 l2x2
  have l2x2d1 := le_up 1 l2x2
  have l2x2d2 := le_up 2 l2x2
  have l2x2d3 := le_up 3 l2x2
  simp only [upN] at l2x2d0 l2x2d1 l2x2d2 l2x2d3
  have a2x2 := fun o1 o2 o3 i => cell_al3 l2x2 o1 o2 o3 i
  have a2x2' := fun o1 o2 o3 o4 i => cell_al4 l2x2 o1 o2 o3 o4 i
  have c2x3 := Own.cell O2 3 rfl
  have f2x3 := Own.free O2 3 rfl
  have l2x3 := Own.lt O2 3 rfl
  have l2x3d0 := le_up 0 l2x3
  have l2x3d1 := le_up 1 l2x3
  have l2x3d2 := le_up 2 l2x3
  have l2x3d3 := le_up 3 l2x3
  simp only [upN] at l2x3d0 l2x3d1 l2x3d2 l2x3d3
  have a2x3 := fun o1 o2 o3 i => cell_al3 l2x3 o1 o2 o3 i
  have a2x3' := fun o1 o2 o3 o4 i => cell_al4 l2x3 o1 o2 o3 o4 i
  have c2x4 := Own.cell O2 4 rfl
  have f2x4 := Own.free O2 4 rfl
  have l2x4 := Own.lt O2 4 rfl
  have l2x4d0 := le_up 0 l2x4
  have l2x4d1 := le_up 1 l2x4
  have l2x4d2 := le_up 2 l2x4
  have l2x4d3 := le_up 3 l2x4
  simp only [upN] at l2x4d0 l2x4d1 l2x4d2 l2x4d3
  have a2x4 := fun o1 o2 o3 i => cell_al3 l2x4 o1 o2 o3 i
  have a2x4' := fun o1 o2 o3 o4 i => cell_al4 l2x4 o1 o2 o3 o4 i
  have c2x5 := Own.cell O2 5 rfl
  have f2x5 := Own.free O2 5 rfl
  have l2x5 := Own.lt O2 5 rfl
  have l2x5d0 := le_up 0 l2x5
  have l2x5d1 := le_up 1 l2x5
  have l2x5d2 := le_up 2 l2x5
  have l2x5d3 := le_up 3 l2x5
  simp only [upN] at l2x5d0 l2x5d1 l2x5d2 l2x5d3
  have a2x5 := fun o1 o2 o3 i => cell_al3 l2x5 o1 o2 o3 i
  have a2x5' := fun o1 o2 o3 o4 i => cell_al4 l2x5 o1 o2 o3 o4 i
  have c2x6 := Own.cell O2 6 rfl
  have f2x6 := Own.free O2 6 rfl
  have l2x6 := Own.lt O2 6 rfl
  have l2x6d0 := le_up 0 l2x6
  have l2x6d1 := le_up 1 l2x6
  have l2x6d2 := le_up 2 l2x6
  have l2x6d3 := le_up 3 l2x6
  simp only [upN] at l2x6d0 l2x6d1 l2x6d2 l2x6d3
  have a2x6 := fun o1 o2 o3 i => cell_al3 l2x6 o1 o2 o3 i
  have a2x6' := fun o1 o2 o3 o4 i => cell_al4 l2x6 o1 o2 o3 o4 i
  have c2x7 := Own.cell O2 7 rfl
  have f2x7 := Own.free O2 7 rfl
  have l2x7 := Own.lt O2 7 rfl
  have l2x7d0 := le_up 0 l2x7
  have l2x7d1 := le_up 1 l2x7
  have l2x7d2 := le_up 2 l2x7
  have l2x7d3 := le_up 3 l2x7
  simp only [upN] at l2x7d0 l2x7d1 l2x7d2 l2x7d3
  have a2x7 := fun o1 o2 o3 i => cell_al3 l2x7 o1 o2 o3 i
  have a2x7' := fun o1 o2 o3 o4 i => cell_al4 l2x7 o1 o2 o3 o4 i
  have HO2 := Lib.hid O2
  clear O2 hb2
  go_wp2_with fail
  refine (HL.out _).mono ?_
  rintro e w3 ⟨rfl, hb3⟩
  have O3 := Own.grow' hb3 (Own.set (Own.set (Own.set (Own.set HO2.out 3 rfl (Ne1.cons (by first | omega | (simp; omega)) (Ne1.cons (by first | omega | (simp; omega)) (Ne1.cons (by first | omega | (simp; omega)) (Ne1.cons (by first | omega | (simp; omega)) (Ne1.cons (by first | omega | (simp; omega)) (Ne1.cons (by first | omega | (simp; omega)) (Ne1.cons (by first | omega | (simp; omega)) Ne1.nil)))))))) 3 rfl (Ne1.cons (by first | omega | (simp; omega)) (Ne1.cons (by first | omega | (simp; omega)) (Ne1.cons (by first | omega | (simp; omega)) (Ne1.cons (by first | omega | (simp; omega)) (Ne1.cons (by first | omega | (simp; omega)) (Ne1.cons (by first | omega | (simp; omega)) (Ne1.cons (by first | omega | (simp; omega)) Ne1.nil)))))))) 3 rfl (Ne1.cons (by first | omega | (simp; omega)) (Ne1.cons (by first | omega | (simp; omega)) (Ne1.cons (by first | omega | (simp; omega)) (Ne1.cons (by first | omega | (simp; omega)) (Ne1.cons (by first | omega | (simp; omega)) (Ne1.cons (by first | omega | (simp; omega)) (Ne1.cons (by first | omega | (simp; omega)) Ne1.nil)))))))) 3 rfl (Ne1.cons (by first | omega | (simp; omega)) (Ne1.cons (by first | omega | (simp; omega)) (Ne1.cons (by first | omega | (simp; omega)) (Ne1.cons (by first | omega | (simp; omega)) (Ne1.cons (by first | omega | (simp; omega)) (Ne1.cons (by first | omega | (simp; omega)) (Ne1.cons (by first | omega | (simp; omega)) Ne1.nil))))))))
  try simp only [List.setIfInBounds_toArray, List.set_cons_zero, List.set_cons_succ] at O3
  have bw3 : Below w.heap.size w w3 := Below.trans (by go_grown) (Below.mono hb3 (by first | omega | (simp; done) | (simp; omega)))
  have zw3 := Below.size hb3
  try simp only [World.size_alloc, World.size_drew, World.size_setCell] at zw3
  clear c2x0 f2x0 l2x0 l2x0d0 l2x0d1 l2x0d2 l2x0d3 a2x0 a2x0' c2x1 f2x1 l2x1 l2x1d0 l2x1d1 l2x1d2 l2x1d3 a2x1 a2x1' c2x2 f2x2 l2x2 l2x2d0 l2x2d1 l2x2d2 l2x2d3 a2x2 a2x2' c2x3 f2x3 l2x3 l2x3d0 l2x3d1 l2x3d2 l2x3d3 a2x3 a2x3' c2x4 f2x4 l2x4 l2x4d0 l2x4d1 l2x4d2 l2x4d3 a2x4 a2x4' c2x5 f2x5 l2x5 l2x5d0 l2x5d1 l2x5d2 l2x5d3 a2x5 a2x5' c2x6 f2x6 l2x6 l2x6d0 l2x6d1 l2x6d2 l2x6d3 a2x6 a2x6' c2x7 f2x7 l2x7 l2x7d0 l2x7d1 l2x7d2 l2x7d3 a2x7 a2x7'
  have c3x0 := Own.cell O3 0 rfl
  have f3x0 := Own.free O3 0 rfl
  have l3x0 := Own.lt O3 0 rfl
  have l3x0d0 := le_up 0 l3x0
  have l3x0d1 := le_up 1 l3x0
  have l3x0d2 := le_up 2 l3x0
  have l3x0d3 := le_up 3 l3x0
  simp only [upN] at l3x0d0 l3x0d1 l3x0d2 l3x0d3
  have a3x0 := fun o1 o2 o3 i => cell_al3 l3x0 o1 o2 o3 i
  have a3x0' := fun o1 o2 o3 o4 i => cell_al4 l3x0 o1 o2 o3 o4 i
  have c3x1 := Own.cell O3 1 rfl
  have f3x1 := Own.free O3 1 rfl
  have l3x1 := Own.lt O3 1 rfl
  have l3x1d0 := le_up 0 l3x1
  have l3x1d1 := le_up 1 l3x1
  have l3x1d2 := le_up 2 l3x1
  have l3x1d3 := le_up 3 l3x1
  simp only [upN] at l3x1d0 l3x1d1 l3x1d2 l3x1d3
  have a3x1 := fun o1 o2 o3 i => cell_al3 l3x1 o1 o2 o3 i
  have a3x1' := fun o1 o2 o3 o4 i => cell_al4 l3x1 o1 o2 o3 o4 i
  have c3x2 := Own.cell O3 2 rfl
  have f3x2 := Own.free O3 2 rfl
  have l3x2 := Own.lt O3 2 rfl
  have l3x2d0 := le_up 0 l3x2
  have l3x2d1 := le_up 1 l3x2
  have l3x2d2 := le_up 2 l3x2
  have l3x2d3 := le_up 3 l3x2
  simp only [upN] at l3x2d0 l3x2d1 l3x2d2 l3x2d3
  have a3x2 := fun o1 o2 o3 i => cell_al3 l3x2 o1 o2 o3 i
  have a3x2' := fun o1 o2 o3 o4 i => cell_al4 l3x2 o1 o2 o3 o4 i
  have c3x3 := Own.cell O3 3 rfl
  have f3x3 := Own.free O3 3 rfl
  have l3x3 := Own.lt O3 3 rfl
  have l3x3d0 := le_up 0 l3x3
  have l3x3d1 := le_up 1 l3x3
  have l3x3d2 := le_up 2 l3x3
  have l3x3d3 := le_up 3 l3x3
  simp only [upN] at l3x3d0 l3x3d1 l3x3d2 l3x3d3
  have a3x3 := fun o1 o2 o3 i => cell_al3 l3x3 o1 o2 o3 i
  have a3x3' := fun o1 o2 o3 o4 i => cell_al4 l3x3 o1 o2 o3 o4 i
  have c3x4 := Own.cell O3 4 rfl
  have f3x4 := Own.free O3 4 rfl
  have l3x4 := Own.lt O3 4 rfl
  have l3x4d0 := le_up 0 l3x4
  have l3x4d1 := le_up 1 l3x4
  have l3x4d2 := le_up 2 l3x4
  have l3x4d3 := le_up 3 l3x4
  simp only [upN] at l3x4d0 l3x4d1 l3x4d2 l3x4d3
  have a3x4 := fun o1 o2 o3 i => cell_al3 l3x4 o1 o2 o3 i
  have a3x4' := fun o1 o2 o3 o4 i => cell_al4 l3x4 o1 o2 o3 o4 i
  have c3x5 := Own.cell O3 5 rfl
  have f3x5 := Own.free O3 5 rfl
  have l3x5 := Own.lt O3 5 rfl
  have l3x5d0 := le_up 0 l3x5
  have l3x5d1 := le_up 1 l3x5
  have l3x5d2 := le_up 2 l3x5
  have l3x5d3 := le_up 3 l3x5
  simp only [upN] at l3x5d0 l3x5d1 l3x5d2 l3x5d3
  have a3x5 := fun o1 o2 o3 i => cell_al3 l3x5 o1 o2 o3 i
  have a3x5' := fun o1 o2 o3 o4 i => cell_al4 l3x5 o1 o2 o3 o4 i
  have c3x6 := Own.cell O3 6 rfl
  have f3x6 := Own.free O3 6 rfl
  have l3x6 := Own.lt O3 6 rfl
  have l3x6d0 := le_up 0 l3x6
  have l3x6d1 := le_up 1 l3x6
  have l3x6d2 := le_up 2 l3x6
  have l3x6d3 := le_up 3 l3x6
  simp only [upN] at l3x6d0 l3x6d1 l3x6d2 l3x6d3
  have a3x6 := fun o1 o2 o3 i => cell_al3 l3x6 o1 o2 o3 i
  have a3x6' := fun o1 o2 o3 o4 i => cell_al4 l3x6 o1 o2 o3 o4 i
  have c3x7 := Own.cell O3 7 rfl
  have f3x7 := Own.free O3 7 rfl
  have l3x7 := Own.lt O3 7 rfl
  have l3x7d0 := le_up 0 l3x7
  have l3x7d1 := le_up 1 l3x7
  have l3x7d2 := le_up 2 l3x7
  have l3x7d3 := le_up 3 l3x7
  simp only [upN] at l3x7d0 l3x7d1 l3x7d2 l3x7d3
  have a3x7 := fun o1 o2 o3 i => cell_al3 l3x7 o1 o2 o3 i
  have a3x7' := fun o1 o2 o3 o4 i => cell_al4 l3x7 o1 o2 o3 o4 i
  have HO3 := Lib.hid O3
  clear O3 hb3
  go_wp2_with fail
  all_goals (try rw [Exit.noGoto_ret])
  refine bodyPost_ret (v := .tuple #[.agg #[.int .u64 t.l, .int .u64 t.lo, .int .u64 t.hi, .int .u64 t.a], .int .i64 e2]) (by simp [results, Try.results13, go_sem, *]) rfl ?_
  exact ⟨rfl, by go_grown⟩

set_option maxHeartbeats 4000000 in
set_option maxRecDepth 20000 in
theorem refRefund_y (g c0 c1 c2 s t : Kn) (e2 : Int) (x y z : Vl) (w : World)
    (hc : ∀ V : World, Calls Try.prog 7 #[.bool false, .agg #[.int .u64 x.a, .int .u64 x.b, .int .u64 x.c, .int .u64 x.d, .int .u64 x.l], .agg #[.int .u64 y.a, .int .u64 y.b, .int .u64 y.c, .int .u64 y.d, .int .u64 y.l], .agg #[.int .u64 z.a, .int .u64 z.b, .int .u64 z.c, .int .u64 z.d, .int .u64 z.l]] V fun e w' => e = .returned (.tuple #[.agg #[.int .u64 c0.l, .int .u64 c0.lo, .int .u64 c0.hi, .int .u64 c0.a], .agg #[.int .u64 c1.l, .int .u64 c1.lo, .int .u64 c1.hi, .int .u64 c1.a], .agg #[.int .u64 c2.l, .int .u64 c2.lo, .int .u64 c2.hi, .int .u64 c2.a]]) ∧ Below V.heap.size V w')
    (hr : ∀ V : World, Calls Try.prog 30 #[.agg #[.int .u64 g.l, .int .u64 g.lo, .int .u64 g.hi, .int .u64 g.a], .agg #[.int .u64 c1.l, .int .u64 c1.lo, .int .u64 c1.hi, .int .u64 c1.a]] V fun e w' => e = .returned (.tuple #[.agg #[.int .u64 s.l, .int .u64 s.lo, .int .u64 s.hi, .int .u64 s.a], .int .i64 0]) ∧ Below V.heap.size V w')
    (hl : ∀ V : World, Calls Try.prog 31 #[.agg #[.int .u64 s.l, .int .u64 s.lo, .int .u64 s.hi, .int .u64 s.a], .agg #[.int .u64 c2.l, .int .u64 c2.lo, .int .u64 c2.hi, .int .u64 c2.a]] V fun e w' => e = .returned (.tuple #[.agg #[.int .u64 t.l, .int .u64 t.lo, .int .u64 t.hi, .int .u64 t.a], .int .i64 e2]) ∧ Below V.heap.size V w') :
    Calls Try.prog 14 #[.agg #[.int .u64 g.l, .int .u64 g.lo, .int .u64 g.hi, .int .u64 g.a], .agg #[.int .u64 x.a, .int .u64 x.b, .int .u64 x.c, .int .u64 x.d, .int .u64 x.l], .agg #[.int .u64 y.a, .int .u64 y.b, .int .u64 y.c, .int .u64 y.d, .int .u64 y.l], .agg #[.int .u64 z.a, .int .u64 z.b, .int .u64 z.c, .int .u64 z.d, .int .u64 z.l]] w fun e w' => e = .returned (.tuple #[.agg #[.int .u64 t.l, .int .u64 t.lo, .int .u64 t.hi, .int .u64 t.a], .int .i64 e2]) ∧ Below w.heap.size w w' := by
  have HC := Lib.hid hc
  have HR := Lib.hid hr
  have HL := Lib.hid hl
  clear hc hr hl
  go_enter Try.func14, Try.ntmps14
  go_wp2_with fail
  refine (HC.out _).mono ?_
  rintro e w1 ⟨rfl, hb1⟩
  have O1 := Own.grow' hb1 (Own.new (Own.new (Own.new (Own.new (Own.new (Own.nil w) (w.heap.size) (by first | rfl | simp)) (w.heap.size + 1) (by simp)) (w.heap.size + 1 + 1) (by simp)) (w.heap.size + 1 + 1 + 1) (by simp)) (w.heap.size + 1 + 1 + 1 + 1) (by simp))
  try simp only [List.setIfInBounds_toArray, List.set_cons_zero, List.set_cons_succ] at O1
  have bw1 : Below w.heap.size w w1 := Below.trans (by go_grown) (Below.mono hb1 (by first | omega | (simp; done) | (simp; omega)))
  have zw1 := Below.size hb1
  try simp only [World.size_alloc, World.size_drew, World.size_setCell] at zw1
  have c1x0 := Own.cell O1 0 rfl
  have f1x0 := Own.free O1 0 rfl
  have l1x0 := Own.lt O1 0 rfl
  have l1x0d0 := le_up 0 l1x0
  have l1x0d1 := le_up 1 l1x0
  have l1x0d2 := le_up 2 l1x0
  have l1x0d3 := le_up 3 l1x0
  simp only [upN] at l1x0d0 l1x0d1 l1x0d2 l1x0d3
  have a1x0 := fun o1 o2 o3 i => cell_al3 l1x0 o1 o2 o3 i
  have a1x0' := fun o1 o2 o3 o4 i => cell_al4 l1x0 o1 o2 o3 o4 i
  have c1x1 := Own.cell O1 1 rfl
  have f1x1 := Own.free O1 1 rfl
  have l1x1 := Own.lt O1 1 rfl
  have l1x1d0 := le_up 0 l1x1
  have l1x1d1 := le_up 1 l1x1
  have l1x1d2 := le_up 2 l1x1
  have l1x1d3 := le_up 3 l1x1
  simp only [upN] at l1x1d0 l1x1d1 l1x1d2 l1x1d3
  have a1x1 := fun o1 o2 o3 i => cell_al3 l1x1 o1 o2 o3 i
  have a1x1' := fun o1 o2 o3 o4 i => cell_al4 l1x1 o1 o2 o3 o4 i
  have c1x2 := Own.cell O1 2 rfl
  have f1x2 := Own.free O1 2 rfl
  have l1x2 := Own.lt O1 2 rfl
  have l1x2d0 := le_up 0 l1x2
  have l1x2d1 := le_up 1 l1x2
  have l1x2d2 := le_up 2 l1x2
  have l1x2d3 := le_up 3 l1x2
  simp only [upN] at l1x2d0 l1x2d1 l1x2d2 l1x2d3
  have a1x2 := fun o1 o2 o3 i => cell_al3 l1x2 o1 o2 o3 i
  have a1x2' := fun o1 o2 o3 o4 i => cell_al4 l1x2 o1 o2 o3 o4 i
  have c1x3 := Own.cell O1 3 rfl
  have f1x3 := Own.free O1 3 rfl
  have l1x3 := Own.lt O1 3 rfl
  have l1x3d0 := le_up 0 l1x3
  have l1x3d1 := le_up 1 l1x3
  have l1x3d2 := le_up 2 l1x3
  have l1x3d3 := le_up 3 l1x3
  simp only [upN] at l1x3d0 l1x3d1 l1x3d2 l1x3d3
  have a1x3 := fun o1 o2 o3 i => cell_al3 l1x3 o1 o2 o3 i
  have a1x3' := fun o1 o2 o3 o4 i => cell_al4 l1x3 o1 o2 o3 o4 i
  have c1x4 := Own.cell O1 4 rfl
  have f1x4 := Own.free O1 4 rfl
  have l1x4 := Own.lt O1 4 rfl
  have l1x4d0 := le_up 0 l1x4
  have l1x4d1 := le_up 1 l1x4
  have l1x4d2 := le_up 2 l1x4
  have l1x4d3 := le_up 3 l1x4
  simp only [upN] at l1x4d0 l1x4d1 l1x4d2 l1x4d3
  have a1x4 := fun o1 o2 o3 i => cell_al3 l1x4 o1 o2 o3 i
  have a1x4' := fun o1 o2 o3 o4 i => cell_al4 l1x4 o1 o2 o3 o4 i
  have HO1 := Lib.hid O1
  clear O1 hb1
  go_wp2_with fail
  refine (HR.out _).mono ?_
  rintro e w2 ⟨rfl, hb2⟩
  have O2 := Own.grow' hb2 (Own.new (Own.new (Own.new HO1.out (w1.heap.size) (by first | rfl | simp)) (w1.heap.size + 1) (by simp)) (w1.heap.size + 1 + 1) (by simp))
  try simp only [List.setIfInBounds_toArray, List.set_cons_zero, List.set_cons_succ] at O2
  have bw2 : Below w.heap.size w w2 := Below.trans (by go_grown) (Below.mono hb2 (by first | omega | (simp; done) | (simp; omega)))
  have zw2 := Below.size hb2
  try simp only [World.size_alloc, World.size_drew, World.size_setCell] at zw2
  clear c1x0 f1x0 l1x0 l1x0d0 l1x0d1 l1x0d2 l1x0d3 a1x0 a1x0' c1x1 f1x1 l1x1 l1x1d0 l1x1d1 l1x1d2 l1x1d3 a1x1 a1x1' c1x2 f1x2 l1x2 l1x2d0 l1x2d1 l1x2d2 l1x2d3 a1x2 a1x2' c1x3 f1x3 l1x3 l1x3d0 l1x3d1 l1x3d2 l1x3d3 a1x3 a1x3' c1x4 f1x4 l1x4 l1x4d0 l1x4d1 l1x4d2 l1x4d3 a1x4 a1x4'
  have c2x0 := Own.cell O2 0 rfl
  have f2x0 := Own.free O2 0 rfl
  have l2x0 := Own.lt O2 0 rfl
  have l2x0d0 := le_up 0 l2x0
  have l2x0d1 := le_up 1 l2x0
  have l2x0d2 := le_up 2 l2x0
  have l2x0d3 := le_up 3 l2x0
  simp only [upN] at l2x0d0 l2x0d1 l2x0d2 l2x0d3
  have a2x0 := fun o1 o2 o3 i => cell_al3 l2x0 o1 o2 o3 i
  have a2x0' := fun o1 o2 o3 o4 i => cell_al4 l2x0 o1 o2 o3 o4 i
  have c2x1 := Own.cell O2 1 rfl
  have f2x1 := Own.free O2 1 rfl
  have l2x1 := Own.lt O2 1 rfl
  have l2x1d0 := le_up 0 l2x1
  have l2x1d1 := le_up 1 l2x1
  have l2x1d2 := le_up 2 l2x1
  have l2x1d3 := le_up 3 l2x1
  simp only [upN] at l2x1d0 l2x1d1 l2x1d2 l2x1d3
  have a2x1 := fun o1 o2 o3 i => cell_al3 l2x1 o1 o2 o3 i
  have a2x1' := fun o1 o2 o3 o4 i => cell_al4 l2x1 o1 o2 o3 o4 i
  have c2x2 := Own.cell O2 2 rfl
  have f2x2 := Own.free O2 2 rfl
  have l2x2 := Own.lt O2 2 rfl
  have l2x2d0 := le_up 0 l2x2
  have l2x2d1 := le_up 1 l2x2
  have l2x2d2 := le_up 2 l2x2
  have l2x2d3 := le_up 3 l2x2
  simp only [upN] at l2x2d0 l2x2d1 l2x2d2 l2x2d3
  have a2x2 := fun o1 o2 o3 i => cell_al3 l2x2 o1 o2 o3 i
  have a2x2' := fun o1 o2 o3 o4 i => cell_al4 l2x2 o1 o2 o3 o4 i
  have c2x3 := Own.cell O2 3 rfl
  have f2x3 := Own.free O2 3 rfl
  have l2x3 := Own.lt O2 3 rfl
  have l2x3d0 := le_up 0 l2x3
  have l2x3d1 := le_up 1 l2x3
  have l2x3d2 := le_up 2 l2x3
  have l2x3d3 := le_up 3 l2x3
  simp only [upN] at l2x3d0 l2x3d1 l2x3d2 l2x3d3
  have a2x3 := fun o1 o2 o3 i => cell_al3 l2x3 o1 o2 o3 i
  have a2x3' := fun o1 o2 o3 o4 i => cell_al4 l2x3 o1 o2 o3 o4 i
  have c2x4 := Own.cell O2 4 rfl
  have f2x4 := Own.free O2 4 rfl
  have l2x4 := Own.lt O2 4 rfl
  have l2x4d0 := le_up 0 l2x4
  have l2x4d1 := le_up 1 l2x4
  have l2x4d2 := le_up 2 l2x4
  have l2x4d3 := le_up 3 l2x4
  simp only [upN] at l2x4d0 l2x4d1 l2x4d2 l2x4d3
  have a2x4 := fun o1 o2 o3 i => cell_al3 l2x4 o1 o2 o3 i
  have a2x4' := fun o1 o2 o3 o4 i => cell_al4 l2x4 o1 o2 o3 o4 i
  have c2x5 := Own.cell O2 5 rfl
  have f2x5 := Own.free O2 5 rfl
  have l2x5 := Own.lt O2 5 rfl
  have l2x5d0 := le_up 0 l2x5
  have l2x5d1 := le_up 1 l2x5
  have l2x5d2 := le_up 2 l2x5
  have l2x5d3 := le_up 3 l2x5
  simp only [upN] at l2x5d0 l2x5d1 l2x5d2 l2x5d3
  have a2x5 := fun o1 o2 o3 i => cell_al3 l2x5 o1 o2 o3 i
  have a2x5' := fun o1 o2 o3 o4 i => cell_al4 l2x5 o1 o2 o3 o4 i
  have c2x6 := Own.cell O2 6 rfl
  have f2x6 := Own.free O2 6 rfl
  have l2x6 := Own.lt O2 6 rfl
  have l2x6d0 := le_up 0 l2x6
  have l2x6d1 := le_up 1 l2x6
  have l2x6d2 := le_up 2 l2x6
  have l2x6d3 := le_up 3 l2x6
  simp only [upN] at l2x6d0 l2x6d1 l2x6d2 l2x6d3
  have a2x6 := fun o1 o2 o3 i => cell_al3 l2x6 o1 o2 o3 i
  have a2x6' := fun o1 o2 o3 o4 i => cell_al4 l2x6 o1 o2 o3 o4 i
  have c2x7 := Own.cell O2 7 rfl
  have f2x7 := Own.free O2 7 rfl
  have l2x7 := Own.lt O2 7 rfl
  have l2x7d0 := le_up 0 l2x7
  have l2x7d1 := le_up 1 l2x7
  have l2x7d2 := le_up 2 l2x7
  have l2x7d3 := le_up 3 l2x7
  simp only [upN] at l2x7d0 l2x7d1 l2x7d2 l2x7d3
  have a2x7 := fun o1 o2 o3 i => cell_al3 l2x7 o1 o2 o3 i
  have a2x7' := fun o1 o2 o3 o4 i => cell_al4 l2x7 o1 o2 o3 o4 i
  have HO2 := Lib.hid O2
  clear O2 hb2
  go_wp2_with fail
  refine (HL.out _).mono ?_
  rintro e w3 ⟨rfl, hb3⟩
  have O3 := Own.grow' hb3 (Own.new HO2.out (w2.heap.size) (by first | rfl | simp))
  try simp only [List.setIfInBounds_toArray, List.set_cons_zero, List.set_cons_succ] at O3
  have bw3 : Below w.heap.size w w3 := Below.trans (by go_grown) (Below.mono hb3 (by first | omega | (simp; done) | (simp; omega)))
  have zw3 := Below.size hb3
  try simp only [World.size_alloc, World.size_drew, World.size_setCell] at zw3
  clear c2x0 f2x0 l2x0 l2x0d0 l2x0d1 l2x0d2 l2x0d3 a2x0 a2x0' c2x1 f2x1 l2x1 l2x1d0 l2x1d1 l2x1d2 l2x1d3 a2x1 a2x1' c2x2 f2x2 l2x2 l2x2d0 l2x2d1 l2x2d2 l2x2d3 a2x2 a2x2' c2x3 f2x3 l2x3 l2x3d0 l2x3d1 l2x3d2 l2x3d3 a2x3 a2x3' c2x4 f2x4 l2x4 l2x4d0 l2x4d1 l2x4d2 l2x4d3 a2x4 a2x4' c2x5 f2x5 l2x5 l2x5d0 l2x5d1 l2x5d2 l2x5d3 a2x5 a2x5' c2x6 f2x6 l2x6 l2x6d0 l2x6d1 l2x6d2 l2x6d3 a2x6 a2x6' c2x7 f2x7 l2x7 l2x7d0 l2x7d1 l2x7d2 l2x7d3 a2x7 a2x7'
  have c3x0 := Own.cell O3 0 rfl
  have f3x0 := Own.free O3 0 rfl
  have l3x0 := Own.lt O3 0 rfl
  have l3x0d0 := le_up 0 l3x0
  have l3x0d1 := le_up 1 l3x0
  have l3x0d2 := le_up 2 l3x0
  have l3x0d3 := le_up 3 l3x0
  simp only [upN] at l3x0d0 l3x0d1 l3x0d2 l3x0d3
  have a3x0 := fun o1 o2 o3 i => cell_al3 l3x0 o1 o2 o3 i
  have a3x0' := fun o1 o2 o3 o4 i => cell_al4 l3x0 o1 o2 o3 o4 i
  have c3x1 := Own.cell O3 1 rfl
  have f3x1 := Own.free O3 1 rfl
  have l3x1 := Own.lt O3 1 rfl
  have l3x1d0 := le_up 0 l3x1
  have l3x1d1 := le_up 1 l3x1
  have l3x1d2 := le_up 2 l3x1
  have l3x1d3 := le_up 3 l3x1
  simp only [upN] at l3x1d0 l3x1d1 l3x1d2 l3x1d3
  have a3x1 := fun o1 o2 o3 i => cell_al3 l3x1 o1 o2 o3 i
  have a3x1' := fun o1 o2 o3 o4 i => cell_al4 l3x1 o1 o2 o3 o4 i
  have c3x2 := Own.cell O3 2 rfl
  have f3x2 := Own.free O3 2 rfl
  have l3x2 := Own.lt O3 2 rfl
  have l3x2d0 := le_up 0 l3x2
  have l3x2d1 := le_up 1 l3x2
  have l3x2d2 := le_up 2 l3x2
  have l3x2d3 := le_up 3 l3x2
  simp only [upN] at l3x2d0 l3x2d1 l3x2d2 l3x2d3
  have a3x2 := fun o1 o2 o3 i => cell_al3 l3x2 o1 o2 o3 i
  have a3x2' := fun o1 o2 o3 o4 i => cell_al4 l3x2 o1 o2 o3 o4 i
  have c3x3 := Own.cell O3 3 rfl
  have f3x3 := Own.free O3 3 rfl
  have l3x3 := Own.lt O3 3 rfl
  have l3x3d0 := le_up 0 l3x3
  have l3x3d1 := le_up 1 l3x3
  have l3x3d2 := le_up 2 l3x3
  have l3x3d3 := le_up 3 l3x3
  simp only [upN] at l3x3d0 l3x3d1 l3x3d2 l3x3d3
  have a3x3 := fun o1 o2 o3 i => cell_al3 l3x3 o1 o2 o3 i
  have a3x3' := fun o1 o2 o3 o4 i => cell_al4 l3x3 o1 o2 o3 o4 i
  have c3x4 := Own.cell O3 4 rfl
  have f3x4 := Own.free O3 4 rfl
  have l3x4 := Own.lt O3 4 rfl
  have l3x4d0 := le_up 0 l3x4
  have l3x4d1 := le_up 1 l3x4
  have l3x4d2 := le_up 2 l3x4
  have l3x4d3 := le_up 3 l3x4
  simp only [upN] at l3x4d0 l3x4d1 l3x4d2 l3x4d3
  have a3x4 := fun o1 o2 o3 i => cell_al3 l3x4 o1 o2 o3 i
  have a3x4' := fun o1 o2 o3 o4 i => cell_al4 l3x4 o1 o2 o3 o4 i
  have c3x5 := Own.cell O3 5 rfl
  have f3x5 := Own.free O3 5 rfl
  have l3x5 := Own.lt O3 5 rfl
  have l3x5d0 := le_up 0 l3x5
  have l3x5d1 := le_up 1 l3x5
  have l3x5d2 := le_up 2 l3x5
  have l3x5d3 := le_up 3 l3x5
  simp only [upN] at l3x5d0 l3x5d1 l3x5d2 l3x5d3
  have a3x5 := fun o1 o2 o3 i => cell_al3 l3x5 o1 o2 o3 i
  have a3x5' := fun o1 o2 o3 o4 i => cell_al4 l3x5 o1 o2 o3 o4 i
  have c3x6 := Own.cell O3 6 rfl
  have f3x6 := Own.free O3 6 rfl
  have l3x6 := Own.lt O3 6 rfl
  have l3x6d0 := le_up 0 l3x6
  have l3x6d1 := le_up 1 l3x6
  have l3x6d2 := le_up 2 l3x6
  have l3x6d3 := le_up 3 l3x6
  simp only [upN] at l3x6d0 l3x6d1 l3x6d2 l3x6d3
  have a3x6 := fun o1 o2 o3 i => cell_al3 l3x6 o1 o2 o3 i
  have a3x6' := fun o1 o2 o3 o4 i => cell_al4 l3x6 o1 o2 o3 o4 i
  have c3x7 := Own.cell O3 7 rfl
  have f3x7 := Own.free O3 7 rfl
  have l3x7 := Own.lt O3 7 rfl
  have l3x7d0 := le_up 0 l3x7
  have l3x7d1 := le_up 1 l3x7
  have l3x7d2 := le_up 2 l3x7
  have l3x7d3 := le_up 3 l3x7
  simp only [upN] at l3x7d0 l3x7d1 l3x7d2 l3x7d3
  have a3x7 := fun o1 o2 o3 i => cell_al3 l3x7 o1 o2 o3 i
  have a3x7' := fun o1 o2 o3 o4 i => cell_al4 l3x7 o1 o2 o3 o4 i
  have c3x8 := Own.cell O3 8 rfl
  have f3x8 := Own.free O3 8 rfl
  have l3x8 := Own.lt O3 8 rfl
  have l3x8d0 := le_up 0 l3x8
  have l3x8d1 := le_up 1 l3x8
  have l3x8d2 := le_up 2 l3x8
  have l3x8d3 := le_up 3 l3x8
  simp only [upN] at l3x8d0 l3x8d1 l3x8d2 l3x8d3
  have a3x8 := fun o1 o2 o3 i => cell_al3 l3x8 o1 o2 o3 i
  have a3x8' := fun o1 o2 o3 o4 i => cell_al4 l3x8 o1 o2 o3 o4 i
  have HO3 := Lib.hid O3
  clear O3 hb3
  go_wp2_with fail
  refine bodyPost_ret (v := .tuple #[.agg #[.int .u64 t.l, .int .u64 t.lo, .int .u64 t.hi, .int .u64 t.a], .int .i64 e2]) (by simp [results, Try.results14, go_sem, *]) rfl ?_
  exact ⟨rfl, by go_grown⟩

set_option maxHeartbeats 4000000 in
set_option maxRecDepth 20000 in
theorem refund_n (g c0 c1 c2 : Kn) (x y z : Vl) (w : World)
    (hc : ∀ V : World, Calls Try.prog 6 #[.bool false, .agg #[.int .u64 x.a, .int .u64 x.b, .int .u64 x.c, .int .u64 x.d, .int .u64 x.l], .agg #[.int .u64 y.a, .int .u64 y.b, .int .u64 y.c, .int .u64 y.d, .int .u64 y.l], .agg #[.int .u64 z.a, .int .u64 z.b, .int .u64 z.c, .int .u64 z.d, .int .u64 z.l]] V fun e w' => e = .returned (.tuple #[.agg #[.int .u64 c0.l, .int .u64 c0.lo, .int .u64 c0.hi, .int .u64 c0.a], .agg #[.int .u64 c1.l, .int .u64 c1.lo, .int .u64 c1.hi, .int .u64 c1.a], .agg #[.int .u64 c2.l, .int .u64 c2.lo, .int .u64 c2.hi, .int .u64 c2.a]]) ∧ Below V.heap.size V w')
    (hr : ∀ V : World, Calls Try.prog 28 #[.agg #[.int .u64 g.l, .int .u64 g.lo, .int .u64 g.hi, .int .u64 g.a], .agg #[.int .u64 c1.l, .int .u64 c1.lo, .int .u64 c1.hi, .int .u64 c1.a]] V fun e w' => e = .returned (.tuple #[.agg #[.int .u64 0, .int .u64 0, .int .u64 0, .int .u64 0], .int .i64 2]) ∧ Below V.heap.size V w') :
    Calls Try.prog 13 #[.agg #[.int .u64 g.l, .int .u64 g.lo, .int .u64 g.hi, .int .u64 g.a], .agg #[.int .u64 x.a, .int .u64 x.b, .int .u64 x.c, .int .u64 x.d, .int .u64 x.l], .agg #[.int .u64 y.a, .int .u64 y.b, .int .u64 y.c, .int .u64 y.d, .int .u64 y.l], .agg #[.int .u64 z.a, .int .u64 z.b, .int .u64 z.c, .int .u64 z.d, .int .u64 z.l]] w fun e w' => e = .returned (.tuple #[.agg #[.int .u64 0, .int .u64 0, .int .u64 0, .int .u64 0], .int .i64 2]) ∧ Below w.heap.size w w' := by
  have HC := Lib.hid hc
  have HR := Lib.hid hr
  clear hc hr
  go_enter Try.func13, Try.ntmps13
  go_wp2_with fail
  refine wp_scope_fwd 0 rfl ?_
  go_wp2_with fail
  refine (HC.out _).mono ?_
  rintro e w1 ⟨rfl, hb1⟩
  have O1 := Own.grow' hb1 (Own.new (Own.new (Own.new (Own.new (Own.new (Own.nil w) (w.heap.size) (by first | rfl | simp)) (w.heap.size + 1) (by simp)) (w.heap.size + 1 + 1) (by simp)) (w.heap.size + 1 + 1 + 1) (by simp)) (w.heap.size + 1 + 1 + 1 + 1) (by simp))
  try simp only [List.setIfInBounds_toArray, List.set_cons_zero, List.set_cons_succ] at O1
  have bw1 : Below w.heap.size w w1 := Below.trans (by go_grown) (Below.mono hb1 (by first | omega | (simp; done) | (simp; omega)))
  have zw1 := Below.size hb1
  try simp only [World.size_alloc, World.size_drew, World.size_setCell] at zw1
  have c1x0 := Own.cell O1 0 rfl
  have f1x0 := Own.free O1 0 rfl
  have l1x0 := Own.lt O1 0 rfl
  have l1x0d0 := le_up 0 l1x0
  have l1x0d1 := le_up 1 l1x0
  have l1x0d2 := le_up 2 l1x0
  have l1x0d3 := le_up 3 l1x0
  simp only [upN] at l1x0d0 l1x0d1 l1x0d2 l1x0d3
  have a1x0 := fun o1 o2 o3 i => cell_al3 l1x0 o1 o2 o3 i
  have a1x0' := fun o1 o2 o3 o4 i => cell_al4 l1x0 o1 o2 o3 o4 i
  have c1x1 := Own.cell O1 1 rfl
  have f1x1 := Own.free O1 1 rfl
  have l1x1 := Own.lt O1 1 rfl
  have l1x1d0 := le_up 0 l1x1
  have l1x1d1 := le_up 1 l1x1
  have l1x1d2 := le_up 2 l1x1
  have l1x1d3 := le_up 3 l1x1
  simp only [upN] at l1x1d0 l1x1d1 l1x1d2 l1x1d3
  have a1x1 := fun o1 o2 o3 i => cell_al3 l1x1 o1 o2 o3 i
  have a1x1' := fun o1 o2 o3 o4 i => cell_al4 l1x1 o1 o2 o3 o4 i
  have c1x2 := Own.cell O1 2 rfl
  have f1x2 := Own.free O1 2 rfl
  have l1x2 := Own.lt O1 2 rfl
  have l1x2d0 := le_up 0 l1x2
  have l1x2d1 := le_up 1 l1x2
  have l1x2d2 := le_up 2 l1x2
  have l1x2d3 := le_up 3 l1x2
  simp only [upN] at l1x2d0 l1x2d1 l1x2d2 l1x2d3
  have a1x2 := fun o1 o2 o3 i => cell_al3 l1x2 o1 o2 o3 i
  have a1x2' := fun o1 o2 o3 o4 i => cell_al4 l1x2 o1 o2 o3 o4 i
  have c1x3 := Own.cell O1 3 rfl
  have f1x3 := Own.free O1 3 rfl
  have l1x3 := Own.lt O1 3 rfl
  have l1x3d0 := le_up 0 l1x3
  have l1x3d1 := le_up 1 l1x3
  have l1x3d2 := le_up 2 l1x3
  have l1x3d3 := le_up 3 l1x3
  simp only [upN] at l1x3d0 l1x3d1 l1x3d2 l1x3d3
  have a1x3 := fun o1 o2 o3 i => cell_al3 l1x3 o1 o2 o3 i
  have a1x3' := fun o1 o2 o3 o4 i => cell_al4 l1x3 o1 o2 o3 o4 i
  have c1x4 := Own.cell O1 4 rfl
  have f1x4 := Own.free O1 4 rfl
  have l1x4 := Own.lt O1 4 rfl
  have l1x4d0 := le_up 0 l1x4
  have l1x4d1 := le_up 1 l1x4
  have l1x4d2 := le_up 2 l1x4
  have l1x4d3 := le_up 3 l1x4
  simp only [upN] at l1x4d0 l1x4d1 l1x4d2 l1x4d3
  have a1x4 := fun o1 o2 o3 i => cell_al3 l1x4 o1 o2 o3 i
  have a1x4' := fun o1 o2 o3 o4 i => cell_al4 l1x4 o1 o2 o3 o4 i
  have HO1 := Lib.hid O1
  clear O1 hb1
  go_wp2_with fail
  refine (HR.out _).mono ?_
  rintro e w2 ⟨rfl, hb2⟩
  have O2 := Own.grow' hb2 (Own.new (Own.new (Own.new HO1.out (w1.heap.size) (by first | rfl | simp)) (w1.heap.size + 1) (by simp)) (w1.heap.size + 1 + 1) (by simp))
  try simp only [List.setIfInBounds_toArray, List.set_cons_zero, List.set_cons_succ] at O2
  have bw2 : Below w.heap.size w w2 := Below.trans (by go_grown) (Below.mono hb2 (by first | omega | (simp; done) | (simp; omega)))
  have zw2 := Below.size hb2
  try simp only [World.size_alloc, World.size_drew, World.size_setCell] at zw2
  clear c1x0 f1x0 l1x0 l1x0d0 l1x0d1 l1x0d2 l1x0d3 a1x0 a1x0' c1x1 f1x1 l1x1 l1x1d0 l1x1d1 l1x1d2 l1x1d3 a1x1 a1x1' c1x2 f1x2 l1x2 l1x2d0 l1x2d1 l1x2d2 l1x2d3 a1x2 a1x2' c1x3 f1x3 l1x3 l1x3d0 l1x3d1 l1x3d2 l1x3d3 a1x3 a1x3' c1x4 f1x4 l1x4 l1x4d0 l1x4d1 l1x4d2 l1x4d3 a1x4 a1x4'
  have c2x0 := Own.cell O2 0 rfl
  have f2x0 := Own.free O2 0 rfl
  have l2x0 := Own.lt O2 0 rfl
  have l2x0d0 := le_up 0 l2x0
  have l2x0d1 := le_up 1 l2x0
  have l2x0d2 := le_up 2 l2x0
  have l2x0d3 := le_up 3 l2x0
  simp only [upN] at l2x0d0 l2x0d1 l2x0d2 l2x0d3
  have a2x0 := fun o1 o2 o3 i => cell_al3 l2x0 o1 o2 o3 i
  have a2x0' := fun o1 o2 o3 o4 i => cell_al4 l2x0 o1 o2 o3 o4 i
  have c2x1 := Own.cell O2 1 rfl
  have f2x1 := Own.free O2 1 rfl
  have l2x1 := Own.lt O2 1 rfl
  have l2x1d0 := le_up 0 l2x1
  have l2x1d1 := le_up 1 l2x1
  have l2x1d2 := le_up 2 l2x1
  have l2x1d3 := le_up 3 l2x1
  simp only [upN] at l2x1d0 l2x1d1 l2x1d2 l2x1d3
  have a2x1 := fun o1 o2 o3 i => cell_al3 l2x1 o1 o2 o3 i
  have a2x1' := fun o1 o2 o3 o4 i => cell_al4 l2x1 o1 o2 o3 o4 i
  have c2x2 := Own.cell O2 2 rfl
  have f2x2 := Own.free O2 2 rfl
  have l2x2 := Own.lt O2 2 rfl
  have l2x2d0 := le_up 0 l2x2
  have l2x2d1 := le_up 1 l2x2
  have l2x2d2 := le_up 2 l2x2
  have l2x2d3 := le_up 3 l2x2
  simp only [upN] at l2x2d0 l2x2d1 l2x2d2 l2x2d3
  have a2x2 := fun o1 o2 o3 i => cell_al3 l2x2 o1 o2 o3 i
  have a2x2' := fun o1 o2 o3 o4 i => cell_al4 l2x2 o1 o2 o3 o4 i
  have c2x3 := Own.cell O2 3 rfl
  have f2x3 := Own.free O2 3 rfl
  have l2x3 := Own.lt O2 3 rfl
  have l2x3d0 := le_up 0 l2x3
  have l2x3d1 := le_up 1 l2x3
  have l2x3d2 := le_up 2 l2x3
  have l2x3d3 := le_up 3 l2x3
  simp only [upN] at l2x3d0 l2x3d1 l2x3d2 l2x3d3
  have a2x3 := fun o1 o2 o3 i => cell_al3 l2x3 o1 o2 o3 i
  have a2x3' := fun o1 o2 o3 o4 i => cell_al4 l2x3 o1 o2 o3 o4 i
  have c2x4 := Own.cell O2 4 rfl
  have f2x4 := Own.free O2 4 rfl
  have l2x4 := Own.lt O2 4 rfl
  have l2x4d0 := le_up 0 l2x4
  have l2x4d1 := le_up 1 l2x4
  have l2x4d2 := le_up 2 l2x4
  have l2x4d3 := le_up 3 l2x4
  simp only [upN] at l2x4d0 l2x4d1 l2x4d2 l2x4d3
  have a2x4 := fun o1 o2 o3 i => cell_al3 l2x4 o1 o2 o3 i
  have a2x4' := fun o1 o2 o3 o4 i => cell_al4 l2x4 o1 o2 o3 o4 i
  have c2x5 := Own.cell O2 5 rfl
  have f2x5 := Own.free O2 5 rfl
  have l2x5 := Own.lt O2 5 rfl
  have l2x5d0 := le_up 0 l2x5
  have l2x5d1 := le_up 1 l2x5
  have l2x5d2 := le_up 2 l2x5
  have l2x5d3 := le_up 3 l2x5
  simp only [upN] at l2x5d0 l2x5d1 l2x5d2 l2x5d3
  have a2x5 := fun o1 o2 o3 i => cell_al3 l2x5 o1 o2 o3 i
  have a2x5' := fun o1 o2 o3 o4 i => cell_al4 l2x5 o1 o2 o3 o4 i
  have c2x6 := Own.cell O2 6 rfl
  have f2x6 := Own.free O2 6 rfl
  have l2x6 := Own.lt O2 6 rfl
  have l2x6d0 := le_up 0 l2x6
  have l2x6d1 := le_up 1 l2x6
  have l2x6d2 := le_up 2 l2x6
  have l2x6d3 := le_up 3 l2x6
  simp only [upN] at l2x6d0 l2x6d1 l2x6d2 l2x6d3
  have a2x6 := fun o1 o2 o3 i => cell_al3 l2x6 o1 o2 o3 i
  have a2x6' := fun o1 o2 o3 o4 i => cell_al4 l2x6 o1 o2 o3 o4 i
  have c2x7 := Own.cell O2 7 rfl
  have f2x7 := Own.free O2 7 rfl
  have l2x7 := Own.lt O2 7 rfl
  have l2x7d0 := le_up 0 l2x7
  have l2x7d1 := le_up 1 l2x7
  have l2x7d2 := le_up 2 l2x7
  have l2x7d3 := le_up 3 l2x7
  simp only [upN] at l2x7d0 l2x7d1 l2x7d2 l2x7d3
  have a2x7 := fun o1 o2 o3 i => cell_al3 l2x7 o1 o2 o3 i
  have a2x7' := fun o1 o2 o3 o4 i => cell_al4 l2x7 o1 o2 o3 o4 i
  have HO2 := Lib.hid O2
  clear O2 hb2
  go_wp2_with fail
  all_goals (first | (go_step3; refine ⟨rfl, ?_⟩) | skip)
  go_upto_region 5 with (fail)
  refine wp_name fun Vn hVn => ?_
  have hOVn := (show Own _ Vn by rw [hVn]; exact (Own.set (Own.set (Own.set (Own.set HO2.out 3 rfl (Ne1.cons (by first | omega | (simp; omega)) (Ne1.cons (by first | omega | (simp; omega)) (Ne1.cons (by first | omega | (simp; omega)) (Ne1.cons (by first | omega | (simp; omega)) (Ne1.cons (by first | omega | (simp; omega)) (Ne1.cons (by first | omega | (simp; omega)) (Ne1.cons (by first | omega | (simp; omega)) Ne1.nil)))))))) 3 rfl (Ne1.cons (by first | omega | (simp; omega)) (Ne1.cons (by first | omega | (simp; omega)) (Ne1.cons (by first | omega | (simp; omega)) (Ne1.cons (by first | omega | (simp; omega)) (Ne1.cons (by first | omega | (simp; omega)) (Ne1.cons (by first | omega | (simp; omega)) (Ne1.cons (by first | omega | (simp; omega)) Ne1.nil)))))))) 3 rfl (Ne1.cons (by first | omega | (simp; omega)) (Ne1.cons (by first | omega | (simp; omega)) (Ne1.cons (by first | omega | (simp; omega)) (Ne1.cons (by first | omega | (simp; omega)) (Ne1.cons (by first | omega | (simp; omega)) (Ne1.cons (by first | omega | (simp; omega)) (Ne1.cons (by first | omega | (simp; omega)) Ne1.nil)))))))) 3 rfl (Ne1.cons (by first | omega | (simp; omega)) (Ne1.cons (by first | omega | (simp; omega)) (Ne1.cons (by first | omega | (simp; omega)) (Ne1.cons (by first | omega | (simp; omega)) (Ne1.cons (by first | omega | (simp; omega)) (Ne1.cons (by first | omega | (simp; omega)) (Ne1.cons (by first | omega | (simp; omega)) Ne1.nil)))))))))
  try simp only [List.setIfInBounds_toArray, List.set_cons_zero, List.set_cons_succ] at hOVn
  have hBVn : Below w.heap.size w Vn := by rw [hVn]; go_grown
  clear hVn
  have bw3 := hBVn
  clear c2x0 f2x0 l2x0 l2x0d0 l2x0d1 l2x0d2 l2x0d3 a2x0 a2x0' c2x1 f2x1 l2x1 l2x1d0 l2x1d1 l2x1d2 l2x1d3 a2x1 a2x1' c2x2 f2x2 l2x2 l2x2d0 l2x2d1 l2x2d2 l2x2d3 a2x2 a2x2' c2x3 f2x3 l2x3 l2x3d0 l2x3d1 l2x3d2 l2x3d3 a2x3 a2x3' c2x4 f2x4 l2x4 l2x4d0 l2x4d1 l2x4d2 l2x4d3 a2x4 a2x4' c2x5 f2x5 l2x5 l2x5d0 l2x5d1 l2x5d2 l2x5d3 a2x5 a2x5' c2x6 f2x6 l2x6 l2x6d0 l2x6d1 l2x6d2 l2x6d3 a2x6 a2x6' c2x7 f2x7 l2x7 l2x7d0 l2x7d1 l2x7d2 l2x7d3 a2x7 a2x7'
  have O3 := hOVn
  have c3x0 := Own.cell O3 0 rfl
  have f3x0 := Own.free O3 0 rfl
  have l3x0 := Own.lt O3 0 rfl
  have l3x0d0 := le_up 0 l3x0
  have l3x0d1 := le_up 1 l3x0
  have l3x0d2 := le_up 2 l3x0
  have l3x0d3 := le_up 3 l3x0
  simp only [upN] at l3x0d0 l3x0d1 l3x0d2 l3x0d3
  have c3x1 := Own.cell O3 1 rfl
  have f3x1 := Own.free O3 1 rfl
  have l3x1 := Own.lt O3 1 rfl
  have l3x1d0 := le_up 0 l3x1
  have l3x1d1 := le_up 1 l3x1
  have l3x1d2 := le_up 2 l3x1
  have l3x1d3 := le_up 3 l3x1
  simp only [upN] at l3x1d0 l3x1d1 l3x1d2 l3x1d3
  have c3x2 := Own.cell O3 2 rfl
  have f3x2 := Own.free O3 2 rfl
  have l3x2 := Own.lt O3 2 rfl
  have l3x2d0 := le_up 0 l3x2
  have l3x2d1 := le_up 1 l3x2
  have l3x2d2 := le_up 2 l3x2
  have l3x2d3 := le_up 3 l3x2
  simp only [upN] at l3x2d0 l3x2d1 l3x2d2 l3x2d3
  have c3x3 := Own.cell O3 3 rfl
  have f3x3 := Own.free O3 3 rfl
  have l3x3 := Own.lt O3 3 rfl
  have l3x3d0 := le_up 0 l3x3
  have l3x3d1 := le_up 1 l3x3
  have l3x3d2 := le_up 2 l3x3
  have l3x3d3 := le_up 3 l3x3
  simp only [upN] at l3x3d0 l3x3d1 l3x3d2 l3x3d3
  have c3x4 := Own.cell O3 4 rfl
  have f3x4 := Own.free O3 4 rfl
  have l3x4 := Own.lt O3 4 rfl
  have l3x4d0 := le_up 0 l3x4
  have l3x4d1 := le_up 1 l3x4
  have l3x4d2 := le_up 2 l3x4
  have l3x4d3 := le_up 3 l3x4
  simp only [upN] at l3x4d0 l3x4d1 l3x4d2 l3x4d3
  have c3x5 := Own.cell O3 5 rfl
  have f3x5 := Own.free O3 5 rfl
  have l3x5 := Own.lt O3 5 rfl
  have l3x5d0 := le_up 0 l3x5
  have l3x5d1 := le_up 1 l3x5
  have l3x5d2 := le_up 2 l3x5
  have l3x5d3 := le_up 3 l3x5
  simp only [upN] at l3x5d0 l3x5d1 l3x5d2 l3x5d3
  have c3x6 := Own.cell O3 6 rfl
  have f3x6 := Own.free O3 6 rfl
  have l3x6 := Own.lt O3 6 rfl
  have l3x6d0 := le_up 0 l3x6
  have l3x6d1 := le_up 1 l3x6
  have l3x6d2 := le_up 2 l3x6
  have l3x6d3 := le_up 3 l3x6
  simp only [upN] at l3x6d0 l3x6d1 l3x6d2 l3x6d3
  have c3x7 := Own.cell O3 7 rfl
  have f3x7 := Own.free O3 7 rfl
  have l3x7 := Own.lt O3 7 rfl
  have l3x7d0 := le_up 0 l3x7
  have l3x7d1 := le_up 1 l3x7
  have l3x7d2 := le_up 2 l3x7
  have l3x7d3 := le_up 3 l3x7
  simp only [upN] at l3x7d0 l3x7d1 l3x7d2 l3x7d3
  have HO3 := Lib.hid O3
  clear O3
  go_wp2_with fail
  all_goals (try rw [Exit.noGoto_ret])
  refine bodyPost_ret (v := .tuple #[.agg #[.int .u64 0, .int .u64 0, .int .u64 0, .int .u64 0], .int .i64 2]) (by simp [results, Try.results13, go_sem, *]) rfl ?_
  exact ⟨rfl, by go_grown⟩

set_option maxHeartbeats 4000000 in
set_option maxRecDepth 20000 in
theorem refRefund_n (g c0 c1 c2 : Kn) (x y z : Vl) (w : World)
    (hc : ∀ V : World, Calls Try.prog 7 #[.bool false, .agg #[.int .u64 x.a, .int .u64 x.b, .int .u64 x.c, .int .u64 x.d, .int .u64 x.l], .agg #[.int .u64 y.a, .int .u64 y.b, .int .u64 y.c, .int .u64 y.d, .int .u64 y.l], .agg #[.int .u64 z.a, .int .u64 z.b, .int .u64 z.c, .int .u64 z.d, .int .u64 z.l]] V fun e w' => e = .returned (.tuple #[.agg #[.int .u64 c0.l, .int .u64 c0.lo, .int .u64 c0.hi, .int .u64 c0.a], .agg #[.int .u64 c1.l, .int .u64 c1.lo, .int .u64 c1.hi, .int .u64 c1.a], .agg #[.int .u64 c2.l, .int .u64 c2.lo, .int .u64 c2.hi, .int .u64 c2.a]]) ∧ Below V.heap.size V w')
    (hr : ∀ V : World, Calls Try.prog 30 #[.agg #[.int .u64 g.l, .int .u64 g.lo, .int .u64 g.hi, .int .u64 g.a], .agg #[.int .u64 c1.l, .int .u64 c1.lo, .int .u64 c1.hi, .int .u64 c1.a]] V fun e w' => e = .returned (.tuple #[.agg #[.int .u64 0, .int .u64 0, .int .u64 0, .int .u64 0], .int .i64 2]) ∧ Below V.heap.size V w') :
    Calls Try.prog 14 #[.agg #[.int .u64 g.l, .int .u64 g.lo, .int .u64 g.hi, .int .u64 g.a], .agg #[.int .u64 x.a, .int .u64 x.b, .int .u64 x.c, .int .u64 x.d, .int .u64 x.l], .agg #[.int .u64 y.a, .int .u64 y.b, .int .u64 y.c, .int .u64 y.d, .int .u64 y.l], .agg #[.int .u64 z.a, .int .u64 z.b, .int .u64 z.c, .int .u64 z.d, .int .u64 z.l]] w fun e w' => e = .returned (.tuple #[.agg #[.int .u64 0, .int .u64 0, .int .u64 0, .int .u64 0], .int .i64 2]) ∧ Below w.heap.size w w' := by
  have HC := Lib.hid hc
  have HR := Lib.hid hr
  clear hc hr
  go_enter Try.func14, Try.ntmps14
  go_wp2_with fail
  refine (HC.out _).mono ?_
  rintro e w1 ⟨rfl, hb1⟩
  have O1 := Own.grow' hb1 (Own.new (Own.new (Own.new (Own.new (Own.new (Own.nil w) (w.heap.size) (by first | rfl | simp)) (w.heap.size + 1) (by simp)) (w.heap.size + 1 + 1) (by simp)) (w.heap.size + 1 + 1 + 1) (by simp)) (w.heap.size + 1 + 1 + 1 + 1) (by simp))
  try simp only [List.setIfInBounds_toArray, List.set_cons_zero, List.set_cons_succ] at O1
  have bw1 : Below w.heap.size w w1 := Below.trans (by go_grown) (Below.mono hb1 (by first | omega | (simp; done) | (simp; omega)))
  have zw1 := Below.size hb1
  try simp only [World.size_alloc, World.size_drew, World.size_setCell] at zw1
  have c1x0 := Own.cell O1 0 rfl
  have f1x0 := Own.free O1 0 rfl
  have l1x0 := Own.lt O1 0 rfl
  have l1x0d0 := le_up 0 l1x0
  have l1x0d1 := le_up 1 l1x0
  have l1x0d2 := le_up 2 l1x0
  have l1x0d3 := le_up 3 l1x0
  simp only [upN] at l1x0d0 l1x0d1 l1x0d2 l1x0d3
  have a1x0 := fun o1 o2 o3 i => cell_al3 l1x0 o1 o2 o3 i
  have a1x0' := fun o1 o2 o3 o4 i => cell_al4 l1x0 o1 o2 o3 o4 i
  have c1x1 := Own.cell O1 1 rfl
  have f1x1 := Own.free O1 1 rfl
  have l1x1 := Own.lt O1 1 rfl
  have l1x1d0 := le_up 0 l1x1
  have l1x1d1 := le_up 1 l1x1
  have l1x1d2 := le_up 2 l1x1
  have l1x1d3 := le_up 3 l1x1
  simp only [upN] at l1x1d0 l1x1d1 l1x1d2 l1x1d3
  have a1x1 := fun o1 o2 o3 i => cell_al3 l1x1 o1 o2 o3 i
  have a1x1' := fun o1 o2 o3 o4 i => cell_al4 l1x1 o1 o2 o3 o4 i
  have c1x2 := Own.cell O1 2 rfl
  have f1x2 := Own.free O1 2 rfl
  have l1x2 := Own.lt O1 2 rfl
  have l1x2d0 := le_up 0 l1x2
  have l1x2d1 := le_up 1 l1x2
  have l1x2d2 := le_up 2 l1x2
  have l1x2d3 := le_up 3 l1x2
  simp only [upN] at l1x2d0 l1x2d1 l1x2d2 l1x2d3
  have a1x2 := fun o1 o2 o3 i => cell_al3 l1x2 o1 o2 o3 i
  have a1x2' := fun o1 o2 o3 o4 i => cell_al4 l1x2 o1 o2 o3 o4 i
  have c1x3 := Own.cell O1 3 rfl
  have f1x3 := Own.free O1 3 rfl
  have l1x3 := Own.lt O1 3 rfl
  have l1x3d0 := le_up 0 l1x3
  have l1x3d1 := le_up 1 l1x3
  have l1x3d2 := le_up 2 l1x3
  have l1x3d3 := le_up 3 l1x3
  simp only [upN] at l1x3d0 l1x3d1 l1x3d2 l1x3d3
  have a1x3 := fun o1 o2 o3 i => cell_al3 l1x3 o1 o2 o3 i
  have a1x3' := fun o1 o2 o3 o4 i => cell_al4 l1x3 o1 o2 o3 o4 i
  have c1x4 := Own.cell O1 4 rfl
  have f1x4 := Own.free O1 4 rfl
  have l1x4 := Own.lt O1 4 rfl
  have l1x4d0 := le_up 0 l1x4
  have l1x4d1 := le_up 1 l1x4
  have l1x4d2 := le_up 2 l1x4
  have l1x4d3 := le_up 3 l1x4
  simp only [upN] at l1x4d0 l1x4d1 l1x4d2 l1x4d3
  have a1x4 := fun o1 o2 o3 i => cell_al3 l1x4 o1 o2 o3 i
  have a1x4' := fun o1 o2 o3 o4 i => cell_al4 l1x4 o1 o2 o3 o4 i
  have HO1 := Lib.hid O1
  clear O1 hb1
  go_wp2_with fail
  refine (HR.out _).mono ?_
  rintro e w2 ⟨rfl, hb2⟩
  have O2 := Own.grow' hb2 (Own.new (Own.new (Own.new HO1.out (w1.heap.size) (by first | rfl | simp)) (w1.heap.size + 1) (by simp)) (w1.heap.size + 1 + 1) (by simp))
  try simp only [List.setIfInBounds_toArray, List.set_cons_zero, List.set_cons_succ] at O2
  have bw2 : Below w.heap.size w w2 := Below.trans (by go_grown) (Below.mono hb2 (by first | omega | (simp; done) | (simp; omega)))
  have zw2 := Below.size hb2
  try simp only [World.size_alloc, World.size_drew, World.size_setCell] at zw2
  clear c1x0 f1x0 l1x0 l1x0d0 l1x0d1 l1x0d2 l1x0d3 a1x0 a1x0' c1x1 f1x1 l1x1 l1x1d0 l1x1d1 l1x1d2 l1x1d3 a1x1 a1x1' c1x2 f1x2 l1x2 l1x2d0 l1x2d1 l1x2d2 l1x2d3 a1x2 a1x2' c1x3 f1x3 l1x3 l1x3d0 l1x3d1 l1x3d2 l1x3d3 a1x3 a1x3' c1x4 f1x4 l1x4 l1x4d0 l1x4d1 l1x4d2 l1x4d3 a1x4 a1x4'
  have c2x0 := Own.cell O2 0 rfl
  have f2x0 := Own.free O2 0 rfl
  have l2x0 := Own.lt O2 0 rfl
  have l2x0d0 := le_up 0 l2x0
  have l2x0d1 := le_up 1 l2x0
  have l2x0d2 := le_up 2 l2x0
  have l2x0d3 := le_up 3 l2x0
  simp only [upN] at l2x0d0 l2x0d1 l2x0d2 l2x0d3
  have a2x0 := fun o1 o2 o3 i => cell_al3 l2x0 o1 o2 o3 i
  have a2x0' := fun o1 o2 o3 o4 i => cell_al4 l2x0 o1 o2 o3 o4 i
  have c2x1 := Own.cell O2 1 rfl
  have f2x1 := Own.free O2 1 rfl
  have l2x1 := Own.lt O2 1 rfl
  have l2x1d0 := le_up 0 l2x1
  have l2x1d1 := le_up 1 l2x1
  have l2x1d2 := le_up 2 l2x1
  have l2x1d3 := le_up 3 l2x1
  simp only [upN] at l2x1d0 l2x1d1 l2x1d2 l2x1d3
  have a2x1 := fun o1 o2 o3 i => cell_al3 l2x1 o1 o2 o3 i
  have a2x1' := fun o1 o2 o3 o4 i => cell_al4 l2x1 o1 o2 o3 o4 i
  have c2x2 := Own.cell O2 2 rfl
  have f2x2 := Own.free O2 2 rfl
  have l2x2 := Own.lt O2 2 rfl
  have l2x2d0 := le_up 0 l2x2
  have l2x2d1 := le_up 1 l2x2
  have l2x2d2 := le_up 2 l2x2
  have l2x2d3 := le_up 3 l2x2
  simp only [upN] at l2x2d0 l2x2d1 l2x2d2 l2x2d3
  have a2x2 := fun o1 o2 o3 i => cell_al3 l2x2 o1 o2 o3 i
  have a2x2' := fun o1 o2 o3 o4 i => cell_al4 l2x2 o1 o2 o3 o4 i
  have c2x3 := Own.cell O2 3 rfl
  have f2x3 := Own.free O2 3 rfl
  have l2x3 := Own.lt O2 3 rfl
  have l2x3d0 := le_up 0 l2x3
  have l2x3d1 := le_up 1 l2x3
  have l2x3d2 := le_up 2 l2x3
  have l2x3d3 := le_up 3 l2x3
  simp only [upN] at l2x3d0 l2x3d1 l2x3d2 l2x3d3
  have a2x3 := fun o1 o2 o3 i => cell_al3 l2x3 o1 o2 o3 i
  have a2x3' := fun o1 o2 o3 o4 i => cell_al4 l2x3 o1 o2 o3 o4 i
  have c2x4 := Own.cell O2 4 rfl
  have f2x4 := Own.free O2 4 rfl
  have l2x4 := Own.lt O2 4 rfl
  have l2x4d0 := le_up 0 l2x4
  have l2x4d1 := le_up 1 l2x4
  have l2x4d2 := le_up 2 l2x4
  have l2x4d3 := le_up 3 l2x4
  simp only [upN] at l2x4d0 l2x4d1 l2x4d2 l2x4d3
  have a2x4 := fun o1 o2 o3 i => cell_al3 l2x4 o1 o2 o3 i
  have a2x4' := fun o1 o2 o3 o4 i => cell_al4 l2x4 o1 o2 o3 o4 i
  have c2x5 := Own.cell O2 5 rfl
  have f2x5 := Own.free O2 5 rfl
  have l2x5 := Own.lt O2 5 rfl
  have l2x5d0 := le_up 0 l2x5
  have l2x5d1 := le_up 1 l2x5
  have l2x5d2 := le_up 2 l2x5
  have l2x5d3 := le_up 3 l2x5
  simp only [upN] at l2x5d0 l2x5d1 l2x5d2 l2x5d3
  have a2x5 := fun o1 o2 o3 i => cell_al3 l2x5 o1 o2 o3 i
  have a2x5' := fun o1 o2 o3 o4 i => cell_al4 l2x5 o1 o2 o3 o4 i
  have c2x6 := Own.cell O2 6 rfl
  have f2x6 := Own.free O2 6 rfl
  have l2x6 := Own.lt O2 6 rfl
  have l2x6d0 := le_up 0 l2x6
  have l2x6d1 := le_up 1 l2x6
  have l2x6d2 := le_up 2 l2x6
  have l2x6d3 := le_up 3 l2x6
  simp only [upN] at l2x6d0 l2x6d1 l2x6d2 l2x6d3
  have a2x6 := fun o1 o2 o3 i => cell_al3 l2x6 o1 o2 o3 i
  have a2x6' := fun o1 o2 o3 o4 i => cell_al4 l2x6 o1 o2 o3 o4 i
  have c2x7 := Own.cell O2 7 rfl
  have f2x7 := Own.free O2 7 rfl
  have l2x7 := Own.lt O2 7 rfl
  have l2x7d0 := le_up 0 l2x7
  have l2x7d1 := le_up 1 l2x7
  have l2x7d2 := le_up 2 l2x7
  have l2x7d3 := le_up 3 l2x7
  simp only [upN] at l2x7d0 l2x7d1 l2x7d2 l2x7d3
  have a2x7 := fun o1 o2 o3 i => cell_al3 l2x7 o1 o2 o3 i
  have a2x7' := fun o1 o2 o3 o4 i => cell_al4 l2x7 o1 o2 o3 o4 i
  have HO2 := Lib.hid O2
  clear O2 hb2
  go_wp2_with fail
  refine bodyPost_ret (v := .tuple #[.agg #[.int .u64 0, .int .u64 0, .int .u64 0, .int .u64 0], .int .i64 2]) (by simp [results, Try.results14, go_sem, *]) rfl ?_
  exact ⟨rfl, by go_grown⟩

def moK (x y z : Vl) : Kn := ⟨exM x y z, bdI (exM x y z) 0 (lab3 x y z), bdI (exM x y z) 19900 (lab3 x y z), lab3 x y z⟩
def leK (x y z : Vl) : Kn := ⟨exL x y z, bdI (exL x y z) 0 (lab3 x y z), bdI (exL x y z) 4800 (lab3 x y z), lab3 x y z⟩
def sumK (g h : Kn) : Kn := ⟨g.l + h.l, g.lo + h.lo, g.hi + h.hi, madeA (g.lo + h.lo) (g.hi + h.hi) (orI g.a h.a)⟩
def lowK (g c : Kn) : Kn := ⟨g.l - c.l, g.lo - min g.lo c.hi, g.hi - c.lo, madeA (g.lo - min g.lo c.hi) (g.hi - c.lo) (orI g.a c.a)⟩
def refOk (g : Kn) (x y z : Vl) : Bool := addOk g (moK x y z) && (((sumK g (moK x y z)).ok && (leK x y z).ok) && decide ((leK x y z).l ≤ (sumK g (moK x y z)).l))
def refK (g : Kn) (x y z : Vl) : Kn := lowK (sumK g (moK x y z)) (leK x y z)
def refV (g : Kn) (x y z : Vl) : Value := if refOk g x y z then .tuple #[.agg #[.int .u64 (refK g x y z).l, .int .u64 (refK g x y z).lo, .int .u64 (refK g x y z).hi, .int .u64 (refK g x y z).a], .int .i64 0] else .tuple #[.agg #[.int .u64 0, .int .u64 0, .int .u64 0, .int .u64 0], .int .i64 2]
def Tame (g : Kn) : Prop := U g.hi ∧ 0 ≤ g.lo ∧ U g.a
theorem orU (x y : Int) : U (orI x y) := by
  unfold orI U
  show 0 ≤ IntKind.u64.wrap _ ∧ IntKind.u64.wrap _ ≤ _
  rw [IntKind.wrap_u64]; omega
theorem madeU {lo hi a : Int} (h : U a) : U (madeA lo hi a) := by
  unfold madeA; split
  · exact ⟨by omega, by omega⟩
  · exact h
theorem mo_bd (x y z : Vl) : U (moK x y z).hi ∧ 0 ≤ (moK x y z).lo := by
  have := exM_bd x y z
  unfold moK U bdI; dsimp only; constructor <;> split <;> omega
theorem le_bd (x y z : Vl) : 0 ≤ (leK x y z).lo := by
  have := exL_bd x y z
  unfold leK bdI; dsimp only; split <;> omega
theorem sum_tame {g : Kn} (hg : Tame g) (x y z : Vl) : 0 ≤ (sumK g (moK x y z)).lo ∧ U (sumK g (moK x y z)).a := by
  have := (mo_bd x y z).2
  have := hg.2.1
  exact ⟨by unfold sumK; dsimp only; omega, madeU (orU _ _)⟩
theorem refund_any (g : Kn) (x y z : Vl) (w : World) (hg : Tame g) :
    Calls Try.prog 13 #[.agg #[.int .u64 g.l, .int .u64 g.lo, .int .u64 g.hi, .int .u64 g.a], .agg #[.int .u64 x.a, .int .u64 x.b, .int .u64 x.c, .int .u64 x.d, .int .u64 x.l], .agg #[.int .u64 y.a, .int .u64 y.b, .int .u64 y.c, .int .u64 y.d, .int .u64 y.l], .agg #[.int .u64 z.a, .int .u64 z.b, .int .u64 z.c, .int .u64 z.d, .int .u64 z.l]] w fun e w' => e = .returned (refV g x y z) ∧ Below w.heap.size w w' := by
  have hr := fun V : World => raise_any g (moK x y z) V ⟨hg.1, (mo_bd x y z).1⟩ ⟨hg.2.1, (mo_bd x y z).2⟩ hg.2.2
  have hs := sum_tame hg x y z
  have hl := fun V : World => lower_any (sumK g (moK x y z)) (leK x y z) V ⟨hs.1, le_bd x y z⟩ hs.2
  unfold addVal at hr
  unfold lowVal at hl
  unfold refV refOk
  rcases h1 : addOk g (moK x y z) with _ | _
  · rw [h1] at hr
    exact refund_n g ⟨_, _, _, _⟩ (moK x y z) (leK x y z) x y z w (fun V => change_any false x y z V) hr
  · rw [h1] at hr
    rcases h2 : ((sumK g (moK x y z)).ok && (leK x y z).ok) && decide ((leK x y z).l ≤ (sumK g (moK x y z)).l) with _ | _
    · rw [h2] at hl
      exact refund_y g ⟨_, _, _, _⟩ (moK x y z) (leK x y z) (sumK g (moK x y z)) ⟨0, 0, 0, 0⟩ 2 x y z w (fun V => change_any false x y z V) hr hl
    · rw [h2] at hl
      exact refund_y g ⟨_, _, _, _⟩ (moK x y z) (leK x y z) (sumK g (moK x y z)) (refK g x y z) 0 x y z w (fun V => change_any false x y z V) hr hl
theorem refRefund_any (g : Kn) (x y z : Vl) (w : World) (hg : Tame g) (hU : U x.l) :
    Calls Try.prog 14 #[.agg #[.int .u64 g.l, .int .u64 g.lo, .int .u64 g.hi, .int .u64 g.a], .agg #[.int .u64 x.a, .int .u64 x.b, .int .u64 x.c, .int .u64 x.d, .int .u64 x.l], .agg #[.int .u64 y.a, .int .u64 y.b, .int .u64 y.c, .int .u64 y.d, .int .u64 y.l], .agg #[.int .u64 z.a, .int .u64 z.b, .int .u64 z.c, .int .u64 z.d, .int .u64 z.l]] w fun e w' => e = .returned (refV g x y z) ∧ Below w.heap.size w w' := by
  have hr := fun V : World => refRaise_any g (moK x y z) V ⟨hg.2.1, (mo_bd x y z).2⟩ hg.2.2
  have hs := sum_tame hg x y z
  have hl := fun V : World => refLower_any (sumK g (moK x y z)) (leK x y z) V ⟨hs.1, le_bd x y z⟩
  unfold addVal at hr
  unfold lowVal at hl
  unfold refV refOk
  rcases h1 : addOk g (moK x y z) with _ | _
  · rw [h1] at hr
    exact refRefund_n g ⟨_, _, _, _⟩ (moK x y z) (leK x y z) x y z w (fun V => refChange_any false x y z V hU) hr
  · rw [h1] at hr
    rcases h2 : ((sumK g (moK x y z)).ok && (leK x y z).ok) && decide ((leK x y z).l ≤ (sumK g (moK x y z)).l) with _ | _
    · rw [h2] at hl
      exact refRefund_y g ⟨_, _, _, _⟩ (moK x y z) (leK x y z) (sumK g (moK x y z)) ⟨0, 0, 0, 0⟩ 2 x y z w (fun V => refChange_any false x y z V hU) hr hl
    · rw [h2] at hl
      exact refRefund_y g ⟨_, _, _, _⟩ (moK x y z) (leK x y z) (sumK g (moK x y z)) (refK g x y z) 0 x y z w (fun V => refChange_any false x y z V hU) hr hl
theorem okS (k : Kn) (h : k.ok = true) : k.lo ≤ k.l ∧ k.l ≤ k.hi ∧ k.hi ≤ 1099511627776 := by
  unfold Kn.ok rightB at h
  rw [Bool.and_eq_true] at h
  have h1 := h.1
  unfold sorted4 at h1
  simp only [Bool.and_eq_true, Bool.not_eq_true', decide_eq_false_iff_not] at h1
  omega
theorem ref_tame {g : Kn} {x y z : Vl} (hg : Tame g) (h : refOk g x y z = true) : Tame (refK g x y z) := by
  unfold refOk at h
  simp only [Bool.and_eq_true, decide_eq_true_eq] at h
  have h1 := okS _ h.2.1.1
  have h2 := okS _ h.2.1.2
  have h3 := sum_tame hg x y z
  have h4 := le_bd x y z
  refine ⟨?_, ?_, madeU (orU _ _)⟩
  · unfold refK lowK U; dsimp only; omega
  · unfold refK lowK; dsimp only; omega
end Go.Proofs.Ytiglfbnicihpmaa
