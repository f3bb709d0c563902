/- The law GaugeTakes: walks. -/
import Derived.Test.YtjmplababaejaaaGaugeTl
set_option linter.unusedVariables false
set_option linter.unusedSimpArgs false
namespace Go.Proofs.Ytjmplababaejaaa
open Go.RowKit
attribute [local go_sem] Oper.semAt_some

set_option maxHeartbeats 16000000 in
set_option maxRecDepth 100000 in
theorem takes_b1 (A : Option Addr) (g : Kn) (xs : List Kn) (cap : Nat) (many : Int) (w : World) (hS : SlAt w A (xs.flatMap Kn.cells)) (hcap : xs.length ≤ cap) (hn : xs.length ≤ 20) (hgo : g.ok = false) (hbad : (g :: xs).all Kn.ok = false) :
    Calls Try.prog 5 #[.agg #[.int .u64 g.l, .int .u64 g.lo, .int .u64 g.hi, .int .u64 g.a], .slice A xs.length cap, .int .i64 many] w fun e w' => e = .returned (.bool true) ∧ Below w.heap.size w w' := by
  have qF := run_eql_func_nil Try.underlying54
  have HX := Lib.hid (fun (W : World) (hb : Below w.heap.size w W) => hS.below rfl hb)
  have HEA := Lib.hid (fun (W : World) (hW : SlAt W A (xs.flatMap Kn.cells)) => eachNone_any A g xs cap W hW (by omega) hbad)
  have hrg := fun V : World => refRight_any g.l g.lo g.hi g.a V
  rw [show rightB g.l g.lo g.hi g.a = false from hgo] at hrg
  have HRG := Lib.hid hrg
  have HTN := Lib.hid (fun (y : Kn) (h : (g.ok && y.ok) = false) (V : World) => take_bad g y V h)
  have HCK := Lib.hid (fun (V : World) (hV : SlAt V A (xs.flatMap Kn.cells)) => check_bad g xs A cap V (by omega) hV hbad)
  clear hS hrg hbad
  generalize hln : xs.length = ln at *
  have d101 : decide ((20 : Int) < ln) = false := by simp <;> omega
  refine calls_marks Try.func5 rfl ?_
  simp only [Try.ntmps5, List.size_toArray, List.length_cons, List.length_nil, Nat.reduceAdd, Nat.reduceSub, Array.replicate_succ, Array.replicate_zero, List.push_toArray, List.append_toArray, List.nil_append, List.cons_append]
  go_wp2_with fail
  refine (HRG.out _).mono ?_
  rintro e w1 ⟨rfl, hb1⟩
  have O1 := Own.grow' hb1 (Own.new (Own.new (Own.new (Own.new (Own.nil w) (w.heap.size) (by first | rfl | simp)) (w.heap.size + 1) (by simp)) (w.heap.size + 1 + 1) (by simp)) (w.heap.size + 1 + 1 + 1) (by simp))
  try simp only [List.setIfInBounds_toArray, List.set_cons_zero, List.set_cons_succ] at O1
  have bw1 : Below w.heap.size w w1 := Below.trans (by go_grown) (Below.mono hb1 (by first | omega | (simp; done) | (simp; omega)))
  have zw1 := Below.size hb1
  try simp only [World.size_alloc, World.size_drew, World.size_setCell] at zw1
  have c1x0 := Own.cell O1 0 rfl
  have f1x0 := Own.free O1 0 rfl
  have l1x0 := Own.lt O1 0 rfl
  have l1x0d0 := le_up 0 l1x0
  have l1x0d1 := le_up 1 l1x0
  simp only [upN] at l1x0d0 l1x0d1
  have c1x1 := Own.cell O1 1 rfl
  have f1x1 := Own.free O1 1 rfl
  have l1x1 := Own.lt O1 1 rfl
  have l1x1d0 := le_up 0 l1x1
  have l1x1d1 := le_up 1 l1x1
  simp only [upN] at l1x1d0 l1x1d1
  have c1x2 := Own.cell O1 2 rfl
  have f1x2 := Own.free O1 2 rfl
  have l1x2 := Own.lt O1 2 rfl
  have l1x2d0 := le_up 0 l1x2
  have l1x2d1 := le_up 1 l1x2
  simp only [upN] at l1x2d0 l1x2d1
  have c1x3 := Own.cell O1 3 rfl
  have f1x3 := Own.free O1 3 rfl
  have l1x3 := Own.lt O1 3 rfl
  have l1x3d0 := le_up 0 l1x3
  have l1x3d1 := le_up 1 l1x3
  simp only [upN] at l1x3d0 l1x3d1
  have HO1 := Lib.hid O1
  clear O1 hb1
  go_wp2_with fail
  go_loopw [8] (fun i wr => TkRel2 (fun k => Own [(w1.heap.size, #[.bool false], 4), (w.heap.size + 1 + 1 + 1, #[.bool false], 4), (w.heap.size + 1 + 1, #[.int .i64 many], 3), (w.heap.size + 1, #[.slice A ln cap], 48), (w.heap.size, #[.int .u64 g.l, .int .u64 g.lo, .int .u64 g.hi, .int .u64 g.a], 25)]) ln w i wr) (fun i _ => ln - (intOf i).toNat)
  case atStart => exact ⟨0, Nat.zero_le _, rfl, Own.eqv (Own.new HO1.out (w1.heap.size) (by first | rfl | simp)) (by rfl), by go_grown⟩
  case round =>
    obtain ⟨k, hk, rfl, hO, hbr⟩ := hrel
    try dsimp only at hO
    by_cases hlt' : k < ln
    · skip
      have dk : decide ((k : Int) < ln) = true := by simp; omega
      obtain ⟨y, hy⟩ : ∃ y, xs[k]? = some y := ⟨xs[k]'(by rw [hln]; omega), by simp⟩
      have hne : (xs.flatMap Kn.cells)[k * 4 + 0]? = some (.int .u64 y.l) := (by rw [flat_at (f := Kn.cells) (n := 4) (fun _ => rfl) xs k y hy 0 (by omega)]; rfl)
      obtain ⟨b', off, rfl, hbl, hcell⟩ := (HX.out wr hbr).cell hne
      have hc0 : wr.cell? ⟨b', off + k * 4, none⟩ = some (.int .u64 y.l) := by have := hcell (k * 4 + 0) _ (by rw [flat_at (f := Kn.cells) (n := 4) (fun _ => rfl) xs k y hy 0 (by omega)]; rfl); simpa [Nat.add_assoc] using this
      have hc1 : wr.cell? ⟨b', off + k * 4 + 1, none⟩ = some (.int .u64 y.lo) := by have := hcell (k * 4 + 1) _ (by rw [flat_at (f := Kn.cells) (n := 4) (fun _ => rfl) xs k y hy 1 (by omega)]; rfl); simpa [Nat.add_assoc] using this
      have hc2 : wr.cell? ⟨b', off + k * 4 + 2, none⟩ = some (.int .u64 y.hi) := by have := hcell (k * 4 + 2) _ (by rw [flat_at (f := Kn.cells) (n := 4) (fun _ => rfl) xs k y hy 2 (by omega)]; rfl); simpa [Nat.add_assoc] using this
      have hc3 : wr.cell? ⟨b', off + k * 4 + 3, none⟩ = some (.int .u64 y.a) := by have := hcell (k * 4 + 3) _ (by rw [flat_at (f := Kn.cells) (n := 4) (fun _ => rfl) xs k y hy 3 (by omega)]; rfl); simpa [Nat.add_assoc] using this
      clear hcell hne
      have d2 : decide ((ln : Int) ≤ k) = false := by simp; omega
      have d2' : decide (ln ≤ k) = false := by simp; omega
      have hst := rKf_step hy
      have O3 := hO
      have c3x0 := Own.cell O3 0 rfl
      have f3x0 := Own.free O3 0 rfl
      have l3x0 := Own.lt O3 0 rfl
      have l3x0d0 := le_up 0 l3x0
      have l3x0d1 := le_up 1 l3x0
      simp only [upN] at l3x0d0 l3x0d1
      have c3x1 := Own.cell O3 1 rfl
      have f3x1 := Own.free O3 1 rfl
      have l3x1 := Own.lt O3 1 rfl
      have l3x1d0 := le_up 0 l3x1
      have l3x1d1 := le_up 1 l3x1
      simp only [upN] at l3x1d0 l3x1d1
      have c3x2 := Own.cell O3 2 rfl
      have f3x2 := Own.free O3 2 rfl
      have l3x2 := Own.lt O3 2 rfl
      have l3x2d0 := le_up 0 l3x2
      have l3x2d1 := le_up 1 l3x2
      simp only [upN] at l3x2d0 l3x2d1
      have c3x3 := Own.cell O3 3 rfl
      have f3x3 := Own.free O3 3 rfl
      have l3x3 := Own.lt O3 3 rfl
      have l3x3d0 := le_up 0 l3x3
      have l3x3d1 := le_up 1 l3x3
      simp only [upN] at l3x3d0 l3x3d1
      have c3x4 := Own.cell O3 4 rfl
      have f3x4 := Own.free O3 4 rfl
      have l3x4 := Own.lt O3 4 rfl
      have l3x4d0 := le_up 0 l3x4
      have l3x4d1 := le_up 1 l3x4
      simp only [upN] at l3x4d0 l3x4d1
      have HO3 := Lib.hid O3
      clear O3
      have hz0 := l3x0
      have hz1 := l3x1
      have hz2 := l3x2
      have hz3 := l3x3
      have hz4 := l3x4
      have HT := Lib.hid (HTN.out y (by simp [hgo]))
      have hrc := fun V : World => rightCost_is y V
      have HRC := Lib.hid hrc
      clear hrc
      go_wp2_with fail
      refine wp_region_grow wr.heap.size 14 2048 1024 [(0, 0, 137438953472, 8), (1, 0, 274877906944, 16), (2, 0, 549755813888, 256), (3, 6, 1099511627776, 824633720832), (4, 8, 2199023255552, 1099511627776), (5, 17, 4398046511104, 2336462209024), (6, 32, 68719476736, 4398046511104), (7, 64, 8796093022208, 68719476736), (8, 64, 17592186044416, 68719476736), (9, 64, 35184372088832, 68719476736), (10, 0, 512, 0), (11, 1279, 0, 8796093022720), (12, 3583, 1024, 17592186044416), (13, 8191, 2048, 35184372088832)] [(.p 0, 1), (.p 1, 3), (.p 2, 7), (.p 3, 15), (.q 4, 31), (.p 5, 63), (.p 6, 127), (.p 7, 255), (.p 8, 511), (.p 9, 1023), (.g 10, 2047), (.c 11, 4095), (.p 12, 8191), (.p 13, 16383)] [] _ (fun p hp => hp) (by first | omega | (simp; done) | (simp; omega)) (by kernel_rfl) (by kernel_rfl) HO3.out ?_
      refine wpG_pure (i := 0) (v := ?v4x0) rfl rfl (by rfl) (fun w hB hG K hK => ?h4x0) ?_
      case h4x0 =>
        have cx := Own.cell hG 4 rfl
        go_wp2_with fail
        exact hK _ (Below.refl _ _)
      simp only [List.set_cons_zero, List.set_cons_succ]
      refine wpG_pure (i := 1) (v := ?v4x1) rfl rfl (by rfl) (fun w hB hG K hK => ?h4x1) ?_
      case h4x1 =>
        have cx := Own.cell hG 3 rfl
        go_wp2_with fail
        exact hK _ (Below.refl _ _)
      simp only [List.set_cons_zero, List.set_cons_succ]
      refine wpG_move (i := 2) rfl rfl rfl (by rfl) rfl ?_
      simp only [List.set_cons_zero, List.set_cons_succ]
      refine wpG_pure (i := 3) (v := ?v4x3) rfl rfl (by rfl) (fun w hB hG K hK => ?h4x3) ?_
      case h4x3 =>
        go_wp2_with fail
        exact hK _ (Below.refl _ _)
      simp only [List.set_cons_zero, List.set_cons_succ]
      refine wpG_op (i := 4) (v := ?v4x4) rfl rfl (by rfl) (fun w hB hG K hK => ?h4x4) ?_
      case h4x4 =>
        have hx0 := (hB.cell (p := ⟨b', off + k * 4, none⟩) (World.block_lt_of_cell? wr _ hc0)).trans hc0
        have hx1 := (hB.cell (p := ⟨b', off + k * 4 + 1, none⟩) (World.block_lt_of_cell? wr _ hc1)).trans hc1
        have hx2 := (hB.cell (p := ⟨b', off + k * 4 + 2, none⟩) (World.block_lt_of_cell? wr _ hc2)).trans hc2
        have hx3 := (hB.cell (p := ⟨b', off + k * 4 + 3, none⟩) (World.block_lt_of_cell? wr _ hc3)).trans hc3
        go_wp2_with fail
        exact hK _ (Below.refl _ _)
      simp only [List.set_cons_zero, List.set_cons_succ]
      refine wpG_pure (i := 5) (v := ?v4x5) rfl rfl (by rfl) (fun w hB hG K hK => ?h4x5) ?_
      case h4x5 =>
        go_wp2_with fail
        refine (HT.out _).mono ?_
        rintro e wx ⟨rfl, hbx⟩
        exact hK _ hbx
      simp only [List.set_cons_zero, List.set_cons_succ]
      refine wpG_move (i := 6) rfl rfl rfl (by rfl) rfl ?_
      simp only [List.set_cons_zero, List.set_cons_succ]
      refine wpG_pure (i := 7) (v := ?v4x7) rfl rfl (by rfl) (fun w hB hG K hK => ?h4x7) ?_
      case h4x7 =>
        go_wp2_with fail
        exact hK _ (Below.refl _ _)
      simp only [List.set_cons_zero, List.set_cons_succ]
      refine wpG_pure (i := 8) (v := ?v4x8) rfl rfl (by rfl) (fun w hB hG K hK => ?h4x8) ?_
      case h4x8 =>
        go_wp2_with fail
        exact hK _ (Below.refl _ _)
      simp only [List.set_cons_zero, List.set_cons_succ]
      refine wpG_pure (i := 9) (v := ?v4x9) rfl rfl (by rfl) (fun w hB hG K hK => ?h4x9) ?_
      case h4x9 =>
        go_wp2_with fail
        exact hK _ (Below.refl _ _)
      simp only [List.set_cons_zero, List.set_cons_succ]
      refine wpG_make (i := 10) (c := ?c4x10) (t := ?t4x10) (fun b => .pointer (some ⟨b, 0, none⟩)) rfl rfl (by rfl) (fun w hB hG K hK => ?h4x10) (fun v4g1 l4g1 n4g1 => ?_)
      case h4x10 =>
        go_wp2_with fail
        exact hK
      simp only [List.set_cons_zero, List.set_cons_succ]
      try simp only [World.size_alloc, World.size_drew, World.size_setCell] at l4g1
      clear n4g1
      refine wpG_store (i := 11) (c' := ?c4x11) 0 rfl (Ne1.cons (by first | omega | (simp; omega)) (Ne1.cons (by first | omega | (simp; omega)) (Ne1.cons (by first | omega | (simp; omega)) (Ne1.cons (by first | omega | (simp; omega)) (Ne1.cons (by first | omega | (simp; omega)) Ne1.nil))))) (by first | omega | (simp; omega)) (fun p hp => List.mem_cons_of_mem _ (hp)) rfl rfl (by rfl) (fun w hB hF hG K hK => ?h4x11) ?_
      case h4x11 =>
        have cx := hF.cell
        have fx := hF.free
        go_wp2_with fail
        refine hK _ (Same.set (Same.set (Same.set (Same.set (Same.refl _ _) _ _) _ _) _ _) _ _) ?_
        exact (Blk.set (Blk.set (Blk.set (Blk.set hF _ _) _ _) _ _) _ _)
      simp only [List.set_cons_zero, List.set_cons_succ, List.setIfInBounds_toArray]
      refine wpG_assign (i := 12) rfl rfl rfl (by rfl) rfl ?_
      simp only [List.set_cons_zero, List.set_cons_succ]
      refine wpG_assign (i := 13) rfl rfl rfl (by rfl) rfl ?_
      simp only [List.set_cons_zero, List.set_cons_succ]
      refine wpG_nil (fun w4 hb4 hG4 => ?_)
      simp only [List.append_eq, List.cons_append, List.nil_append, List.drop_succ_cons, List.drop_zero, List.drop_nil]
      have u4g1 := Own.lt hG4 0 rfl
      have O4 := Own.of hG4
      try simp only [List.setIfInBounds_toArray, List.set_cons_zero, List.set_cons_succ] at O4
      have bw4 : Below w.heap.size w w4 := Below.trans (by go_grown) (Below.mono hb4 (by first | omega | (simp; done) | (simp; omega)))
      have zw4 := Below.size hb4
      try simp only [World.size_alloc, World.size_drew, World.size_setCell] at zw4
      have hwc4 : Below wr.heap.size wr w4 := Below.trans (by go_grown) (Below.mono hb4 (by first | omega | (simp; done) | (simp; omega)))
      clear c3x0 f3x0 l3x0 l3x0d0 l3x0d1 c3x1 f3x1 l3x1 l3x1d0 l3x1d1 c3x2 f3x2 l3x2 l3x2d0 l3x2d1 c3x3 f3x3 l3x3 l3x3d0 l3x3d1 c3x4 f3x4 l3x4 l3x4d0 l3x4d1
      have c4x0 := Own.cell O4 0 rfl
      have f4x0 := Own.free O4 0 rfl
      have l4x0 := Own.lt O4 0 rfl
      have l4x0d0 := le_up 0 l4x0
      have l4x0d1 := le_up 1 l4x0
      simp only [upN] at l4x0d0 l4x0d1
      have c4x1 := Own.cell O4 1 rfl
      have f4x1 := Own.free O4 1 rfl
      have l4x1 := Own.lt O4 1 rfl
      have l4x1d0 := le_up 0 l4x1
      have l4x1d1 := le_up 1 l4x1
      simp only [upN] at l4x1d0 l4x1d1
      have c4x2 := Own.cell O4 2 rfl
      have f4x2 := Own.free O4 2 rfl
      have l4x2 := Own.lt O4 2 rfl
      have l4x2d0 := le_up 0 l4x2
      have l4x2d1 := le_up 1 l4x2
      simp only [upN] at l4x2d0 l4x2d1
      have c4x3 := Own.cell O4 3 rfl
      have f4x3 := Own.free O4 3 rfl
      have l4x3 := Own.lt O4 3 rfl
      have l4x3d0 := le_up 0 l4x3
      have l4x3d1 := le_up 1 l4x3
      simp only [upN] at l4x3d0 l4x3d1
      have c4x4 := Own.cell O4 4 rfl
      have f4x4 := Own.free O4 4 rfl
      have l4x4 := Own.lt O4 4 rfl
      have l4x4d0 := le_up 0 l4x4
      have l4x4d1 := le_up 1 l4x4
      simp only [upN] at l4x4d0 l4x4d1
      have c4x5 := Own.cell O4 5 rfl
      have f4x5 := Own.free O4 5 rfl
      have l4x5 := Own.lt O4 5 rfl
      have l4x5d0 := le_up 0 l4x5
      have l4x5d1 := le_up 1 l4x5
      simp only [upN] at l4x5d0 l4x5d1
      have HO4 := Lib.hid O4
      clear O4 hb4
      replace hc0 := (hwc4.cell (p := ⟨b', off + k * 4, none⟩) (World.block_lt_of_cell? wr _ hc0)).trans hc0
      replace hc1 := (hwc4.cell (p := ⟨b', off + k * 4 + 1, none⟩) (World.block_lt_of_cell? wr _ hc1)).trans hc1
      replace hc2 := (hwc4.cell (p := ⟨b', off + k * 4 + 2, none⟩) (World.block_lt_of_cell? wr _ hc2)).trans hc2
      replace hc3 := (hwc4.cell (p := ⟨b', off + k * 4 + 3, none⟩) (World.block_lt_of_cell? wr _ hc3)).trans hc3
      go_wp2_with fail
      refine (HRG.out _).mono ?_
      rintro e w5 ⟨rfl, hb5⟩
      have O5 := Own.grow' hb5 HO4.out
      try simp only [List.setIfInBounds_toArray, List.set_cons_zero, List.set_cons_succ] at O5
      have bw5 : Below w.heap.size w w5 := Below.trans (by go_grown) (Below.mono hb5 (by first | omega | (simp; done) | (simp; omega)))
      have zw5 := Below.size hb5
      try simp only [World.size_alloc, World.size_drew, World.size_setCell] at zw5
      have hwc5 : Below w4.heap.size w4 w5 := Below.trans (by go_grown) (Below.mono hb5 (by first | omega | (simp; done) | (simp; omega)))
      clear c4x0 f4x0 l4x0 l4x0d0 l4x0d1 c4x1 f4x1 l4x1 l4x1d0 l4x1d1 c4x2 f4x2 l4x2 l4x2d0 l4x2d1 c4x3 f4x3 l4x3 l4x3d0 l4x3d1 c4x4 f4x4 l4x4 l4x4d0 l4x4d1 c4x5 f4x5 l4x5 l4x5d0 l4x5d1
      have c5x0 := Own.cell O5 0 rfl
      have f5x0 := Own.free O5 0 rfl
      have l5x0 := Own.lt O5 0 rfl
      have l5x0d0 := le_up 0 l5x0
      have l5x0d1 := le_up 1 l5x0
      simp only [upN] at l5x0d0 l5x0d1
      have c5x1 := Own.cell O5 1 rfl
      have f5x1 := Own.free O5 1 rfl
      have l5x1 := Own.lt O5 1 rfl
      have l5x1d0 := le_up 0 l5x1
      have l5x1d1 := le_up 1 l5x1
      simp only [upN] at l5x1d0 l5x1d1
      have c5x2 := Own.cell O5 2 rfl
      have f5x2 := Own.free O5 2 rfl
      have l5x2 := Own.lt O5 2 rfl
      have l5x2d0 := le_up 0 l5x2
      have l5x2d1 := le_up 1 l5x2
      simp only [upN] at l5x2d0 l5x2d1
      have c5x3 := Own.cell O5 3 rfl
      have f5x3 := Own.free O5 3 rfl
      have l5x3 := Own.lt O5 3 rfl
      have l5x3d0 := le_up 0 l5x3
      have l5x3d1 := le_up 1 l5x3
      simp only [upN] at l5x3d0 l5x3d1
      have c5x4 := Own.cell O5 4 rfl
      have f5x4 := Own.free O5 4 rfl
      have l5x4 := Own.lt O5 4 rfl
      have l5x4d0 := le_up 0 l5x4
      have l5x4d1 := le_up 1 l5x4
      simp only [upN] at l5x4d0 l5x4d1
      have c5x5 := Own.cell O5 5 rfl
      have f5x5 := Own.free O5 5 rfl
      have l5x5 := Own.lt O5 5 rfl
      have l5x5d0 := le_up 0 l5x5
      have l5x5d1 := le_up 1 l5x5
      simp only [upN] at l5x5d0 l5x5d1
      have HO5 := Lib.hid O5
      clear O5 hb5
      replace hc0 := (hwc5.cell (p := ⟨b', off + k * 4, none⟩) (World.block_lt_of_cell? w4 _ hc0)).trans hc0
      replace hc1 := (hwc5.cell (p := ⟨b', off + k * 4 + 1, none⟩) (World.block_lt_of_cell? w4 _ hc1)).trans hc1
      replace hc2 := (hwc5.cell (p := ⟨b', off + k * 4 + 2, none⟩) (World.block_lt_of_cell? w4 _ hc2)).trans hc2
      replace hc3 := (hwc5.cell (p := ⟨b', off + k * 4 + 3, none⟩) (World.block_lt_of_cell? w4 _ hc3)).trans hc3
      have hn1 : ¬ v4g1 = w1.heap.size := by omega
      have hn2 : ¬ w1.heap.size = v4g1 := by omega
      go_wp2_with fail
      refine (num_any _ _).mono ?_
      rintro e w' ⟨rfl, rfl⟩
      go_wp2_with fail
      exact ⟨⟨k + 1, by omega, by go_num, Own.eqv (Own.tl (Own.set HO5.out 1 rfl (Ne1.cons (by first | omega | (simp; omega)) (Ne1.cons (by first | omega | (simp; omega)) (Ne1.cons (by first | omega | (simp; omega)) (Ne1.cons (by first | omega | (simp; omega)) (Ne1.cons (by first | omega | (simp; omega)) Ne1.nil))))))) (by simp only [List.setIfInBounds_toArray, List.set_cons_zero, List.set_cons_succ]), by go_grown⟩, by simp [intOf]; omega⟩
    · obtain rfl : ln = k := by omega
      have dk : decide ((ln : Int) < ln) = false := by simp
      have hSl := HX.out wr hbr
      have O6 := hO
      have c6x0 := Own.cell O6 0 rfl
      have f6x0 := Own.free O6 0 rfl
      have l6x0 := Own.lt O6 0 rfl
      have l6x0d0 := le_up 0 l6x0
      have l6x0d1 := le_up 1 l6x0
      simp only [upN] at l6x0d0 l6x0d1
      have c6x1 := Own.cell O6 1 rfl
      have f6x1 := Own.free O6 1 rfl
      have l6x1 := Own.lt O6 1 rfl
      have l6x1d0 := le_up 0 l6x1
      have l6x1d1 := le_up 1 l6x1
      simp only [upN] at l6x1d0 l6x1d1
      have c6x2 := Own.cell O6 2 rfl
      have f6x2 := Own.free O6 2 rfl
      have l6x2 := Own.lt O6 2 rfl
      have l6x2d0 := le_up 0 l6x2
      have l6x2d1 := le_up 1 l6x2
      simp only [upN] at l6x2d0 l6x2d1
      have c6x3 := Own.cell O6 3 rfl
      have f6x3 := Own.free O6 3 rfl
      have l6x3 := Own.lt O6 3 rfl
      have l6x3d0 := le_up 0 l6x3
      have l6x3d1 := le_up 1 l6x3
      simp only [upN] at l6x3d0 l6x3d1
      have c6x4 := Own.cell O6 4 rfl
      have f6x4 := Own.free O6 4 rfl
      have l6x4 := Own.lt O6 4 rfl
      have l6x4d0 := le_up 0 l6x4
      have l6x4d1 := le_up 1 l6x4
      simp only [upN] at l6x4d0 l6x4d1
      have HO6 := Lib.hid O6
      clear O6
      clear hlt' hk
      go_wp2_with fail
      refine wp_region_grow wr.heap.size 18 0 0 [(0, 0, 79228162514264337593543950336, 8), (1, 0, 158456325028528675187087900672, 16), (2, 3, 316912650057057350374175801344, 237684487542793012780631851008), (3, 4, 633825300114114700748351602688, 316912650057057350374175801344), (4, 8, 1267650600228229401496703205376, 633825300114114700748351602688), (5, 0, 2535301200456458802993406410752, 128), (6, 48, 5070602400912917605986812821504, 3802951800684688204490109616128), (7, 72, 10141204801825835211973625643008, 5070602400912917605986812821504), (8, 128, 20282409603651670423947251286016, 10141204801825835211973625643136), (9, 384, 40564819207303340847894502572032, 30423614405477505635920876929024), (10, 640, 81129638414606681695789005144064, 50706024009129176059868128215040), (11, 1024, 162259276829213363391578010288128, 81129638414606681695789005144072), (12, 1024, 324518553658426726783156020576256, 81129638414606681695789005144080), (13, 7168, 649037107316853453566312041152512, 567907468902246771870523036008448), (14, 9216, 1298074214633706907132624082305024, 730166745731460135262101046296576), (15, 17408, 2596148429267413814265248164610048, 1379203853048313588828413087449088), (16, 33920, 5192296858534827628530496329220096, 2687419272483846331173010795397120), (17, 65664, 10384593717069655257060992658440192, 5202438063336653463742469954863104)] [(.p 0, 1), (.p 1, 3), (.p 2, 7), (.p 3, 15), (.p 4, 31), (.p 5, 63), (.p 6, 127), (.p 7, 255), (.p 8, 511), (.p 9, 1023), (.p 10, 2047), (.p 11, 4095), (.p 12, 8191), (.p 13, 16383), (.p 14, 32767), (.p 15, 65535), (.p 16, 131071), (.p 17, 262143)] [] _ (fun p hp => hp) (by first | omega | (simp; done) | (simp; omega)) (by kernel_rfl) (by kernel_rfl) HO6.out ?_
      refine wpG_pure (i := 0) (v := ?v7x0) rfl rfl (by rfl) (fun w hB hG K hK => ?h7x0) ?_
      case h7x0 =>
        have cx := Own.cell hG 4 rfl
        go_wp2_with fail
        exact hK _ (Below.refl _ _)
      simp only [List.set_cons_zero, List.set_cons_succ]
      refine wpG_pure (i := 1) (v := ?v7x1) rfl rfl (by rfl) (fun w hB hG K hK => ?h7x1) ?_
      case h7x1 =>
        have cx := Own.cell hG 3 rfl
        go_wp2_with fail
        exact hK _ (Below.refl _ _)
      simp only [List.set_cons_zero, List.set_cons_succ]
      refine wpG_pure (i := 2) (v := ?v7x2) rfl rfl (by rfl) (fun w hB hG K hK => ?h7x2) ?_
      case h7x2 =>
        go_wp2_with fail
        refine (HCK.out _ (SlAt.grow hSl (Below.trans (show Below _ _ _ by go_grown) hB))).mono ?_
        rintro e wx ⟨rfl, hbx⟩
        exact hK _ hbx
      simp only [List.set_cons_zero, List.set_cons_succ]
      refine wpG_pure (i := 3) (v := ?v7x3) rfl rfl (by rfl) (fun w hB hG K hK => ?h7x3) ?_
      case h7x3 =>
        go_wp2_with fail
        refine (num_any _ _).mono ?_
        rintro e wx ⟨rfl, rfl⟩
        exact hK _ (Below.refl _ _)
      simp only [List.set_cons_zero, List.set_cons_succ]
      refine wpG_pure (i := 4) (v := ?v7x4) rfl rfl (by rfl) (fun w hB hG K hK => ?h7x4) ?_
      case h7x4 =>
        go_wp2_with fail
        exact hK _ (Below.refl _ _)
      simp only [List.set_cons_zero, List.set_cons_succ]
      refine wpG_pure (i := 5) (v := ?v7x5) rfl rfl (by rfl) (fun w hB hG K hK => ?h7x5) ?_
      case h7x5 =>
        have cx := Own.cell hG 0 rfl
        go_wp2_with fail
        exact hK _ (Below.refl _ _)
      simp only [List.set_cons_zero, List.set_cons_succ]
      refine wpG_pure (i := 6) (v := ?v7x6) rfl rfl (by rfl) (fun w hB hG K hK => ?h7x6) ?_
      case h7x6 =>
        go_wp2_with fail
        exact hK _ (Below.refl _ _)
      simp only [List.set_cons_zero, List.set_cons_succ]
      refine wpG_move (i := 7) rfl rfl rfl (by rfl) rfl ?_
      simp only [List.set_cons_zero, List.set_cons_succ]
      refine wpG_pure (i := 8) (v := ?v7x8) rfl rfl (by rfl) (fun w hB hG K hK => ?h7x8) ?_
      case h7x8 =>
        have cx := Own.cell hG 0 rfl
        go_wp2_with fail
        exact hK _ (Below.refl _ _)
      simp only [List.set_cons_zero, List.set_cons_succ]
      refine wpG_pure (i := 9) (v := ?v7x9) rfl rfl (by rfl) (fun w hB hG K hK => ?h7x9) ?_
      case h7x9 =>
        go_wp2_with fail
        exact hK _ (Below.refl _ _)
      simp only [List.set_cons_zero, List.set_cons_succ]
      refine wpG_move (i := 10) rfl rfl rfl (by rfl) rfl ?_
      simp only [List.set_cons_zero, List.set_cons_succ]
      refine wpG_pure (i := 11) (v := ?v7x11) rfl rfl (by rfl) (fun w hB hG K hK => ?h7x11) ?_
      case h7x11 =>
        have cx := Own.cell hG 4 rfl
        go_wp2_with fail
        exact hK _ (Below.refl _ _)
      simp only [List.set_cons_zero, List.set_cons_succ]
      refine wpG_pure (i := 12) (v := ?v7x12) rfl rfl (by rfl) (fun w hB hG K hK => ?h7x12) ?_
      case h7x12 =>
        have cx := Own.cell hG 3 rfl
        go_wp2_with fail
        exact hK _ (Below.refl _ _)
      simp only [List.set_cons_zero, List.set_cons_succ]
      refine wpG_pure (i := 13) (v := ?v7x13) rfl rfl (by rfl) (fun w hB hG K hK => ?h7x13) ?_
      case h7x13 =>
        go_wp2_with fail
        refine (HCK.out _ (SlAt.grow hSl (Below.trans (show Below _ _ _ by go_grown) hB))).mono ?_
        rintro e wx ⟨rfl, hbx⟩
        exact hK _ hbx
      simp only [List.set_cons_zero, List.set_cons_succ]
      refine wpG_pure (i := 14) (v := ?v7x14) rfl rfl (by rfl) (fun w hB hG K hK => ?h7x14) ?_
      case h7x14 =>
        go_wp2_with fail
        refine (num_any _ _).mono ?_
        rintro e wx ⟨rfl, rfl⟩
        exact hK _ (Below.refl _ _)
      simp only [List.set_cons_zero, List.set_cons_succ]
      refine wpG_pure (i := 15) (v := ?v7x15) rfl rfl (by rfl) (fun w hB hG K hK => ?h7x15) ?_
      case h7x15 =>
        go_wp2_with fail
        exact hK _ (Below.refl _ _)
      simp only [List.set_cons_zero, List.set_cons_succ]
      refine wpG_pure (i := 16) (v := ?v7x16) rfl rfl (by rfl) (fun w hB hG K hK => ?h7x16) ?_
      case h7x16 =>
        go_wp2_with fail
        exact hK _ (Below.refl _ _)
      simp only [List.set_cons_zero, List.set_cons_succ]
      refine wpG_pure (i := 17) (v := ?v7x17) rfl rfl (by rfl) (fun w hB hG K hK => ?h7x17) ?_
      case h7x17 =>
        go_wp2_with fail
        exact hK _ (Below.refl _ _)
      simp only [List.set_cons_zero, List.set_cons_succ]
      refine wpG_nil (fun w7 hb7 hG7 => ?_)
      simp only [List.append_eq, List.cons_append, List.nil_append, List.drop_succ_cons, List.drop_zero, List.drop_nil]
      have O7 := Own.of hG7
      try simp only [List.setIfInBounds_toArray, List.set_cons_zero, List.set_cons_succ] at O7
      have bw7 : Below w.heap.size w w7 := Below.trans (by go_grown) (Below.mono hb7 (by first | omega | (simp; done) | (simp; omega)))
      have zw7 := Below.size hb7
      try simp only [World.size_alloc, World.size_drew, World.size_setCell] at zw7
      have hwc7 : Below wr.heap.size wr w7 := Below.trans (by go_grown) (Below.mono hb7 (by first | omega | (simp; done) | (simp; omega)))
      clear c6x0 f6x0 l6x0 l6x0d0 l6x0d1 c6x1 f6x1 l6x1 l6x1d0 l6x1d1 c6x2 f6x2 l6x2 l6x2d0 l6x2d1 c6x3 f6x3 l6x3 l6x3d0 l6x3d1 c6x4 f6x4 l6x4 l6x4d0 l6x4d1
      have c7x0 := Own.cell O7 0 rfl
      have f7x0 := Own.free O7 0 rfl
      have l7x0 := Own.lt O7 0 rfl
      have l7x0d0 := le_up 0 l7x0
      have l7x0d1 := le_up 1 l7x0
      simp only [upN] at l7x0d0 l7x0d1
      have c7x1 := Own.cell O7 1 rfl
      have f7x1 := Own.free O7 1 rfl
      have l7x1 := Own.lt O7 1 rfl
      have l7x1d0 := le_up 0 l7x1
      have l7x1d1 := le_up 1 l7x1
      simp only [upN] at l7x1d0 l7x1d1
      have c7x2 := Own.cell O7 2 rfl
      have f7x2 := Own.free O7 2 rfl
      have l7x2 := Own.lt O7 2 rfl
      have l7x2d0 := le_up 0 l7x2
      have l7x2d1 := le_up 1 l7x2
      simp only [upN] at l7x2d0 l7x2d1
      have c7x3 := Own.cell O7 3 rfl
      have f7x3 := Own.free O7 3 rfl
      have l7x3 := Own.lt O7 3 rfl
      have l7x3d0 := le_up 0 l7x3
      have l7x3d1 := le_up 1 l7x3
      simp only [upN] at l7x3d0 l7x3d1
      have c7x4 := Own.cell O7 4 rfl
      have f7x4 := Own.free O7 4 rfl
      have l7x4 := Own.lt O7 4 rfl
      have l7x4d0 := le_up 0 l7x4
      have l7x4d1 := le_up 1 l7x4
      simp only [upN] at l7x4d0 l7x4d1
      have HO7 := Lib.hid O7
      clear O7 hb7
      have hSl2 := SlAt.grow hSl hwc7
      go_wp2_with fail
      refine (HEA.out _ (SlAt.grow hSl2 (by go_grown))).mono ?_
      rintro e w8 ⟨bk, bk2, n0, rfl, hn0, hseq, hb8⟩
      have O8 := Own.grow' hb8 HO7.out
      try simp only [List.setIfInBounds_toArray, List.set_cons_zero, List.set_cons_succ] at O8
      have bw8 : Below w.heap.size w w8 := Below.trans (by go_grown) (Below.mono hb8 (by first | omega | (simp; done) | (simp; omega)))
      have zw8 := Below.size hb8
      try simp only [World.size_alloc, World.size_drew, World.size_setCell] at zw8
      clear c7x0 f7x0 l7x0 l7x0d0 l7x0d1 c7x1 f7x1 l7x1 l7x1d0 l7x1d1 c7x2 f7x2 l7x2 l7x2d0 l7x2d1 c7x3 f7x3 l7x3 l7x3d0 l7x3d1 c7x4 f7x4 l7x4 l7x4d0 l7x4d1
      have c8x0 := Own.cell O8 0 rfl
      have f8x0 := Own.free O8 0 rfl
      have l8x0 := Own.lt O8 0 rfl
      have l8x0d0 := le_up 0 l8x0
      have l8x0d1 := le_up 1 l8x0
      simp only [upN] at l8x0d0 l8x0d1
      have c8x1 := Own.cell O8 1 rfl
      have f8x1 := Own.free O8 1 rfl
      have l8x1 := Own.lt O8 1 rfl
      have l8x1d0 := le_up 0 l8x1
      have l8x1d1 := le_up 1 l8x1
      simp only [upN] at l8x1d0 l8x1d1
      have c8x2 := Own.cell O8 2 rfl
      have f8x2 := Own.free O8 2 rfl
      have l8x2 := Own.lt O8 2 rfl
      have l8x2d0 := le_up 0 l8x2
      have l8x2d1 := le_up 1 l8x2
      simp only [upN] at l8x2d0 l8x2d1
      have c8x3 := Own.cell O8 3 rfl
      have f8x3 := Own.free O8 3 rfl
      have l8x3 := Own.lt O8 3 rfl
      have l8x3d0 := le_up 0 l8x3
      have l8x3d1 := le_up 1 l8x3
      simp only [upN] at l8x3d0 l8x3d1
      have c8x4 := Own.cell O8 4 rfl
      have f8x4 := Own.free O8 4 rfl
      have l8x4 := Own.lt O8 4 rfl
      have l8x4d0 := le_up 0 l8x4
      have l8x4d1 := le_up 1 l8x4
      simp only [upN] at l8x4d0 l8x4d1
      have HO8 := Lib.hid O8
      clear O8 hb8
      subst hn0
      have HSEQ := Lib.hid hseq
      clear hseq
      go_wp2_with fail
      refine wp_loop_rounds 3 ?_
      rw [rounds_succ]
      go_wp2_with fail
      refine wp_name fun WL0 hWL0 => ?_
      have zWL0 : WL0.heap.size = w8.heap.size + 3 := by rw [hWL0]; simp
      have hbWL0 : Below w.heap.size w WL0 := by rw [hWL0]; go_grown
      have hkS0 : Keep (fun k => k < w8.heap.size) w8 WL0 := by rw [hWL0]; exact (Keep.alloc (Keep.alloc (Keep.alloc (Keep.refl (fun k => k < w8.heap.size) w8) _) _) _)
      have hoL0 := Lib.hid (show Own _ WL0 by rw [hWL0]; exact (Own.new (Own.new (Own.new HO8.out (w8.heap.size) (by first | rfl | simp)) (w8.heap.size + 1) (by simp)) (w8.heap.size + 1 + 1) (by simp)))
      clear hWL0
      have hI0 : AnyFrom WL0.heap.size (EI (fun (k : Nat) => [(w8.heap.size + 1 + 1, #[.int .i64 0], 3), (w8.heap.size + 1, #[.int .u64 g.l, .int .u64 g.lo, .int .u64 g.hi, .int .u64 g.a], 25), (w8.heap.size, #[.int .i64 0], 3), (w1.heap.size, #[.bool false], 4), (w.heap.size + 1 + 1 + 1, #[.bool false], 4), (w.heap.size + 1 + 1, #[.int .i64 many], 3), (w.heap.size + 1, #[.slice A ln cap], 48), (w.heap.size, #[.int .u64 g.l, .int .u64 g.lo, .int .u64 g.hi, .int .u64 g.a], 25)]) w.heap.size w [] (fun k => k < w8.heap.size) w8) := EI.any (by simp only [List.mem_cons, List.not_mem_nil, or_false, forall_eq, forall_eq_or_imp]; first | omega | exact fun _ h => h.elim | simp) (by simp only [List.mem_cons, List.not_mem_nil, or_false, forall_eq, forall_eq_or_imp]; first | omega | exact fun _ h => h.elim | simp) (Nat.le_refl _) (by have := hbWL0.size; omega) (fun k hk => by first | omega | (dsimp only at hk; omega))
      refine wp_each_block (w0 := w8) (S := (fun k => k < w8.heap.size)) (xs := ([] : List Kn)) (encs := encG) rfl (enters_of Try.func51 (by kernel_rfl) rfl) HSEQ.out (fun k hk => by first | omega | (dsimp only at hk; omega)) hkS0 (fun _ _ => rfl) (fun k V => EI (fun (k : Nat) => [(w8.heap.size + 1 + 1, #[.int .i64 0], 3), (w8.heap.size + 1, #[.int .u64 g.l, .int .u64 g.lo, .int .u64 g.hi, .int .u64 g.a], 25), (w8.heap.size, #[.int .i64 0], 3), (w1.heap.size, #[.bool false], 4), (w.heap.size + 1 + 1 + 1, #[.bool false], 4), (w.heap.size + 1 + 1, #[.int .i64 many], 3), (w.heap.size + 1, #[.slice A ln cap], 48), (w.heap.size, #[.int .u64 g.l, .int .u64 g.lo, .int .u64 g.hi, .int .u64 g.a], 25)]) w.heap.size w [] (fun k => k < w8.heap.size) w8 k V) (fun k V => False) ?hI0 ?hIx0 ?h00 ?round0 ?hend0
      case hI0 => exact hI0
      case hIx0 => exact fun k V V2 row h hg hr => h
      case h00 => exact ⟨hoL0.out, hbWL0, fun D h => (by cases h), hkS0⟩
      case round0 =>
        rintro l' k x V hx hE hl'
        simp at hx
      case hend0 =>
        intro k0 V0 hend hD0
        obtain ⟨hk, hO, hb0, hDD, hkV0⟩ : k0 = 0 ∧ EI (fun (k : Nat) => [(w8.heap.size + 1 + 1, #[.int .i64 0], 3), (w8.heap.size + 1, #[.int .u64 g.l, .int .u64 g.lo, .int .u64 g.hi, .int .u64 g.a], 25), (w8.heap.size, #[.int .i64 0], 3), (w1.heap.size, #[.bool false], 4), (w.heap.size + 1 + 1 + 1, #[.bool false], 4), (w.heap.size + 1 + 1, #[.int .i64 many], 3), (w.heap.size + 1, #[.slice A ln cap], 48), (w.heap.size, #[.int .u64 g.l, .int .u64 g.lo, .int .u64 g.hi, .int .u64 g.a], 25)]) w.heap.size w [] (fun k => k < w8.heap.size) w8 k0 V0 := by
          rw [List.length_nil] at hend
          rcases hend with ⟨h1, h3⟩ | ⟨h1, h3⟩
          · exact ⟨by omega, h3⟩
          · exact h3.elim
        clear hend hDD
        have O9 := hO
        have c9x0 := Own.cell O9 0 rfl
        have f9x0 := Own.free O9 0 rfl
        have l9x0 := Own.lt O9 0 rfl
        have l9x0d0 := le_up 0 l9x0
        have l9x0d1 := le_up 1 l9x0
        simp only [upN] at l9x0d0 l9x0d1
        have c9x1 := Own.cell O9 1 rfl
        have f9x1 := Own.free O9 1 rfl
        have l9x1 := Own.lt O9 1 rfl
        have l9x1d0 := le_up 0 l9x1
        have l9x1d1 := le_up 1 l9x1
        simp only [upN] at l9x1d0 l9x1d1
        have c9x2 := Own.cell O9 2 rfl
        have f9x2 := Own.free O9 2 rfl
        have l9x2 := Own.lt O9 2 rfl
        have l9x2d0 := le_up 0 l9x2
        have l9x2d1 := le_up 1 l9x2
        simp only [upN] at l9x2d0 l9x2d1
        have c9x3 := Own.cell O9 3 rfl
        have f9x3 := Own.free O9 3 rfl
        have l9x3 := Own.lt O9 3 rfl
        have l9x3d0 := le_up 0 l9x3
        have l9x3d1 := le_up 1 l9x3
        simp only [upN] at l9x3d0 l9x3d1
        have c9x4 := Own.cell O9 4 rfl
        have f9x4 := Own.free O9 4 rfl
        have l9x4 := Own.lt O9 4 rfl
        have l9x4d0 := le_up 0 l9x4
        have l9x4d1 := le_up 1 l9x4
        simp only [upN] at l9x4d0 l9x4d1
        have c9x5 := Own.cell O9 5 rfl
        have f9x5 := Own.free O9 5 rfl
        have l9x5 := Own.lt O9 5 rfl
        have l9x5d0 := le_up 0 l9x5
        have l9x5d1 := le_up 1 l9x5
        simp only [upN] at l9x5d0 l9x5d1
        have c9x6 := Own.cell O9 6 rfl
        have f9x6 := Own.free O9 6 rfl
        have l9x6 := Own.lt O9 6 rfl
        have l9x6d0 := le_up 0 l9x6
        have l9x6d1 := le_up 1 l9x6
        simp only [upN] at l9x6d0 l9x6d1
        have c9x7 := Own.cell O9 7 rfl
        have f9x7 := Own.free O9 7 rfl
        have l9x7 := Own.lt O9 7 rfl
        have l9x7d0 := le_up 0 l9x7
        have l9x7d1 := le_up 1 l9x7
        simp only [upN] at l9x7d0 l9x7d1
        have HO9 := Lib.hid O9
        clear O9
        have hbV0 := hb0
        clear hb0
        have zV0 : WL0.heap.size < V0.heap.size := (Array.getElem?_eq_some_iff.1 hD0).1
        go_wp2_with fail
        rw [rounds_succ]
        go_wp2_with fail
        refine wp_name fun WL1 hWL1 => ?_
        have zWL1 : WL1.heap.size = V0.heap.size + 3 := by rw [hWL1]; simp
        have hbWL1 : Below w.heap.size w WL1 := by rw [hWL1]; go_grown
        have hkS1 : Keep (fun k => k < w8.heap.size) w8 WL1 := by rw [hWL1]; exact (Keep.alloc (Keep.alloc (Keep.alloc hkV0 _) _) _)
        have hoL1 := Lib.hid (show Own _ WL1 by rw [hWL1]; exact (Own.new (Own.new (Own.new HO9.out (V0.heap.size) (by first | rfl | simp)) (V0.heap.size + 1) (by simp)) (V0.heap.size + 1 + 1) (by simp)))
        have hD0L : WL1.heap[WL0.heap.size]? = some (.deferred (some [])) := by rw [hWL1]; exact ((((KeepsOthers.refl _).trans (KeepsOthers.alloc _ _)).trans (KeepsOthers.alloc _ _)).trans (KeepsOthers.alloc _ _)).same _ _ hD0 rfl
        clear hWL1
        have hI1 : AnyFrom WL1.heap.size (EI (fun (k : Nat) => [(V0.heap.size + 1 + 1, #[.int .i64 0], 3), (V0.heap.size + 1, #[.int .u64 g.l, .int .u64 g.lo, .int .u64 g.hi, .int .u64 g.a], 25), (V0.heap.size, #[.int .i64 1], 3), (w8.heap.size + 1 + 1, #[.int .i64 0], 3), (w8.heap.size + 1, #[.int .u64 g.l, .int .u64 g.lo, .int .u64 g.hi, .int .u64 g.a], 25), (w8.heap.size, #[.int .i64 0], 3), (w1.heap.size, #[.bool false], 4), (w.heap.size + 1 + 1 + 1, #[.bool false], 4), (w.heap.size + 1 + 1, #[.int .i64 many], 3), (w.heap.size + 1, #[.slice A ln cap], 48), (w.heap.size, #[.int .u64 g.l, .int .u64 g.lo, .int .u64 g.hi, .int .u64 g.a], 25)]) w.heap.size w [WL0.heap.size] (fun k => k < w8.heap.size) w8) := EI.any (by simp only [List.mem_cons, List.not_mem_nil, or_false, forall_eq, forall_eq_or_imp]; first | omega | exact fun _ h => h.elim | simp) (by simp only [List.mem_cons, List.not_mem_nil, or_false, forall_eq, forall_eq_or_imp]; first | omega | exact fun _ h => h.elim | simp) (Nat.le_refl _) (by have := hbWL1.size; omega) (fun k hk => by first | omega | (dsimp only at hk; omega))
        refine wp_each_block (w0 := w8) (S := (fun k => k < w8.heap.size)) (xs := ([] : List Kn)) (encs := encG) rfl (enters_of Try.func51 (by kernel_rfl) rfl) HSEQ.out (fun k hk => by first | omega | (dsimp only at hk; omega)) hkS1 (fun _ _ => rfl) (fun k V => EI (fun (k : Nat) => [(V0.heap.size + 1 + 1, #[.int .i64 0], 3), (V0.heap.size + 1, #[.int .u64 g.l, .int .u64 g.lo, .int .u64 g.hi, .int .u64 g.a], 25), (V0.heap.size, #[.int .i64 1], 3), (w8.heap.size + 1 + 1, #[.int .i64 0], 3), (w8.heap.size + 1, #[.int .u64 g.l, .int .u64 g.lo, .int .u64 g.hi, .int .u64 g.a], 25), (w8.heap.size, #[.int .i64 0], 3), (w1.heap.size, #[.bool false], 4), (w.heap.size + 1 + 1 + 1, #[.bool false], 4), (w.heap.size + 1 + 1, #[.int .i64 many], 3), (w.heap.size + 1, #[.slice A ln cap], 48), (w.heap.size, #[.int .u64 g.l, .int .u64 g.lo, .int .u64 g.hi, .int .u64 g.a], 25)]) w.heap.size w [WL0.heap.size] (fun k => k < w8.heap.size) w8 k V) (fun k V => False) ?hI1 ?hIx1 ?h01 ?round1 ?hend1
        case hI1 => exact hI1
        case hIx1 => exact fun k V V2 row h hg hr => h
        case h01 => exact ⟨hoL1.out, hbWL1, fun D h => (by simp only [List.mem_cons, List.not_mem_nil, or_false] at h; subst h; exact hD0L), hkS1⟩
        case round1 =>
          rintro l' k x V hx hE hl'
          simp at hx
        case hend1 =>
          intro k1 V1 hend hD1
          obtain ⟨hk, hO, hb0, hDD, hkV1⟩ : k1 = 0 ∧ EI (fun (k : Nat) => [(V0.heap.size + 1 + 1, #[.int .i64 0], 3), (V0.heap.size + 1, #[.int .u64 g.l, .int .u64 g.lo, .int .u64 g.hi, .int .u64 g.a], 25), (V0.heap.size, #[.int .i64 1], 3), (w8.heap.size + 1 + 1, #[.int .i64 0], 3), (w8.heap.size + 1, #[.int .u64 g.l, .int .u64 g.lo, .int .u64 g.hi, .int .u64 g.a], 25), (w8.heap.size, #[.int .i64 0], 3), (w1.heap.size, #[.bool false], 4), (w.heap.size + 1 + 1 + 1, #[.bool false], 4), (w.heap.size + 1 + 1, #[.int .i64 many], 3), (w.heap.size + 1, #[.slice A ln cap], 48), (w.heap.size, #[.int .u64 g.l, .int .u64 g.lo, .int .u64 g.hi, .int .u64 g.a], 25)]) w.heap.size w [WL0.heap.size] (fun k => k < w8.heap.size) w8 k1 V1 := by
            rw [List.length_nil] at hend
            rcases hend with ⟨h1, h3⟩ | ⟨h1, h3⟩
            · exact ⟨by omega, h3⟩
            · exact h3.elim
          replace hD0 := hDD (WL0.heap.size) (by simp)
          clear hend hDD
          have O10 := hO
          have c10x0 := Own.cell O10 0 rfl
          have f10x0 := Own.free O10 0 rfl
          have l10x0 := Own.lt O10 0 rfl
          have l10x0d0 := le_up 0 l10x0
          have l10x0d1 := le_up 1 l10x0
          simp only [upN] at l10x0d0 l10x0d1
          have c10x1 := Own.cell O10 1 rfl
          have f10x1 := Own.free O10 1 rfl
          have l10x1 := Own.lt O10 1 rfl
          have l10x1d0 := le_up 0 l10x1
          have l10x1d1 := le_up 1 l10x1
          simp only [upN] at l10x1d0 l10x1d1
          have c10x2 := Own.cell O10 2 rfl
          have f10x2 := Own.free O10 2 rfl
          have l10x2 := Own.lt O10 2 rfl
          have l10x2d0 := le_up 0 l10x2
          have l10x2d1 := le_up 1 l10x2
          simp only [upN] at l10x2d0 l10x2d1
          have c10x3 := Own.cell O10 3 rfl
          have f10x3 := Own.free O10 3 rfl
          have l10x3 := Own.lt O10 3 rfl
          have l10x3d0 := le_up 0 l10x3
          have l10x3d1 := le_up 1 l10x3
          simp only [upN] at l10x3d0 l10x3d1
          have c10x4 := Own.cell O10 4 rfl
          have f10x4 := Own.free O10 4 rfl
          have l10x4 := Own.lt O10 4 rfl
          have l10x4d0 := le_up 0 l10x4
          have l10x4d1 := le_up 1 l10x4
          simp only [upN] at l10x4d0 l10x4d1
          have c10x5 := Own.cell O10 5 rfl
          have f10x5 := Own.free O10 5 rfl
          have l10x5 := Own.lt O10 5 rfl
          have l10x5d0 := le_up 0 l10x5
          have l10x5d1 := le_up 1 l10x5
          simp only [upN] at l10x5d0 l10x5d1
          have c10x6 := Own.cell O10 6 rfl
          have f10x6 := Own.free O10 6 rfl
          have l10x6 := Own.lt O10 6 rfl
          have l10x6d0 := le_up 0 l10x6
          have l10x6d1 := le_up 1 l10x6
          simp only [upN] at l10x6d0 l10x6d1
          have c10x7 := Own.cell O10 7 rfl
          have f10x7 := Own.free O10 7 rfl
          have l10x7 := Own.lt O10 7 rfl
          have l10x7d0 := le_up 0 l10x7
          have l10x7d1 := le_up 1 l10x7
          simp only [upN] at l10x7d0 l10x7d1
          have c10x8 := Own.cell O10 8 rfl
          have f10x8 := Own.free O10 8 rfl
          have l10x8 := Own.lt O10 8 rfl
          have l10x8d0 := le_up 0 l10x8
          have l10x8d1 := le_up 1 l10x8
          simp only [upN] at l10x8d0 l10x8d1
          have c10x9 := Own.cell O10 9 rfl
          have f10x9 := Own.free O10 9 rfl
          have l10x9 := Own.lt O10 9 rfl
          have l10x9d0 := le_up 0 l10x9
          have l10x9d1 := le_up 1 l10x9
          simp only [upN] at l10x9d0 l10x9d1
          have c10x10 := Own.cell O10 10 rfl
          have f10x10 := Own.free O10 10 rfl
          have l10x10 := Own.lt O10 10 rfl
          have l10x10d0 := le_up 0 l10x10
          have l10x10d1 := le_up 1 l10x10
          simp only [upN] at l10x10d0 l10x10d1
          have HO10 := Lib.hid O10
          clear O10
          have hbV1 := hb0
          clear hb0
          have zV1 : WL1.heap.size < V1.heap.size := (Array.getElem?_eq_some_iff.1 hD1).1
          go_wp2_with fail
          rw [rounds_succ]
          go_wp2_with fail
          refine (works_any _).mono ?_
          rintro e w11 ⟨rfl, hb11⟩
          have O11 := Own.grow' hb11 (Own.new HO10.out (V1.heap.size) (by first | rfl | simp))
          try simp only [List.setIfInBounds_toArray, List.set_cons_zero, List.set_cons_succ] at O11
          have bw11 : Below w.heap.size w w11 := Below.trans (by go_grown) (Below.mono hb11 (by first | omega | (simp; done) | (simp; omega)))
          have zw11 := Below.size hb11
          try simp only [World.size_alloc, World.size_drew, World.size_setCell] at zw11
          replace hD0 := (((KeepsOthers.refl _).trans (KeepsOthers.alloc _ _)).trans (KeepsOthers.below hb11)).same _ _ hD0 rfl
          replace hD1 := (((KeepsOthers.refl _).trans (KeepsOthers.alloc _ _)).trans (KeepsOthers.below hb11)).same _ _ hD1 rfl
          have kk11 := Keep.below (Keep.alloc hkV1 _) hb11
          clear c10x0 f10x0 l10x0 l10x0d0 l10x0d1 c10x1 f10x1 l10x1 l10x1d0 l10x1d1 c10x2 f10x2 l10x2 l10x2d0 l10x2d1 c10x3 f10x3 l10x3 l10x3d0 l10x3d1 c10x4 f10x4 l10x4 l10x4d0 l10x4d1 c10x5 f10x5 l10x5 l10x5d0 l10x5d1 c10x6 f10x6 l10x6 l10x6d0 l10x6d1 c10x7 f10x7 l10x7 l10x7d0 l10x7d1 c10x8 f10x8 l10x8 l10x8d0 l10x8d1 c10x9 f10x9 l10x9 l10x9d0 l10x9d1 c10x10 f10x10 l10x10 l10x10d0 l10x10d1
          have c11x0 := Own.cell O11 0 rfl
          have f11x0 := Own.free O11 0 rfl
          have l11x0 := Own.lt O11 0 rfl
          have l11x0d0 := le_up 0 l11x0
          have l11x0d1 := le_up 1 l11x0
          simp only [upN] at l11x0d0 l11x0d1
          have c11x1 := Own.cell O11 1 rfl
          have f11x1 := Own.free O11 1 rfl
          have l11x1 := Own.lt O11 1 rfl
          have l11x1d0 := le_up 0 l11x1
          have l11x1d1 := le_up 1 l11x1
          simp only [upN] at l11x1d0 l11x1d1
          have c11x2 := Own.cell O11 2 rfl
          have f11x2 := Own.free O11 2 rfl
          have l11x2 := Own.lt O11 2 rfl
          have l11x2d0 := le_up 0 l11x2
          have l11x2d1 := le_up 1 l11x2
          simp only [upN] at l11x2d0 l11x2d1
          have c11x3 := Own.cell O11 3 rfl
          have f11x3 := Own.free O11 3 rfl
          have l11x3 := Own.lt O11 3 rfl
          have l11x3d0 := le_up 0 l11x3
          have l11x3d1 := le_up 1 l11x3
          simp only [upN] at l11x3d0 l11x3d1
          have c11x4 := Own.cell O11 4 rfl
          have f11x4 := Own.free O11 4 rfl
          have l11x4 := Own.lt O11 4 rfl
          have l11x4d0 := le_up 0 l11x4
          have l11x4d1 := le_up 1 l11x4
          simp only [upN] at l11x4d0 l11x4d1
          have c11x5 := Own.cell O11 5 rfl
          have f11x5 := Own.free O11 5 rfl
          have l11x5 := Own.lt O11 5 rfl
          have l11x5d0 := le_up 0 l11x5
          have l11x5d1 := le_up 1 l11x5
          simp only [upN] at l11x5d0 l11x5d1
          have c11x6 := Own.cell O11 6 rfl
          have f11x6 := Own.free O11 6 rfl
          have l11x6 := Own.lt O11 6 rfl
          have l11x6d0 := le_up 0 l11x6
          have l11x6d1 := le_up 1 l11x6
          simp only [upN] at l11x6d0 l11x6d1
          have c11x7 := Own.cell O11 7 rfl
          have f11x7 := Own.free O11 7 rfl
          have l11x7 := Own.lt O11 7 rfl
          have l11x7d0 := le_up 0 l11x7
          have l11x7d1 := le_up 1 l11x7
          simp only [upN] at l11x7d0 l11x7d1
          have c11x8 := Own.cell O11 8 rfl
          have f11x8 := Own.free O11 8 rfl
          have l11x8 := Own.lt O11 8 rfl
          have l11x8d0 := le_up 0 l11x8
          have l11x8d1 := le_up 1 l11x8
          simp only [upN] at l11x8d0 l11x8d1
          have c11x9 := Own.cell O11 9 rfl
          have f11x9 := Own.free O11 9 rfl
          have l11x9 := Own.lt O11 9 rfl
          have l11x9d0 := le_up 0 l11x9
          have l11x9d1 := le_up 1 l11x9
          simp only [upN] at l11x9d0 l11x9d1
          have c11x10 := Own.cell O11 10 rfl
          have f11x10 := Own.free O11 10 rfl
          have l11x10 := Own.lt O11 10 rfl
          have l11x10d0 := le_up 0 l11x10
          have l11x10d1 := le_up 1 l11x10
          simp only [upN] at l11x10d0 l11x10d1
          have c11x11 := Own.cell O11 11 rfl
          have f11x11 := Own.free O11 11 rfl
          have l11x11 := Own.lt O11 11 rfl
          have l11x11d0 := le_up 0 l11x11
          have l11x11d1 := le_up 1 l11x11
          simp only [upN] at l11x11d0 l11x11d1
          have HO11 := Lib.hid O11
          clear O11 hb11
          go_wp2_with fail
          try rw [zWL0] at hD0
          try rw [zWL1] at hD1
          refine ret_mark2 (D := w8.heap.size + 3) (E := V0.heap.size + 3) (v := .bool true) (((KeepsOthers.refl _).trans (KeepsOthers.setCell _ _ _)).same _ _ hD0 rfl) (((KeepsOthers.refl _).trans (KeepsOthers.setCell _ _ _)).same _ _ hD1 rfl) (by omega) ?_ ?_
          · have c6 : ((((w11).setCell ⟨w.heap.size + 1 + 1 + 1, 0, none⟩ (.bool true)).putObj (V0.heap.size + 3) (.deferred none)).putObj (w8.heap.size + 3) (.deferred none)).cell? ⟨w.heap.size + 1 + 1 + 1, 0, none⟩ = some (.bool true) := (((Own.get (Own.set HO11.out 8 rfl (Ne1.cons (by first | omega | (simp; omega)) (Ne1.cons (by first | omega | (simp; omega)) (Ne1.cons (by first | omega | (simp; omega)) (Ne1.cons (by first | omega | (simp; omega)) (Ne1.cons (by first | omega | (simp; omega)) (Ne1.cons (by first | omega | (simp; omega)) (Ne1.cons (by first | omega | (simp; omega)) (Ne1.cons (by first | omega | (simp; omega)) (Ne1.cons (by first | omega | (simp; omega)) (Ne1.cons (by first | omega | (simp; omega)) (Ne1.cons (by first | omega | (simp; omega)) Ne1.nil)))))))))))) 8 rfl).put (D := V0.heap.size + 3) (.deferred none) (by omega)).put (D := w8.heap.size + 3) (.deferred none) (by omega)).cell 0
            simp [results, Try.results5, go_sem, c6]
          · exact ⟨rfl, Below.put (Below.put (by go_grown) _ (by omega)) _ (by omega)⟩

set_option maxHeartbeats 16000000 in
set_option maxRecDepth 100000 in
theorem takes_b2 (A : Option Addr) (g : Kn) (xs : List Kn) (cap : Nat) (many : Int) (w : World) (hS : SlAt w A (xs.flatMap Kn.cells)) (hcap : xs.length ≤ cap) (hn : xs.length ≤ 20) (hgo : g.ok = true) (hbad : (g :: xs).all Kn.ok = false) (hgl : 0 ≤ g.lo) (hga : U g.a) (hcl : ∀ c ∈ xs, 0 ≤ c.lo) :
    Calls Try.prog 5 #[.agg #[.int .u64 g.l, .int .u64 g.lo, .int .u64 g.hi, .int .u64 g.a], .slice A xs.length cap, .int .i64 many] w fun e w' => e = .returned (.bool true) ∧ Below w.heap.size w w' := by
  have qF := run_eql_func_nil Try.underlying54
  have HX := Lib.hid (fun (W : World) (hb : Below w.heap.size w W) => hS.below rfl hb)
  have HEA := Lib.hid (fun (W : World) (hW : SlAt W A (xs.flatMap Kn.cells)) => eachNone_any A g xs cap W hW (by omega) hbad)
  have hrg := fun V : World => refRight_any g.l g.lo g.hi g.a V
  rw [show rightB g.l g.lo g.hi g.a = true from hgo] at hrg
  have HRG := Lib.hid hrg
  have HTN := Lib.hid (fun (y : Kn) (h : (g.ok && y.ok) = false) (V : World) => take_bad g y V h)
  have HCK := Lib.hid (fun (V : World) (hV : SlAt V A (xs.flatMap Kn.cells)) => check_bad g xs A cap V (by omega) hV hbad)
  have HTB := Lib.hid (fun (y : Kn) (hy : y ∈ xs) (h : y.ok = true) => takes_same2 g y hgo h hgl (hcl y hy) hga)
  have he : rKf xs xs.length = false := by rw [rKf_end]; simpa [hgo] using hbad
  have HE := Lib.hid he
  clear he hcl
  clear hS hrg hbad
  generalize hln : xs.length = ln at *
  have d101 : decide ((20 : Int) < ln) = false := by simp <;> omega
  refine calls_marks Try.func5 rfl ?_
  simp only [Try.ntmps5, List.size_toArray, List.length_cons, List.length_nil, Nat.reduceAdd, Nat.reduceSub, Array.replicate_succ, Array.replicate_zero, List.push_toArray, List.append_toArray, List.nil_append, List.cons_append]
  go_wp2_with fail
  refine (HRG.out _).mono ?_
  rintro e w1 ⟨rfl, hb1⟩
  have O1 := Own.grow' hb1 (Own.new (Own.new (Own.new (Own.new (Own.nil w) (w.heap.size) (by first | rfl | simp)) (w.heap.size + 1) (by simp)) (w.heap.size + 1 + 1) (by simp)) (w.heap.size + 1 + 1 + 1) (by simp))
  try simp only [List.setIfInBounds_toArray, List.set_cons_zero, List.set_cons_succ] at O1
  have bw1 : Below w.heap.size w w1 := Below.trans (by go_grown) (Below.mono hb1 (by first | omega | (simp; done) | (simp; omega)))
  have zw1 := Below.size hb1
  try simp only [World.size_alloc, World.size_drew, World.size_setCell] at zw1
  have c1x0 := Own.cell O1 0 rfl
  have f1x0 := Own.free O1 0 rfl
  have l1x0 := Own.lt O1 0 rfl
  have l1x0d0 := le_up 0 l1x0
  have l1x0d1 := le_up 1 l1x0
  simp only [upN] at l1x0d0 l1x0d1
  have c1x1 := Own.cell O1 1 rfl
  have f1x1 := Own.free O1 1 rfl
  have l1x1 := Own.lt O1 1 rfl
  have l1x1d0 := le_up 0 l1x1
  have l1x1d1 := le_up 1 l1x1
  simp only [upN] at l1x1d0 l1x1d1
  have c1x2 := Own.cell O1 2 rfl
  have f1x2 := Own.free O1 2 rfl
  have l1x2 := Own.lt O1 2 rfl
  have l1x2d0 := le_up 0 l1x2
  have l1x2d1 := le_up 1 l1x2
  simp only [upN] at l1x2d0 l1x2d1
  have c1x3 := Own.cell O1 3 rfl
  have f1x3 := Own.free O1 3 rfl
  have l1x3 := Own.lt O1 3 rfl
  have l1x3d0 := le_up 0 l1x3
  have l1x3d1 := le_up 1 l1x3
  simp only [upN] at l1x3d0 l1x3d1
  have HO1 := Lib.hid O1
  clear O1 hb1
  go_wp2_with fail
  go_loopw [8] (fun i wr => TkRel2 (fun k => Own [(w1.heap.size, #[.bool (rKf xs k)], 4), (w.heap.size + 1 + 1 + 1, #[.bool false], 4), (w.heap.size + 1 + 1, #[.int .i64 many], 3), (w.heap.size + 1, #[.slice A ln cap], 48), (w.heap.size, #[.int .u64 g.l, .int .u64 g.lo, .int .u64 g.hi, .int .u64 g.a], 25)]) ln w i wr) (fun i _ => ln - (intOf i).toNat)
  case atStart => exact ⟨0, Nat.zero_le _, rfl, Own.eqv (Own.new HO1.out (w1.heap.size) (by first | rfl | simp)) (by simp [rKf]), by go_grown⟩
  case round =>
    obtain ⟨k, hk, rfl, hO, hbr⟩ := hrel
    try dsimp only at hO
    by_cases hlt' : k < ln
    · skip
      have dk : decide ((k : Int) < ln) = true := by simp; omega
      obtain ⟨y, hy⟩ : ∃ y, xs[k]? = some y := ⟨xs[k]'(by rw [hln]; omega), by simp⟩
      have hne : (xs.flatMap Kn.cells)[k * 4 + 0]? = some (.int .u64 y.l) := (by rw [flat_at (f := Kn.cells) (n := 4) (fun _ => rfl) xs k y hy 0 (by omega)]; rfl)
      obtain ⟨b', off, rfl, hbl, hcell⟩ := (HX.out wr hbr).cell hne
      have hc0 : wr.cell? ⟨b', off + k * 4, none⟩ = some (.int .u64 y.l) := by have := hcell (k * 4 + 0) _ (by rw [flat_at (f := Kn.cells) (n := 4) (fun _ => rfl) xs k y hy 0 (by omega)]; rfl); simpa [Nat.add_assoc] using this
      have hc1 : wr.cell? ⟨b', off + k * 4 + 1, none⟩ = some (.int .u64 y.lo) := by have := hcell (k * 4 + 1) _ (by rw [flat_at (f := Kn.cells) (n := 4) (fun _ => rfl) xs k y hy 1 (by omega)]; rfl); simpa [Nat.add_assoc] using this
      have hc2 : wr.cell? ⟨b', off + k * 4 + 2, none⟩ = some (.int .u64 y.hi) := by have := hcell (k * 4 + 2) _ (by rw [flat_at (f := Kn.cells) (n := 4) (fun _ => rfl) xs k y hy 2 (by omega)]; rfl); simpa [Nat.add_assoc] using this
      have hc3 : wr.cell? ⟨b', off + k * 4 + 3, none⟩ = some (.int .u64 y.a) := by have := hcell (k * 4 + 3) _ (by rw [flat_at (f := Kn.cells) (n := 4) (fun _ => rfl) xs k y hy 3 (by omega)]; rfl); simpa [Nat.add_assoc] using this
      clear hcell hne
      have d2 : decide ((ln : Int) ≤ k) = false := by simp; omega
      have d2' : decide (ln ≤ k) = false := by simp; omega
      have hst := rKf_step hy
      rcases hyo : y.ok with _ | _
      · rcases hrk : rKf xs k with _ | _
        · rw [hrk] at hO
          have O3 := hO
          have c3x0 := Own.cell O3 0 rfl
          have f3x0 := Own.free O3 0 rfl
          have l3x0 := Own.lt O3 0 rfl
          have l3x0d0 := le_up 0 l3x0
          have l3x0d1 := le_up 1 l3x0
          simp only [upN] at l3x0d0 l3x0d1
          have c3x1 := Own.cell O3 1 rfl
          have f3x1 := Own.free O3 1 rfl
          have l3x1 := Own.lt O3 1 rfl
          have l3x1d0 := le_up 0 l3x1
          have l3x1d1 := le_up 1 l3x1
          simp only [upN] at l3x1d0 l3x1d1
          have c3x2 := Own.cell O3 2 rfl
          have f3x2 := Own.free O3 2 rfl
          have l3x2 := Own.lt O3 2 rfl
          have l3x2d0 := le_up 0 l3x2
          have l3x2d1 := le_up 1 l3x2
          simp only [upN] at l3x2d0 l3x2d1
          have c3x3 := Own.cell O3 3 rfl
          have f3x3 := Own.free O3 3 rfl
          have l3x3 := Own.lt O3 3 rfl
          have l3x3d0 := le_up 0 l3x3
          have l3x3d1 := le_up 1 l3x3
          simp only [upN] at l3x3d0 l3x3d1
          have c3x4 := Own.cell O3 4 rfl
          have f3x4 := Own.free O3 4 rfl
          have l3x4 := Own.lt O3 4 rfl
          have l3x4d0 := le_up 0 l3x4
          have l3x4d1 := le_up 1 l3x4
          simp only [upN] at l3x4d0 l3x4d1
          have HO3 := Lib.hid O3
          clear O3
          have hz0 := l3x0
          have hz1 := l3x1
          have hz2 := l3x2
          have hz3 := l3x3
          have hz4 := l3x4
          have HT := Lib.hid (HTN.out y (by simp [hyo]))
          have hrc := fun V : World => rightCost_is y V
          rw [hyo] at hrc
          have HRC := Lib.hid hrc
          clear hrc
          go_wp2_with fail
          refine wp_region_grow wr.heap.size 14 2048 1024 [(0, 0, 137438953472, 8), (1, 0, 274877906944, 16), (2, 0, 549755813888, 256), (3, 6, 1099511627776, 824633720832), (4, 8, 2199023255552, 1099511627776), (5, 17, 4398046511104, 2336462209024), (6, 32, 68719476736, 4398046511104), (7, 64, 8796093022208, 68719476736), (8, 64, 17592186044416, 68719476736), (9, 64, 35184372088832, 68719476736), (10, 0, 512, 0), (11, 1279, 0, 8796093022720), (12, 3583, 1024, 17592186044416), (13, 8191, 2048, 35184372088832)] [(.p 0, 1), (.p 1, 3), (.p 2, 7), (.p 3, 15), (.q 4, 31), (.p 5, 63), (.p 6, 127), (.p 7, 255), (.p 8, 511), (.p 9, 1023), (.g 10, 2047), (.c 11, 4095), (.p 12, 8191), (.p 13, 16383)] [] _ (fun p hp => hp) (by first | omega | (simp; done) | (simp; omega)) (by kernel_rfl) (by kernel_rfl) HO3.out ?_
          refine wpG_pure (i := 0) (v := ?v4x0) rfl rfl (by rfl) (fun w hB hG K hK => ?h4x0) ?_
          case h4x0 =>
            have cx := Own.cell hG 4 rfl
            go_wp2_with fail
            exact hK _ (Below.refl _ _)
          simp only [List.set_cons_zero, List.set_cons_succ]
          refine wpG_pure (i := 1) (v := ?v4x1) rfl rfl (by rfl) (fun w hB hG K hK => ?h4x1) ?_
          case h4x1 =>
            have cx := Own.cell hG 3 rfl
            go_wp2_with fail
            exact hK _ (Below.refl _ _)
          simp only [List.set_cons_zero, List.set_cons_succ]
          refine wpG_move (i := 2) rfl rfl rfl (by rfl) rfl ?_
          simp only [List.set_cons_zero, List.set_cons_succ]
          refine wpG_pure (i := 3) (v := ?v4x3) rfl rfl (by rfl) (fun w hB hG K hK => ?h4x3) ?_
          case h4x3 =>
            go_wp2_with fail
            exact hK _ (Below.refl _ _)
          simp only [List.set_cons_zero, List.set_cons_succ]
          refine wpG_op (i := 4) (v := ?v4x4) rfl rfl (by rfl) (fun w hB hG K hK => ?h4x4) ?_
          case h4x4 =>
            have hx0 := (hB.cell (p := ⟨b', off + k * 4, none⟩) (World.block_lt_of_cell? wr _ hc0)).trans hc0
            have hx1 := (hB.cell (p := ⟨b', off + k * 4 + 1, none⟩) (World.block_lt_of_cell? wr _ hc1)).trans hc1
            have hx2 := (hB.cell (p := ⟨b', off + k * 4 + 2, none⟩) (World.block_lt_of_cell? wr _ hc2)).trans hc2
            have hx3 := (hB.cell (p := ⟨b', off + k * 4 + 3, none⟩) (World.block_lt_of_cell? wr _ hc3)).trans hc3
            go_wp2_with fail
            exact hK _ (Below.refl _ _)
          simp only [List.set_cons_zero, List.set_cons_succ]
          refine wpG_pure (i := 5) (v := ?v4x5) rfl rfl (by rfl) (fun w hB hG K hK => ?h4x5) ?_
          case h4x5 =>
            go_wp2_with fail
            refine (HT.out _).mono ?_
            rintro e wx ⟨rfl, hbx⟩
            exact hK _ hbx
          simp only [List.set_cons_zero, List.set_cons_succ]
          refine wpG_move (i := 6) rfl rfl rfl (by rfl) rfl ?_
          simp only [List.set_cons_zero, List.set_cons_succ]
          refine wpG_pure (i := 7) (v := ?v4x7) rfl rfl (by rfl) (fun w hB hG K hK => ?h4x7) ?_
          case h4x7 =>
            go_wp2_with fail
            exact hK _ (Below.refl _ _)
          simp only [List.set_cons_zero, List.set_cons_succ]
          refine wpG_pure (i := 8) (v := ?v4x8) rfl rfl (by rfl) (fun w hB hG K hK => ?h4x8) ?_
          case h4x8 =>
            go_wp2_with fail
            exact hK _ (Below.refl _ _)
          simp only [List.set_cons_zero, List.set_cons_succ]
          refine wpG_pure (i := 9) (v := ?v4x9) rfl rfl (by rfl) (fun w hB hG K hK => ?h4x9) ?_
          case h4x9 =>
            go_wp2_with fail
            exact hK _ (Below.refl _ _)
          simp only [List.set_cons_zero, List.set_cons_succ]
          refine wpG_make (i := 10) (c := ?c4x10) (t := ?t4x10) (fun b => .pointer (some ⟨b, 0, none⟩)) rfl rfl (by rfl) (fun w hB hG K hK => ?h4x10) (fun v4g1 l4g1 n4g1 => ?_)
          case h4x10 =>
            go_wp2_with fail
            exact hK
          simp only [List.set_cons_zero, List.set_cons_succ]
          try simp only [World.size_alloc, World.size_drew, World.size_setCell] at l4g1
          clear n4g1
          refine wpG_store (i := 11) (c' := ?c4x11) 0 rfl (Ne1.cons (by first | omega | (simp; omega)) (Ne1.cons (by first | omega | (simp; omega)) (Ne1.cons (by first | omega | (simp; omega)) (Ne1.cons (by first | omega | (simp; omega)) (Ne1.cons (by first | omega | (simp; omega)) Ne1.nil))))) (by first | omega | (simp; omega)) (fun p hp => List.mem_cons_of_mem _ (hp)) rfl rfl (by rfl) (fun w hB hF hG K hK => ?h4x11) ?_
          case h4x11 =>
            have cx := hF.cell
            have fx := hF.free
            go_wp2_with fail
            refine hK _ (Same.set (Same.set (Same.set (Same.set (Same.refl _ _) _ _) _ _) _ _) _ _) ?_
            exact (Blk.set (Blk.set (Blk.set (Blk.set hF _ _) _ _) _ _) _ _)
          simp only [List.set_cons_zero, List.set_cons_succ, List.setIfInBounds_toArray]
          refine wpG_assign (i := 12) rfl rfl rfl (by rfl) rfl ?_
          simp only [List.set_cons_zero, List.set_cons_succ]
          refine wpG_assign (i := 13) rfl rfl rfl (by rfl) rfl ?_
          simp only [List.set_cons_zero, List.set_cons_succ]
          refine wpG_nil (fun w4 hb4 hG4 => ?_)
          simp only [List.append_eq, List.cons_append, List.nil_append, List.drop_succ_cons, List.drop_zero, List.drop_nil]
          have u4g1 := Own.lt hG4 0 rfl
          have O4 := Own.of hG4
          try simp only [List.setIfInBounds_toArray, List.set_cons_zero, List.set_cons_succ] at O4
          have bw4 : Below w.heap.size w w4 := Below.trans (by go_grown) (Below.mono hb4 (by first | omega | (simp; done) | (simp; omega)))
          have zw4 := Below.size hb4
          try simp only [World.size_alloc, World.size_drew, World.size_setCell] at zw4
          have hwc4 : Below wr.heap.size wr w4 := Below.trans (by go_grown) (Below.mono hb4 (by first | omega | (simp; done) | (simp; omega)))
          clear c3x0 f3x0 l3x0 l3x0d0 l3x0d1 c3x1 f3x1 l3x1 l3x1d0 l3x1d1 c3x2 f3x2 l3x2 l3x2d0 l3x2d1 c3x3 f3x3 l3x3 l3x3d0 l3x3d1 c3x4 f3x4 l3x4 l3x4d0 l3x4d1
          have c4x0 := Own.cell O4 0 rfl
          have f4x0 := Own.free O4 0 rfl
          have l4x0 := Own.lt O4 0 rfl
          have l4x0d0 := le_up 0 l4x0
          have l4x0d1 := le_up 1 l4x0
          simp only [upN] at l4x0d0 l4x0d1
          have c4x1 := Own.cell O4 1 rfl
          have f4x1 := Own.free O4 1 rfl
          have l4x1 := Own.lt O4 1 rfl
          have l4x1d0 := le_up 0 l4x1
          have l4x1d1 := le_up 1 l4x1
          simp only [upN] at l4x1d0 l4x1d1
          have c4x2 := Own.cell O4 2 rfl
          have f4x2 := Own.free O4 2 rfl
          have l4x2 := Own.lt O4 2 rfl
          have l4x2d0 := le_up 0 l4x2
          have l4x2d1 := le_up 1 l4x2
          simp only [upN] at l4x2d0 l4x2d1
          have c4x3 := Own.cell O4 3 rfl
          have f4x3 := Own.free O4 3 rfl
          have l4x3 := Own.lt O4 3 rfl
          have l4x3d0 := le_up 0 l4x3
          have l4x3d1 := le_up 1 l4x3
          simp only [upN] at l4x3d0 l4x3d1
          have c4x4 := Own.cell O4 4 rfl
          have f4x4 := Own.free O4 4 rfl
          have l4x4 := Own.lt O4 4 rfl
          have l4x4d0 := le_up 0 l4x4
          have l4x4d1 := le_up 1 l4x4
          simp only [upN] at l4x4d0 l4x4d1
          have c4x5 := Own.cell O4 5 rfl
          have f4x5 := Own.free O4 5 rfl
          have l4x5 := Own.lt O4 5 rfl
          have l4x5d0 := le_up 0 l4x5
          have l4x5d1 := le_up 1 l4x5
          simp only [upN] at l4x5d0 l4x5d1
          have HO4 := Lib.hid O4
          clear O4 hb4
          replace hc0 := (hwc4.cell (p := ⟨b', off + k * 4, none⟩) (World.block_lt_of_cell? wr _ hc0)).trans hc0
          replace hc1 := (hwc4.cell (p := ⟨b', off + k * 4 + 1, none⟩) (World.block_lt_of_cell? wr _ hc1)).trans hc1
          replace hc2 := (hwc4.cell (p := ⟨b', off + k * 4 + 2, none⟩) (World.block_lt_of_cell? wr _ hc2)).trans hc2
          replace hc3 := (hwc4.cell (p := ⟨b', off + k * 4 + 3, none⟩) (World.block_lt_of_cell? wr _ hc3)).trans hc3
          go_wp2_with fail
          refine (HRG.out _).mono ?_
          rintro e w5 ⟨rfl, hb5⟩
          have O5 := Own.grow' hb5 HO4.out
          try simp only [List.setIfInBounds_toArray, List.set_cons_zero, List.set_cons_succ] at O5
          have bw5 : Below w.heap.size w w5 := Below.trans (by go_grown) (Below.mono hb5 (by first | omega | (simp; done) | (simp; omega)))
          have zw5 := Below.size hb5
          try simp only [World.size_alloc, World.size_drew, World.size_setCell] at zw5
          have hwc5 : Below w4.heap.size w4 w5 := Below.trans (by go_grown) (Below.mono hb5 (by first | omega | (simp; done) | (simp; omega)))
          clear c4x0 f4x0 l4x0 l4x0d0 l4x0d1 c4x1 f4x1 l4x1 l4x1d0 l4x1d1 c4x2 f4x2 l4x2 l4x2d0 l4x2d1 c4x3 f4x3 l4x3 l4x3d0 l4x3d1 c4x4 f4x4 l4x4 l4x4d0 l4x4d1 c4x5 f4x5 l4x5 l4x5d0 l4x5d1
          have c5x0 := Own.cell O5 0 rfl
          have f5x0 := Own.free O5 0 rfl
          have l5x0 := Own.lt O5 0 rfl
          have l5x0d0 := le_up 0 l5x0
          have l5x0d1 := le_up 1 l5x0
          simp only [upN] at l5x0d0 l5x0d1
          have c5x1 := Own.cell O5 1 rfl
          have f5x1 := Own.free O5 1 rfl
          have l5x1 := Own.lt O5 1 rfl
          have l5x1d0 := le_up 0 l5x1
          have l5x1d1 := le_up 1 l5x1
          simp only [upN] at l5x1d0 l5x1d1
          have c5x2 := Own.cell O5 2 rfl
          have f5x2 := Own.free O5 2 rfl
          have l5x2 := Own.lt O5 2 rfl
          have l5x2d0 := le_up 0 l5x2
          have l5x2d1 := le_up 1 l5x2
          simp only [upN] at l5x2d0 l5x2d1
          have c5x3 := Own.cell O5 3 rfl
          have f5x3 := Own.free O5 3 rfl
          have l5x3 := Own.lt O5 3 rfl
          have l5x3d0 := le_up 0 l5x3
          have l5x3d1 := le_up 1 l5x3
          simp only [upN] at l5x3d0 l5x3d1
          have c5x4 := Own.cell O5 4 rfl
          have f5x4 := Own.free O5 4 rfl
          have l5x4 := Own.lt O5 4 rfl
          have l5x4d0 := le_up 0 l5x4
          have l5x4d1 := le_up 1 l5x4
          simp only [upN] at l5x4d0 l5x4d1
          have c5x5 := Own.cell O5 5 rfl
          have f5x5 := Own.free O5 5 rfl
          have l5x5 := Own.lt O5 5 rfl
          have l5x5d0 := le_up 0 l5x5
          have l5x5d1 := le_up 1 l5x5
          simp only [upN] at l5x5d0 l5x5d1
          have HO5 := Lib.hid O5
          clear O5 hb5
          replace hc0 := (hwc5.cell (p := ⟨b', off + k * 4, none⟩) (World.block_lt_of_cell? w4 _ hc0)).trans hc0
          replace hc1 := (hwc5.cell (p := ⟨b', off + k * 4 + 1, none⟩) (World.block_lt_of_cell? w4 _ hc1)).trans hc1
          replace hc2 := (hwc5.cell (p := ⟨b', off + k * 4 + 2, none⟩) (World.block_lt_of_cell? w4 _ hc2)).trans hc2
          replace hc3 := (hwc5.cell (p := ⟨b', off + k * 4 + 3, none⟩) (World.block_lt_of_cell? w4 _ hc3)).trans hc3
          go_wp2_with fail
          refine (HRC.out _).mono ?_
          rintro e w6 ⟨rfl, hb6⟩
          have O6 := Own.grow' hb6 HO5.out
          try simp only [List.setIfInBounds_toArray, List.set_cons_zero, List.set_cons_succ] at O6
          have bw6 : Below w.heap.size w w6 := Below.trans (by go_grown) (Below.mono hb6 (by first | omega | (simp; done) | (simp; omega)))
          have zw6 := Below.size hb6
          try simp only [World.size_alloc, World.size_drew, World.size_setCell] at zw6
          have hwc6 : Below w5.heap.size w5 w6 := Below.trans (by go_grown) (Below.mono hb6 (by first | omega | (simp; done) | (simp; omega)))
          clear c5x0 f5x0 l5x0 l5x0d0 l5x0d1 c5x1 f5x1 l5x1 l5x1d0 l5x1d1 c5x2 f5x2 l5x2 l5x2d0 l5x2d1 c5x3 f5x3 l5x3 l5x3d0 l5x3d1 c5x4 f5x4 l5x4 l5x4d0 l5x4d1 c5x5 f5x5 l5x5 l5x5d0 l5x5d1
          have c6x0 := Own.cell O6 0 rfl
          have f6x0 := Own.free O6 0 rfl
          have l6x0 := Own.lt O6 0 rfl
          have l6x0d0 := le_up 0 l6x0
          have l6x0d1 := le_up 1 l6x0
          simp only [upN] at l6x0d0 l6x0d1
          have c6x1 := Own.cell O6 1 rfl
          have f6x1 := Own.free O6 1 rfl
          have l6x1 := Own.lt O6 1 rfl
          have l6x1d0 := le_up 0 l6x1
          have l6x1d1 := le_up 1 l6x1
          simp only [upN] at l6x1d0 l6x1d1
          have c6x2 := Own.cell O6 2 rfl
          have f6x2 := Own.free O6 2 rfl
          have l6x2 := Own.lt O6 2 rfl
          have l6x2d0 := le_up 0 l6x2
          have l6x2d1 := le_up 1 l6x2
          simp only [upN] at l6x2d0 l6x2d1
          have c6x3 := Own.cell O6 3 rfl
          have f6x3 := Own.free O6 3 rfl
          have l6x3 := Own.lt O6 3 rfl
          have l6x3d0 := le_up 0 l6x3
          have l6x3d1 := le_up 1 l6x3
          simp only [upN] at l6x3d0 l6x3d1
          have c6x4 := Own.cell O6 4 rfl
          have f6x4 := Own.free O6 4 rfl
          have l6x4 := Own.lt O6 4 rfl
          have l6x4d0 := le_up 0 l6x4
          have l6x4d1 := le_up 1 l6x4
          simp only [upN] at l6x4d0 l6x4d1
          have c6x5 := Own.cell O6 5 rfl
          have f6x5 := Own.free O6 5 rfl
          have l6x5 := Own.lt O6 5 rfl
          have l6x5d0 := le_up 0 l6x5
          have l6x5d1 := le_up 1 l6x5
          simp only [upN] at l6x5d0 l6x5d1
          have HO6 := Lib.hid O6
          clear O6 hb6
          replace hc0 := (hwc6.cell (p := ⟨b', off + k * 4, none⟩) (World.block_lt_of_cell? w5 _ hc0)).trans hc0
          replace hc1 := (hwc6.cell (p := ⟨b', off + k * 4 + 1, none⟩) (World.block_lt_of_cell? w5 _ hc1)).trans hc1
          replace hc2 := (hwc6.cell (p := ⟨b', off + k * 4 + 2, none⟩) (World.block_lt_of_cell? w5 _ hc2)).trans hc2
          replace hc3 := (hwc6.cell (p := ⟨b', off + k * 4 + 3, none⟩) (World.block_lt_of_cell? w5 _ hc3)).trans hc3
          have hn1 : ¬ v4g1 = w1.heap.size := by omega
          have hn2 : ¬ w1.heap.size = v4g1 := by omega
          go_wp2_with fail
          refine (num_any _ _).mono ?_
          rintro e w' ⟨rfl, rfl⟩
          go_wp2_with fail
          exact ⟨⟨k + 1, by omega, by go_num, Own.eqv (Own.tl (Own.set HO6.out 1 rfl (Ne1.cons (by first | omega | (simp; omega)) (Ne1.cons (by first | omega | (simp; omega)) (Ne1.cons (by first | omega | (simp; omega)) (Ne1.cons (by first | omega | (simp; omega)) (Ne1.cons (by first | omega | (simp; omega)) Ne1.nil))))))) (by (try dsimp only); rw [hst, hrk, hyo]; simp), by go_grown⟩, by simp [intOf]; omega⟩
        · rw [hrk] at hO
          have O7 := hO
          have c7x0 := Own.cell O7 0 rfl
          have f7x0 := Own.free O7 0 rfl
          have l7x0 := Own.lt O7 0 rfl
          have l7x0d0 := le_up 0 l7x0
          have l7x0d1 := le_up 1 l7x0
          simp only [upN] at l7x0d0 l7x0d1
          have c7x1 := Own.cell O7 1 rfl
          have f7x1 := Own.free O7 1 rfl
          have l7x1 := Own.lt O7 1 rfl
          have l7x1d0 := le_up 0 l7x1
          have l7x1d1 := le_up 1 l7x1
          simp only [upN] at l7x1d0 l7x1d1
          have c7x2 := Own.cell O7 2 rfl
          have f7x2 := Own.free O7 2 rfl
          have l7x2 := Own.lt O7 2 rfl
          have l7x2d0 := le_up 0 l7x2
          have l7x2d1 := le_up 1 l7x2
          simp only [upN] at l7x2d0 l7x2d1
          have c7x3 := Own.cell O7 3 rfl
          have f7x3 := Own.free O7 3 rfl
          have l7x3 := Own.lt O7 3 rfl
          have l7x3d0 := le_up 0 l7x3
          have l7x3d1 := le_up 1 l7x3
          simp only [upN] at l7x3d0 l7x3d1
          have c7x4 := Own.cell O7 4 rfl
          have f7x4 := Own.free O7 4 rfl
          have l7x4 := Own.lt O7 4 rfl
          have l7x4d0 := le_up 0 l7x4
          have l7x4d1 := le_up 1 l7x4
          simp only [upN] at l7x4d0 l7x4d1
          have HO7 := Lib.hid O7
          clear O7
          have hz0 := l7x0
          have hz1 := l7x1
          have hz2 := l7x2
          have hz3 := l7x3
          have hz4 := l7x4
          have HT := Lib.hid (HTN.out y (by simp [hyo]))
          have hrc := fun V : World => rightCost_is y V
          rw [hyo] at hrc
          have HRC := Lib.hid hrc
          clear hrc
          go_wp2_with fail
          refine wp_region_grow wr.heap.size 14 2048 1024 [(0, 0, 137438953472, 8), (1, 0, 274877906944, 16), (2, 0, 549755813888, 256), (3, 6, 1099511627776, 824633720832), (4, 8, 2199023255552, 1099511627776), (5, 17, 4398046511104, 2336462209024), (6, 32, 68719476736, 4398046511104), (7, 64, 8796093022208, 68719476736), (8, 64, 17592186044416, 68719476736), (9, 64, 35184372088832, 68719476736), (10, 0, 512, 0), (11, 1279, 0, 8796093022720), (12, 3583, 1024, 17592186044416), (13, 8191, 2048, 35184372088832)] [(.p 0, 1), (.p 1, 3), (.p 2, 7), (.p 3, 15), (.q 4, 31), (.p 5, 63), (.p 6, 127), (.p 7, 255), (.p 8, 511), (.p 9, 1023), (.g 10, 2047), (.c 11, 4095), (.p 12, 8191), (.p 13, 16383)] [] _ (fun p hp => hp) (by first | omega | (simp; done) | (simp; omega)) (by kernel_rfl) (by kernel_rfl) HO7.out ?_
          refine wpG_pure (i := 0) (v := ?v8x0) rfl rfl (by rfl) (fun w hB hG K hK => ?h8x0) ?_
          case h8x0 =>
            have cx := Own.cell hG 4 rfl
            go_wp2_with fail
            exact hK _ (Below.refl _ _)
          simp only [List.set_cons_zero, List.set_cons_succ]
          refine wpG_pure (i := 1) (v := ?v8x1) rfl rfl (by rfl) (fun w hB hG K hK => ?h8x1) ?_
          case h8x1 =>
            have cx := Own.cell hG 3 rfl
            go_wp2_with fail
            exact hK _ (Below.refl _ _)
          simp only [List.set_cons_zero, List.set_cons_succ]
          refine wpG_move (i := 2) rfl rfl rfl (by rfl) rfl ?_
          simp only [List.set_cons_zero, List.set_cons_succ]
          refine wpG_pure (i := 3) (v := ?v8x3) rfl rfl (by rfl) (fun w hB hG K hK => ?h8x3) ?_
          case h8x3 =>
            go_wp2_with fail
            exact hK _ (Below.refl _ _)
          simp only [List.set_cons_zero, List.set_cons_succ]
          refine wpG_op (i := 4) (v := ?v8x4) rfl rfl (by rfl) (fun w hB hG K hK => ?h8x4) ?_
          case h8x4 =>
            have hx0 := (hB.cell (p := ⟨b', off + k * 4, none⟩) (World.block_lt_of_cell? wr _ hc0)).trans hc0
            have hx1 := (hB.cell (p := ⟨b', off + k * 4 + 1, none⟩) (World.block_lt_of_cell? wr _ hc1)).trans hc1
            have hx2 := (hB.cell (p := ⟨b', off + k * 4 + 2, none⟩) (World.block_lt_of_cell? wr _ hc2)).trans hc2
            have hx3 := (hB.cell (p := ⟨b', off + k * 4 + 3, none⟩) (World.block_lt_of_cell? wr _ hc3)).trans hc3
            go_wp2_with fail
            exact hK _ (Below.refl _ _)
          simp only [List.set_cons_zero, List.set_cons_succ]
          refine wpG_pure (i := 5) (v := ?v8x5) rfl rfl (by rfl) (fun w hB hG K hK => ?h8x5) ?_
          case h8x5 =>
            go_wp2_with fail
            refine (HT.out _).mono ?_
            rintro e wx ⟨rfl, hbx⟩
            exact hK _ hbx
          simp only [List.set_cons_zero, List.set_cons_succ]
          refine wpG_move (i := 6) rfl rfl rfl (by rfl) rfl ?_
          simp only [List.set_cons_zero, List.set_cons_succ]
          refine wpG_pure (i := 7) (v := ?v8x7) rfl rfl (by rfl) (fun w hB hG K hK => ?h8x7) ?_
          case h8x7 =>
            go_wp2_with fail
            exact hK _ (Below.refl _ _)
          simp only [List.set_cons_zero, List.set_cons_succ]
          refine wpG_pure (i := 8) (v := ?v8x8) rfl rfl (by rfl) (fun w hB hG K hK => ?h8x8) ?_
          case h8x8 =>
            go_wp2_with fail
            exact hK _ (Below.refl _ _)
          simp only [List.set_cons_zero, List.set_cons_succ]
          refine wpG_pure (i := 9) (v := ?v8x9) rfl rfl (by rfl) (fun w hB hG K hK => ?h8x9) ?_
          case h8x9 =>
            go_wp2_with fail
            exact hK _ (Below.refl _ _)
          simp only [List.set_cons_zero, List.set_cons_succ]
          refine wpG_make (i := 10) (c := ?c8x10) (t := ?t8x10) (fun b => .pointer (some ⟨b, 0, none⟩)) rfl rfl (by rfl) (fun w hB hG K hK => ?h8x10) (fun v8g1 l8g1 n8g1 => ?_)
          case h8x10 =>
            go_wp2_with fail
            exact hK
          simp only [List.set_cons_zero, List.set_cons_succ]
          try simp only [World.size_alloc, World.size_drew, World.size_setCell] at l8g1
          clear n8g1
          refine wpG_store (i := 11) (c' := ?c8x11) 0 rfl (Ne1.cons (by first | omega | (simp; omega)) (Ne1.cons (by first | omega | (simp; omega)) (Ne1.cons (by first | omega | (simp; omega)) (Ne1.cons (by first | omega | (simp; omega)) (Ne1.cons (by first | omega | (simp; omega)) Ne1.nil))))) (by first | omega | (simp; omega)) (fun p hp => List.mem_cons_of_mem _ (hp)) rfl rfl (by rfl) (fun w hB hF hG K hK => ?h8x11) ?_
          case h8x11 =>
            have cx := hF.cell
            have fx := hF.free
            go_wp2_with fail
            refine hK _ (Same.set (Same.set (Same.set (Same.set (Same.refl _ _) _ _) _ _) _ _) _ _) ?_
            exact (Blk.set (Blk.set (Blk.set (Blk.set hF _ _) _ _) _ _) _ _)
          simp only [List.set_cons_zero, List.set_cons_succ, List.setIfInBounds_toArray]
          refine wpG_assign (i := 12) rfl rfl rfl (by rfl) rfl ?_
          simp only [List.set_cons_zero, List.set_cons_succ]
          refine wpG_assign (i := 13) rfl rfl rfl (by rfl) rfl ?_
          simp only [List.set_cons_zero, List.set_cons_succ]
          refine wpG_nil (fun w8 hb8 hG8 => ?_)
          simp only [List.append_eq, List.cons_append, List.nil_append, List.drop_succ_cons, List.drop_zero, List.drop_nil]
          have u8g1 := Own.lt hG8 0 rfl
          have O8 := Own.of hG8
          try simp only [List.setIfInBounds_toArray, List.set_cons_zero, List.set_cons_succ] at O8
          have bw8 : Below w.heap.size w w8 := Below.trans (by go_grown) (Below.mono hb8 (by first | omega | (simp; done) | (simp; omega)))
          have zw8 := Below.size hb8
          try simp only [World.size_alloc, World.size_drew, World.size_setCell] at zw8
          have hwc8 : Below wr.heap.size wr w8 := Below.trans (by go_grown) (Below.mono hb8 (by first | omega | (simp; done) | (simp; omega)))
          clear c7x0 f7x0 l7x0 l7x0d0 l7x0d1 c7x1 f7x1 l7x1 l7x1d0 l7x1d1 c7x2 f7x2 l7x2 l7x2d0 l7x2d1 c7x3 f7x3 l7x3 l7x3d0 l7x3d1 c7x4 f7x4 l7x4 l7x4d0 l7x4d1
          have c8x0 := Own.cell O8 0 rfl
          have f8x0 := Own.free O8 0 rfl
          have l8x0 := Own.lt O8 0 rfl
          have l8x0d0 := le_up 0 l8x0
          have l8x0d1 := le_up 1 l8x0
          simp only [upN] at l8x0d0 l8x0d1
          have c8x1 := Own.cell O8 1 rfl
          have f8x1 := Own.free O8 1 rfl
          have l8x1 := Own.lt O8 1 rfl
          have l8x1d0 := le_up 0 l8x1
          have l8x1d1 := le_up 1 l8x1
          simp only [upN] at l8x1d0 l8x1d1
          have c8x2 := Own.cell O8 2 rfl
          have f8x2 := Own.free O8 2 rfl
          have l8x2 := Own.lt O8 2 rfl
          have l8x2d0 := le_up 0 l8x2
          have l8x2d1 := le_up 1 l8x2
          simp only [upN] at l8x2d0 l8x2d1
          have c8x3 := Own.cell O8 3 rfl
          have f8x3 := Own.free O8 3 rfl
          have l8x3 := Own.lt O8 3 rfl
          have l8x3d0 := le_up 0 l8x3
          have l8x3d1 := le_up 1 l8x3
          simp only [upN] at l8x3d0 l8x3d1
          have c8x4 := Own.cell O8 4 rfl
          have f8x4 := Own.free O8 4 rfl
          have l8x4 := Own.lt O8 4 rfl
          have l8x4d0 := le_up 0 l8x4
          have l8x4d1 := le_up 1 l8x4
          simp only [upN] at l8x4d0 l8x4d1
          have c8x5 := Own.cell O8 5 rfl
          have f8x5 := Own.free O8 5 rfl
          have l8x5 := Own.lt O8 5 rfl
          have l8x5d0 := le_up 0 l8x5
          have l8x5d1 := le_up 1 l8x5
          simp only [upN] at l8x5d0 l8x5d1
          have HO8 := Lib.hid O8
          clear O8 hb8
          replace hc0 := (hwc8.cell (p := ⟨b', off + k * 4, none⟩) (World.block_lt_of_cell? wr _ hc0)).trans hc0
          replace hc1 := (hwc8.cell (p := ⟨b', off + k * 4 + 1, none⟩) (World.block_lt_of_cell? wr _ hc1)).trans hc1
          replace hc2 := (hwc8.cell (p := ⟨b', off + k * 4 + 2, none⟩) (World.block_lt_of_cell? wr _ hc2)).trans hc2
          replace hc3 := (hwc8.cell (p := ⟨b', off + k * 4 + 3, none⟩) (World.block_lt_of_cell? wr _ hc3)).trans hc3
          go_wp2_with fail
          refine (HRG.out _).mono ?_
          rintro e w9 ⟨rfl, hb9⟩
          have O9 := Own.grow' hb9 HO8.out
          try simp only [List.setIfInBounds_toArray, List.set_cons_zero, List.set_cons_succ] at O9
          have bw9 : Below w.heap.size w w9 := Below.trans (by go_grown) (Below.mono hb9 (by first | omega | (simp; done) | (simp; omega)))
          have zw9 := Below.size hb9
          try simp only [World.size_alloc, World.size_drew, World.size_setCell] at zw9
          have hwc9 : Below w8.heap.size w8 w9 := Below.trans (by go_grown) (Below.mono hb9 (by first | omega | (simp; done) | (simp; omega)))
          clear c8x0 f8x0 l8x0 l8x0d0 l8x0d1 c8x1 f8x1 l8x1 l8x1d0 l8x1d1 c8x2 f8x2 l8x2 l8x2d0 l8x2d1 c8x3 f8x3 l8x3 l8x3d0 l8x3d1 c8x4 f8x4 l8x4 l8x4d0 l8x4d1 c8x5 f8x5 l8x5 l8x5d0 l8x5d1
          have c9x0 := Own.cell O9 0 rfl
          have f9x0 := Own.free O9 0 rfl
          have l9x0 := Own.lt O9 0 rfl
          have l9x0d0 := le_up 0 l9x0
          have l9x0d1 := le_up 1 l9x0
          simp only [upN] at l9x0d0 l9x0d1
          have c9x1 := Own.cell O9 1 rfl
          have f9x1 := Own.free O9 1 rfl
          have l9x1 := Own.lt O9 1 rfl
          have l9x1d0 := le_up 0 l9x1
          have l9x1d1 := le_up 1 l9x1
          simp only [upN] at l9x1d0 l9x1d1
          have c9x2 := Own.cell O9 2 rfl
          have f9x2 := Own.free O9 2 rfl
          have l9x2 := Own.lt O9 2 rfl
          have l9x2d0 := le_up 0 l9x2
          have l9x2d1 := le_up 1 l9x2
          simp only [upN] at l9x2d0 l9x2d1
          have c9x3 := Own.cell O9 3 rfl
          have f9x3 := Own.free O9 3 rfl
          have l9x3 := Own.lt O9 3 rfl
          have l9x3d0 := le_up 0 l9x3
          have l9x3d1 := le_up 1 l9x3
          simp only [upN] at l9x3d0 l9x3d1
          have c9x4 := Own.cell O9 4 rfl
          have f9x4 := Own.free O9 4 rfl
          have l9x4 := Own.lt O9 4 rfl
          have l9x4d0 := le_up 0 l9x4
          have l9x4d1 := le_up 1 l9x4
          simp only [upN] at l9x4d0 l9x4d1
          have c9x5 := Own.cell O9 5 rfl
          have f9x5 := Own.free O9 5 rfl
          have l9x5 := Own.lt O9 5 rfl
          have l9x5d0 := le_up 0 l9x5
          have l9x5d1 := le_up 1 l9x5
          simp only [upN] at l9x5d0 l9x5d1
          have HO9 := Lib.hid O9
          clear O9 hb9
          replace hc0 := (hwc9.cell (p := ⟨b', off + k * 4, none⟩) (World.block_lt_of_cell? w8 _ hc0)).trans hc0
          replace hc1 := (hwc9.cell (p := ⟨b', off + k * 4 + 1, none⟩) (World.block_lt_of_cell? w8 _ hc1)).trans hc1
          replace hc2 := (hwc9.cell (p := ⟨b', off + k * 4 + 2, none⟩) (World.block_lt_of_cell? w8 _ hc2)).trans hc2
          replace hc3 := (hwc9.cell (p := ⟨b', off + k * 4 + 3, none⟩) (World.block_lt_of_cell? w8 _ hc3)).trans hc3
          go_wp2_with fail
          refine (HRC.out _).mono ?_
          rintro e w10 ⟨rfl, hb10⟩
          have O10 := Own.grow' hb10 HO9.out
          try simp only [List.setIfInBounds_toArray, List.set_cons_zero, List.set_cons_succ] at O10
          have bw10 : Below w.heap.size w w10 := Below.trans (by go_grown) (Below.mono hb10 (by first | omega | (simp; done) | (simp; omega)))
          have zw10 := Below.size hb10
          try simp only [World.size_alloc, World.size_drew, World.size_setCell] at zw10
          have hwc10 : Below w9.heap.size w9 w10 := Below.trans (by go_grown) (Below.mono hb10 (by first | omega | (simp; done) | (simp; omega)))
          clear c9x0 f9x0 l9x0 l9x0d0 l9x0d1 c9x1 f9x1 l9x1 l9x1d0 l9x1d1 c9x2 f9x2 l9x2 l9x2d0 l9x2d1 c9x3 f9x3 l9x3 l9x3d0 l9x3d1 c9x4 f9x4 l9x4 l9x4d0 l9x4d1 c9x5 f9x5 l9x5 l9x5d0 l9x5d1
          have c10x0 := Own.cell O10 0 rfl
          have f10x0 := Own.free O10 0 rfl
          have l10x0 := Own.lt O10 0 rfl
          have l10x0d0 := le_up 0 l10x0
          have l10x0d1 := le_up 1 l10x0
          simp only [upN] at l10x0d0 l10x0d1
          have c10x1 := Own.cell O10 1 rfl
          have f10x1 := Own.free O10 1 rfl
          have l10x1 := Own.lt O10 1 rfl
          have l10x1d0 := le_up 0 l10x1
          have l10x1d1 := le_up 1 l10x1
          simp only [upN] at l10x1d0 l10x1d1
          have c10x2 := Own.cell O10 2 rfl
          have f10x2 := Own.free O10 2 rfl
          have l10x2 := Own.lt O10 2 rfl
          have l10x2d0 := le_up 0 l10x2
          have l10x2d1 := le_up 1 l10x2
          simp only [upN] at l10x2d0 l10x2d1
          have c10x3 := Own.cell O10 3 rfl
          have f10x3 := Own.free O10 3 rfl
          have l10x3 := Own.lt O10 3 rfl
          have l10x3d0 := le_up 0 l10x3
          have l10x3d1 := le_up 1 l10x3
          simp only [upN] at l10x3d0 l10x3d1
          have c10x4 := Own.cell O10 4 rfl
          have f10x4 := Own.free O10 4 rfl
          have l10x4 := Own.lt O10 4 rfl
          have l10x4d0 := le_up 0 l10x4
          have l10x4d1 := le_up 1 l10x4
          simp only [upN] at l10x4d0 l10x4d1
          have c10x5 := Own.cell O10 5 rfl
          have f10x5 := Own.free O10 5 rfl
          have l10x5 := Own.lt O10 5 rfl
          have l10x5d0 := le_up 0 l10x5
          have l10x5d1 := le_up 1 l10x5
          simp only [upN] at l10x5d0 l10x5d1
          have HO10 := Lib.hid O10
          clear O10 hb10
          replace hc0 := (hwc10.cell (p := ⟨b', off + k * 4, none⟩) (World.block_lt_of_cell? w9 _ hc0)).trans hc0
          replace hc1 := (hwc10.cell (p := ⟨b', off + k * 4 + 1, none⟩) (World.block_lt_of_cell? w9 _ hc1)).trans hc1
          replace hc2 := (hwc10.cell (p := ⟨b', off + k * 4 + 2, none⟩) (World.block_lt_of_cell? w9 _ hc2)).trans hc2
          replace hc3 := (hwc10.cell (p := ⟨b', off + k * 4 + 3, none⟩) (World.block_lt_of_cell? w9 _ hc3)).trans hc3
          have hn1 : ¬ v8g1 = w1.heap.size := by omega
          have hn2 : ¬ w1.heap.size = v8g1 := by omega
          go_wp2_with fail
          refine (HRC.out _).mono ?_
          rintro e w11 ⟨rfl, hb11⟩
          have O11 := Own.grow' hb11 HO10.out
          try simp only [List.setIfInBounds_toArray, List.set_cons_zero, List.set_cons_succ] at O11
          have bw11 : Below w.heap.size w w11 := Below.trans (by go_grown) (Below.mono hb11 (by first | omega | (simp; done) | (simp; omega)))
          have zw11 := Below.size hb11
          try simp only [World.size_alloc, World.size_drew, World.size_setCell] at zw11
          have hwc11 : Below w10.heap.size w10 w11 := Below.trans (by go_grown) (Below.mono hb11 (by first | omega | (simp; done) | (simp; omega)))
          clear c10x0 f10x0 l10x0 l10x0d0 l10x0d1 c10x1 f10x1 l10x1 l10x1d0 l10x1d1 c10x2 f10x2 l10x2 l10x2d0 l10x2d1 c10x3 f10x3 l10x3 l10x3d0 l10x3d1 c10x4 f10x4 l10x4 l10x4d0 l10x4d1 c10x5 f10x5 l10x5 l10x5d0 l10x5d1
          have c11x0 := Own.cell O11 0 rfl
          have f11x0 := Own.free O11 0 rfl
          have l11x0 := Own.lt O11 0 rfl
          have l11x0d0 := le_up 0 l11x0
          have l11x0d1 := le_up 1 l11x0
          simp only [upN] at l11x0d0 l11x0d1
          have c11x1 := Own.cell O11 1 rfl
          have f11x1 := Own.free O11 1 rfl
          have l11x1 := Own.lt O11 1 rfl
          have l11x1d0 := le_up 0 l11x1
          have l11x1d1 := le_up 1 l11x1
          simp only [upN] at l11x1d0 l11x1d1
          have c11x2 := Own.cell O11 2 rfl
          have f11x2 := Own.free O11 2 rfl
          have l11x2 := Own.lt O11 2 rfl
          have l11x2d0 := le_up 0 l11x2
          have l11x2d1 := le_up 1 l11x2
          simp only [upN] at l11x2d0 l11x2d1
          have c11x3 := Own.cell O11 3 rfl
          have f11x3 := Own.free O11 3 rfl
          have l11x3 := Own.lt O11 3 rfl
          have l11x3d0 := le_up 0 l11x3
          have l11x3d1 := le_up 1 l11x3
          simp only [upN] at l11x3d0 l11x3d1
          have c11x4 := Own.cell O11 4 rfl
          have f11x4 := Own.free O11 4 rfl
          have l11x4 := Own.lt O11 4 rfl
          have l11x4d0 := le_up 0 l11x4
          have l11x4d1 := le_up 1 l11x4
          simp only [upN] at l11x4d0 l11x4d1
          have c11x5 := Own.cell O11 5 rfl
          have f11x5 := Own.free O11 5 rfl
          have l11x5 := Own.lt O11 5 rfl
          have l11x5d0 := le_up 0 l11x5
          have l11x5d1 := le_up 1 l11x5
          simp only [upN] at l11x5d0 l11x5d1
          have HO11 := Lib.hid O11
          clear O11 hb11
          go_wp2_with fail
          refine (num_any _ _).mono ?_
          rintro e w' ⟨rfl, rfl⟩
          go_wp2_with fail
          exact ⟨⟨k + 1, by omega, by go_num, Own.eqv (Own.tl (Own.set HO11.out 1 rfl (Ne1.cons (by first | omega | (simp; omega)) (Ne1.cons (by first | omega | (simp; omega)) (Ne1.cons (by first | omega | (simp; omega)) (Ne1.cons (by first | omega | (simp; omega)) (Ne1.cons (by first | omega | (simp; omega)) Ne1.nil))))))) (by (try dsimp only); rw [hst, hrk, hyo]; simp), by go_grown⟩, by simp [intOf]; omega⟩
      · obtain ⟨rk, hrk⟩ : ∃ rk, rKf xs k = rk := ⟨_, rfl⟩
        rw [hrk] at hO
        have O12 := hO
        have c12x0 := Own.cell O12 0 rfl
        have f12x0 := Own.free O12 0 rfl
        have l12x0 := Own.lt O12 0 rfl
        have l12x0d0 := le_up 0 l12x0
        have l12x0d1 := le_up 1 l12x0
        simp only [upN] at l12x0d0 l12x0d1
        have c12x1 := Own.cell O12 1 rfl
        have f12x1 := Own.free O12 1 rfl
        have l12x1 := Own.lt O12 1 rfl
        have l12x1d0 := le_up 0 l12x1
        have l12x1d1 := le_up 1 l12x1
        simp only [upN] at l12x1d0 l12x1d1
        have c12x2 := Own.cell O12 2 rfl
        have f12x2 := Own.free O12 2 rfl
        have l12x2 := Own.lt O12 2 rfl
        have l12x2d0 := le_up 0 l12x2
        have l12x2d1 := le_up 1 l12x2
        simp only [upN] at l12x2d0 l12x2d1
        have c12x3 := Own.cell O12 3 rfl
        have f12x3 := Own.free O12 3 rfl
        have l12x3 := Own.lt O12 3 rfl
        have l12x3d0 := le_up 0 l12x3
        have l12x3d1 := le_up 1 l12x3
        simp only [upN] at l12x3d0 l12x3d1
        have c12x4 := Own.cell O12 4 rfl
        have f12x4 := Own.free O12 4 rfl
        have l12x4 := Own.lt O12 4 rfl
        have l12x4d0 := le_up 0 l12x4
        have l12x4d1 := le_up 1 l12x4
        simp only [upN] at l12x4d0 l12x4d1
        have HO12 := Lib.hid O12
        clear O12
        have hz0 := l12x0
        have hz1 := l12x1
        have hz2 := l12x2
        have hz3 := l12x3
        have hz4 := l12x4
        obtain ⟨a, kk, ht, hr⟩ := HTB.out y (List.mem_of_getElem? hy) hyo
        have HT := Lib.hid ht
        have HRf := Lib.hid hr
        clear ht hr
        have hrc := fun V : World => rightCost_is y V
        rw [hyo] at hrc
        have HRC := Lib.hid hrc
        clear hrc
        go_wp2_with fail
        refine wp_region_grow wr.heap.size 14 2048 1024 [(0, 0, 137438953472, 8), (1, 0, 274877906944, 16), (2, 0, 549755813888, 256), (3, 6, 1099511627776, 824633720832), (4, 8, 2199023255552, 1099511627776), (5, 17, 4398046511104, 2336462209024), (6, 32, 68719476736, 4398046511104), (7, 64, 8796093022208, 68719476736), (8, 64, 17592186044416, 68719476736), (9, 64, 35184372088832, 68719476736), (10, 0, 512, 0), (11, 1279, 0, 8796093022720), (12, 3583, 1024, 17592186044416), (13, 8191, 2048, 35184372088832)] [(.p 0, 1), (.p 1, 3), (.p 2, 7), (.p 3, 15), (.q 4, 31), (.p 5, 63), (.p 6, 127), (.p 7, 255), (.p 8, 511), (.p 9, 1023), (.g 10, 2047), (.c 11, 4095), (.p 12, 8191), (.p 13, 16383)] [] _ (fun p hp => hp) (by first | omega | (simp; done) | (simp; omega)) (by kernel_rfl) (by kernel_rfl) HO12.out ?_
        refine wpG_pure (i := 0) (v := ?v13x0) rfl rfl (by rfl) (fun w hB hG K hK => ?h13x0) ?_
        case h13x0 =>
          have cx := Own.cell hG 4 rfl
          go_wp2_with fail
          exact hK _ (Below.refl _ _)
        simp only [List.set_cons_zero, List.set_cons_succ]
        refine wpG_pure (i := 1) (v := ?v13x1) rfl rfl (by rfl) (fun w hB hG K hK => ?h13x1) ?_
        case h13x1 =>
          have cx := Own.cell hG 3 rfl
          go_wp2_with fail
          exact hK _ (Below.refl _ _)
        simp only [List.set_cons_zero, List.set_cons_succ]
        refine wpG_move (i := 2) rfl rfl rfl (by rfl) rfl ?_
        simp only [List.set_cons_zero, List.set_cons_succ]
        refine wpG_pure (i := 3) (v := ?v13x3) rfl rfl (by rfl) (fun w hB hG K hK => ?h13x3) ?_
        case h13x3 =>
          go_wp2_with fail
          exact hK _ (Below.refl _ _)
        simp only [List.set_cons_zero, List.set_cons_succ]
        refine wpG_op (i := 4) (v := ?v13x4) rfl rfl (by rfl) (fun w hB hG K hK => ?h13x4) ?_
        case h13x4 =>
          have hx0 := (hB.cell (p := ⟨b', off + k * 4, none⟩) (World.block_lt_of_cell? wr _ hc0)).trans hc0
          have hx1 := (hB.cell (p := ⟨b', off + k * 4 + 1, none⟩) (World.block_lt_of_cell? wr _ hc1)).trans hc1
          have hx2 := (hB.cell (p := ⟨b', off + k * 4 + 2, none⟩) (World.block_lt_of_cell? wr _ hc2)).trans hc2
          have hx3 := (hB.cell (p := ⟨b', off + k * 4 + 3, none⟩) (World.block_lt_of_cell? wr _ hc3)).trans hc3
          go_wp2_with fail
          exact hK _ (Below.refl _ _)
        simp only [List.set_cons_zero, List.set_cons_succ]
        refine wpG_pure (i := 5) (v := ?v13x5) rfl rfl (by rfl) (fun w hB hG K hK => ?h13x5) ?_
        case h13x5 =>
          go_wp2_with fail
          refine (HT.out _).mono ?_
          rintro e wx ⟨rfl, hbx⟩
          exact hK _ hbx
        simp only [List.set_cons_zero, List.set_cons_succ]
        refine wpG_move (i := 6) rfl rfl rfl (by rfl) rfl ?_
        simp only [List.set_cons_zero, List.set_cons_succ]
        refine wpG_pure (i := 7) (v := ?v13x7) rfl rfl (by rfl) (fun w hB hG K hK => ?h13x7) ?_
        case h13x7 =>
          go_wp2_with fail
          exact hK _ (Below.refl _ _)
        simp only [List.set_cons_zero, List.set_cons_succ]
        refine wpG_pure (i := 8) (v := ?v13x8) rfl rfl (by rfl) (fun w hB hG K hK => ?h13x8) ?_
        case h13x8 =>
          go_wp2_with fail
          exact hK _ (Below.refl _ _)
        simp only [List.set_cons_zero, List.set_cons_succ]
        refine wpG_pure (i := 9) (v := ?v13x9) rfl rfl (by rfl) (fun w hB hG K hK => ?h13x9) ?_
        case h13x9 =>
          go_wp2_with fail
          exact hK _ (Below.refl _ _)
        simp only [List.set_cons_zero, List.set_cons_succ]
        refine wpG_make (i := 10) (c := ?c13x10) (t := ?t13x10) (fun b => .pointer (some ⟨b, 0, none⟩)) rfl rfl (by rfl) (fun w hB hG K hK => ?h13x10) (fun v13g1 l13g1 n13g1 => ?_)
        case h13x10 =>
          go_wp2_with fail
          exact hK
        simp only [List.set_cons_zero, List.set_cons_succ]
        try simp only [World.size_alloc, World.size_drew, World.size_setCell] at l13g1
        clear n13g1
        refine wpG_store (i := 11) (c' := ?c13x11) 0 rfl (Ne1.cons (by first | omega | (simp; omega)) (Ne1.cons (by first | omega | (simp; omega)) (Ne1.cons (by first | omega | (simp; omega)) (Ne1.cons (by first | omega | (simp; omega)) (Ne1.cons (by first | omega | (simp; omega)) Ne1.nil))))) (by first | omega | (simp; omega)) (fun p hp => List.mem_cons_of_mem _ (hp)) rfl rfl (by rfl) (fun w hB hF hG K hK => ?h13x11) ?_
        case h13x11 =>
          have cx := hF.cell
          have fx := hF.free
          go_wp2_with fail
          refine hK _ (Same.set (Same.set (Same.set (Same.set (Same.refl _ _) _ _) _ _) _ _) _ _) ?_
          exact (Blk.set (Blk.set (Blk.set (Blk.set hF _ _) _ _) _ _) _ _)
        simp only [List.set_cons_zero, List.set_cons_succ, List.setIfInBounds_toArray]
        refine wpG_assign (i := 12) rfl rfl rfl (by rfl) rfl ?_
        simp only [List.set_cons_zero, List.set_cons_succ]
        refine wpG_assign (i := 13) rfl rfl rfl (by rfl) rfl ?_
        simp only [List.set_cons_zero, List.set_cons_succ]
        refine wpG_nil (fun w13 hb13 hG13 => ?_)
        simp only [List.append_eq, List.cons_append, List.nil_append, List.drop_succ_cons, List.drop_zero, List.drop_nil]
        have u13g1 := Own.lt hG13 0 rfl
        have O13 := Own.of hG13
        try simp only [List.setIfInBounds_toArray, List.set_cons_zero, List.set_cons_succ] at O13
        have bw13 : Below w.heap.size w w13 := Below.trans (by go_grown) (Below.mono hb13 (by first | omega | (simp; done) | (simp; omega)))
        have zw13 := Below.size hb13
        try simp only [World.size_alloc, World.size_drew, World.size_setCell] at zw13
        have hwc13 : Below wr.heap.size wr w13 := Below.trans (by go_grown) (Below.mono hb13 (by first | omega | (simp; done) | (simp; omega)))
        clear c12x0 f12x0 l12x0 l12x0d0 l12x0d1 c12x1 f12x1 l12x1 l12x1d0 l12x1d1 c12x2 f12x2 l12x2 l12x2d0 l12x2d1 c12x3 f12x3 l12x3 l12x3d0 l12x3d1 c12x4 f12x4 l12x4 l12x4d0 l12x4d1
        have c13x0 := Own.cell O13 0 rfl
        have f13x0 := Own.free O13 0 rfl
        have l13x0 := Own.lt O13 0 rfl
        have l13x0d0 := le_up 0 l13x0
        have l13x0d1 := le_up 1 l13x0
        simp only [upN] at l13x0d0 l13x0d1
        have c13x1 := Own.cell O13 1 rfl
        have f13x1 := Own.free O13 1 rfl
        have l13x1 := Own.lt O13 1 rfl
        have l13x1d0 := le_up 0 l13x1
        have l13x1d1 := le_up 1 l13x1
        simp only [upN] at l13x1d0 l13x1d1
        have c13x2 := Own.cell O13 2 rfl
        have f13x2 := Own.free O13 2 rfl
        have l13x2 := Own.lt O13 2 rfl
        have l13x2d0 := le_up 0 l13x2
        have l13x2d1 := le_up 1 l13x2
        simp only [upN] at l13x2d0 l13x2d1
        have c13x3 := Own.cell O13 3 rfl
        have f13x3 := Own.free O13 3 rfl
        have l13x3 := Own.lt O13 3 rfl
        have l13x3d0 := le_up 0 l13x3
        have l13x3d1 := le_up 1 l13x3
        simp only [upN] at l13x3d0 l13x3d1
        have c13x4 := Own.cell O13 4 rfl
        have f13x4 := Own.free O13 4 rfl
        have l13x4 := Own.lt O13 4 rfl
        have l13x4d0 := le_up 0 l13x4
        have l13x4d1 := le_up 1 l13x4
        simp only [upN] at l13x4d0 l13x4d1
        have c13x5 := Own.cell O13 5 rfl
        have f13x5 := Own.free O13 5 rfl
        have l13x5 := Own.lt O13 5 rfl
        have l13x5d0 := le_up 0 l13x5
        have l13x5d1 := le_up 1 l13x5
        simp only [upN] at l13x5d0 l13x5d1
        have HO13 := Lib.hid O13
        clear O13 hb13
        replace hc0 := (hwc13.cell (p := ⟨b', off + k * 4, none⟩) (World.block_lt_of_cell? wr _ hc0)).trans hc0
        replace hc1 := (hwc13.cell (p := ⟨b', off + k * 4 + 1, none⟩) (World.block_lt_of_cell? wr _ hc1)).trans hc1
        replace hc2 := (hwc13.cell (p := ⟨b', off + k * 4 + 2, none⟩) (World.block_lt_of_cell? wr _ hc2)).trans hc2
        replace hc3 := (hwc13.cell (p := ⟨b', off + k * 4 + 3, none⟩) (World.block_lt_of_cell? wr _ hc3)).trans hc3
        go_wp2_with fail
        refine (HRG.out _).mono ?_
        rintro e w14 ⟨rfl, hb14⟩
        have O14 := Own.grow' hb14 HO13.out
        try simp only [List.setIfInBounds_toArray, List.set_cons_zero, List.set_cons_succ] at O14
        have bw14 : Below w.heap.size w w14 := Below.trans (by go_grown) (Below.mono hb14 (by first | omega | (simp; done) | (simp; omega)))
        have zw14 := Below.size hb14
        try simp only [World.size_alloc, World.size_drew, World.size_setCell] at zw14
        have hwc14 : Below w13.heap.size w13 w14 := Below.trans (by go_grown) (Below.mono hb14 (by first | omega | (simp; done) | (simp; omega)))
        clear c13x0 f13x0 l13x0 l13x0d0 l13x0d1 c13x1 f13x1 l13x1 l13x1d0 l13x1d1 c13x2 f13x2 l13x2 l13x2d0 l13x2d1 c13x3 f13x3 l13x3 l13x3d0 l13x3d1 c13x4 f13x4 l13x4 l13x4d0 l13x4d1 c13x5 f13x5 l13x5 l13x5d0 l13x5d1
        have c14x0 := Own.cell O14 0 rfl
        have f14x0 := Own.free O14 0 rfl
        have l14x0 := Own.lt O14 0 rfl
        have l14x0d0 := le_up 0 l14x0
        have l14x0d1 := le_up 1 l14x0
        simp only [upN] at l14x0d0 l14x0d1
        have c14x1 := Own.cell O14 1 rfl
        have f14x1 := Own.free O14 1 rfl
        have l14x1 := Own.lt O14 1 rfl
        have l14x1d0 := le_up 0 l14x1
        have l14x1d1 := le_up 1 l14x1
        simp only [upN] at l14x1d0 l14x1d1
        have c14x2 := Own.cell O14 2 rfl
        have f14x2 := Own.free O14 2 rfl
        have l14x2 := Own.lt O14 2 rfl
        have l14x2d0 := le_up 0 l14x2
        have l14x2d1 := le_up 1 l14x2
        simp only [upN] at l14x2d0 l14x2d1
        have c14x3 := Own.cell O14 3 rfl
        have f14x3 := Own.free O14 3 rfl
        have l14x3 := Own.lt O14 3 rfl
        have l14x3d0 := le_up 0 l14x3
        have l14x3d1 := le_up 1 l14x3
        simp only [upN] at l14x3d0 l14x3d1
        have c14x4 := Own.cell O14 4 rfl
        have f14x4 := Own.free O14 4 rfl
        have l14x4 := Own.lt O14 4 rfl
        have l14x4d0 := le_up 0 l14x4
        have l14x4d1 := le_up 1 l14x4
        simp only [upN] at l14x4d0 l14x4d1
        have c14x5 := Own.cell O14 5 rfl
        have f14x5 := Own.free O14 5 rfl
        have l14x5 := Own.lt O14 5 rfl
        have l14x5d0 := le_up 0 l14x5
        have l14x5d1 := le_up 1 l14x5
        simp only [upN] at l14x5d0 l14x5d1
        have HO14 := Lib.hid O14
        clear O14 hb14
        replace hc0 := (hwc14.cell (p := ⟨b', off + k * 4, none⟩) (World.block_lt_of_cell? w13 _ hc0)).trans hc0
        replace hc1 := (hwc14.cell (p := ⟨b', off + k * 4 + 1, none⟩) (World.block_lt_of_cell? w13 _ hc1)).trans hc1
        replace hc2 := (hwc14.cell (p := ⟨b', off + k * 4 + 2, none⟩) (World.block_lt_of_cell? w13 _ hc2)).trans hc2
        replace hc3 := (hwc14.cell (p := ⟨b', off + k * 4 + 3, none⟩) (World.block_lt_of_cell? w13 _ hc3)).trans hc3
        go_wp2_with fail
        refine (HRC.out _).mono ?_
        rintro e w15 ⟨rfl, hb15⟩
        have O15 := Own.grow' hb15 HO14.out
        try simp only [List.setIfInBounds_toArray, List.set_cons_zero, List.set_cons_succ] at O15
        have bw15 : Below w.heap.size w w15 := Below.trans (by go_grown) (Below.mono hb15 (by first | omega | (simp; done) | (simp; omega)))
        have zw15 := Below.size hb15
        try simp only [World.size_alloc, World.size_drew, World.size_setCell] at zw15
        have hwc15 : Below w14.heap.size w14 w15 := Below.trans (by go_grown) (Below.mono hb15 (by first | omega | (simp; done) | (simp; omega)))
        clear c14x0 f14x0 l14x0 l14x0d0 l14x0d1 c14x1 f14x1 l14x1 l14x1d0 l14x1d1 c14x2 f14x2 l14x2 l14x2d0 l14x2d1 c14x3 f14x3 l14x3 l14x3d0 l14x3d1 c14x4 f14x4 l14x4 l14x4d0 l14x4d1 c14x5 f14x5 l14x5 l14x5d0 l14x5d1
        have c15x0 := Own.cell O15 0 rfl
        have f15x0 := Own.free O15 0 rfl
        have l15x0 := Own.lt O15 0 rfl
        have l15x0d0 := le_up 0 l15x0
        have l15x0d1 := le_up 1 l15x0
        simp only [upN] at l15x0d0 l15x0d1
        have c15x1 := Own.cell O15 1 rfl
        have f15x1 := Own.free O15 1 rfl
        have l15x1 := Own.lt O15 1 rfl
        have l15x1d0 := le_up 0 l15x1
        have l15x1d1 := le_up 1 l15x1
        simp only [upN] at l15x1d0 l15x1d1
        have c15x2 := Own.cell O15 2 rfl
        have f15x2 := Own.free O15 2 rfl
        have l15x2 := Own.lt O15 2 rfl
        have l15x2d0 := le_up 0 l15x2
        have l15x2d1 := le_up 1 l15x2
        simp only [upN] at l15x2d0 l15x2d1
        have c15x3 := Own.cell O15 3 rfl
        have f15x3 := Own.free O15 3 rfl
        have l15x3 := Own.lt O15 3 rfl
        have l15x3d0 := le_up 0 l15x3
        have l15x3d1 := le_up 1 l15x3
        simp only [upN] at l15x3d0 l15x3d1
        have c15x4 := Own.cell O15 4 rfl
        have f15x4 := Own.free O15 4 rfl
        have l15x4 := Own.lt O15 4 rfl
        have l15x4d0 := le_up 0 l15x4
        have l15x4d1 := le_up 1 l15x4
        simp only [upN] at l15x4d0 l15x4d1
        have c15x5 := Own.cell O15 5 rfl
        have f15x5 := Own.free O15 5 rfl
        have l15x5 := Own.lt O15 5 rfl
        have l15x5d0 := le_up 0 l15x5
        have l15x5d1 := le_up 1 l15x5
        simp only [upN] at l15x5d0 l15x5d1
        have HO15 := Lib.hid O15
        clear O15 hb15
        replace hc0 := (hwc15.cell (p := ⟨b', off + k * 4, none⟩) (World.block_lt_of_cell? w14 _ hc0)).trans hc0
        replace hc1 := (hwc15.cell (p := ⟨b', off + k * 4 + 1, none⟩) (World.block_lt_of_cell? w14 _ hc1)).trans hc1
        replace hc2 := (hwc15.cell (p := ⟨b', off + k * 4 + 2, none⟩) (World.block_lt_of_cell? w14 _ hc2)).trans hc2
        replace hc3 := (hwc15.cell (p := ⟨b', off + k * 4 + 3, none⟩) (World.block_lt_of_cell? w14 _ hc3)).trans hc3
        go_wp2_with fail
        refine wp_region_grow w15.heap.size 12 1024 512 [(0, 0, 302231454903657293676544, 8), (1, 0, 604462909807314587353088, 16), (2, 0, 1208925819614629174706176, 256), (3, 6, 2417851639229258349412352, 1813388729421943762059264), (4, 8, 4835703278458516698824704, 2417851639229258349412352), (5, 17, 9671406556917033397649408, 5137934733362173992501248), (6, 32, 151115727451828646838272, 9671406556917033397649408), (7, 64, 19342813113834066795298816, 151115727451828646838272), (8, 64, 38685626227668133590597632, 151115727451828646838272), (9, 0, 4096, 0), (10, 767, 0, 19342813113834066795302912), (11, 2047, 8192, 38685626227668133590597632)] [(.p 0, 1), (.p 1, 3), (.p 2, 7), (.p 3, 15), (.q 4, 31), (.p 5, 63), (.p 6, 127), (.p 7, 255), (.p 8, 511), (.g 9, 1023), (.c 10, 2047), (.p 11, 4095)] [] _ (fun p hp => hp) (by first | omega | (simp; done) | (simp; omega)) (by kernel_rfl) (by kernel_rfl) HO15.out ?_
        refine wpG_pure (i := 0) (v := ?v16x0) rfl rfl (by rfl) (fun w hB hG K hK => ?h16x0) ?_
        case h16x0 =>
          have cx := Own.cell hG 5 rfl
          go_wp2_with fail
          exact hK _ (Below.refl _ _)
        simp only [List.set_cons_zero, List.set_cons_succ]
        refine wpG_pure (i := 1) (v := ?v16x1) rfl rfl (by rfl) (fun w hB hG K hK => ?h16x1) ?_
        case h16x1 =>
          have cx := Own.cell hG 4 rfl
          go_wp2_with fail
          exact hK _ (Below.refl _ _)
        simp only [List.set_cons_zero, List.set_cons_succ]
        refine wpG_move (i := 2) rfl rfl rfl (by rfl) rfl ?_
        simp only [List.set_cons_zero, List.set_cons_succ]
        refine wpG_pure (i := 3) (v := ?v16x3) rfl rfl (by rfl) (fun w hB hG K hK => ?h16x3) ?_
        case h16x3 =>
          go_wp2_with fail
          exact hK _ (Below.refl _ _)
        simp only [List.set_cons_zero, List.set_cons_succ]
        refine wpG_op (i := 4) (v := ?v16x4) rfl rfl (by rfl) (fun w hB hG K hK => ?h16x4) ?_
        case h16x4 =>
          have hx0 := (hB.cell (p := ⟨b', off + k * 4, none⟩) (World.block_lt_of_cell? w15 _ hc0)).trans hc0
          have hx1 := (hB.cell (p := ⟨b', off + k * 4 + 1, none⟩) (World.block_lt_of_cell? w15 _ hc1)).trans hc1
          have hx2 := (hB.cell (p := ⟨b', off + k * 4 + 2, none⟩) (World.block_lt_of_cell? w15 _ hc2)).trans hc2
          have hx3 := (hB.cell (p := ⟨b', off + k * 4 + 3, none⟩) (World.block_lt_of_cell? w15 _ hc3)).trans hc3
          go_wp2_with fail
          exact hK _ (Below.refl _ _)
        simp only [List.set_cons_zero, List.set_cons_succ]
        refine wpG_pure (i := 5) (v := ?v16x5) rfl rfl (by rfl) (fun w hB hG K hK => ?h16x5) ?_
        case h16x5 =>
          go_wp2_with fail
          refine (HRf.out _).mono ?_
          rintro e wx ⟨rfl, hbx⟩
          exact hK _ hbx
        simp only [List.set_cons_zero, List.set_cons_succ]
        refine wpG_move (i := 6) rfl rfl rfl (by rfl) rfl ?_
        simp only [List.set_cons_zero, List.set_cons_succ]
        refine wpG_pure (i := 7) (v := ?v16x7) rfl rfl (by rfl) (fun w hB hG K hK => ?h16x7) ?_
        case h16x7 =>
          go_wp2_with fail
          exact hK _ (Below.refl _ _)
        simp only [List.set_cons_zero, List.set_cons_succ]
        refine wpG_pure (i := 8) (v := ?v16x8) rfl rfl (by rfl) (fun w hB hG K hK => ?h16x8) ?_
        case h16x8 =>
          go_wp2_with fail
          exact hK _ (Below.refl _ _)
        simp only [List.set_cons_zero, List.set_cons_succ]
        refine wpG_make (i := 9) (c := ?c16x9) (t := ?t16x9) (fun b => .pointer (some ⟨b, 0, none⟩)) rfl rfl (by rfl) (fun w hB hG K hK => ?h16x9) (fun v16g1 l16g1 n16g1 => ?_)
        case h16x9 =>
          go_wp2_with fail
          exact hK
        simp only [List.set_cons_zero, List.set_cons_succ]
        try simp only [World.size_alloc, World.size_drew, World.size_setCell] at l16g1
        clear n16g1
        refine wpG_store (i := 10) (c' := ?c16x10) 0 rfl (Ne1.cons (by first | omega | (simp; omega)) (Ne1.cons (by first | omega | (simp; omega)) (Ne1.cons (by first | omega | (simp; omega)) (Ne1.cons (by first | omega | (simp; omega)) (Ne1.cons (by first | omega | (simp; omega)) (Ne1.cons (by first | omega | (simp; omega)) Ne1.nil)))))) (by first | omega | (simp; omega)) (fun p hp => List.mem_cons_of_mem _ (hp)) rfl rfl (by rfl) (fun w hB hF hG K hK => ?h16x10) ?_
        case h16x10 =>
          have cx := hF.cell
          have fx := hF.free
          go_wp2_with fail
          refine hK _ (Same.set (Same.set (Same.set (Same.set (Same.refl _ _) _ _) _ _) _ _) _ _) ?_
          exact (Blk.set (Blk.set (Blk.set (Blk.set hF _ _) _ _) _ _) _ _)
        simp only [List.set_cons_zero, List.set_cons_succ, List.setIfInBounds_toArray]
        refine wpG_assign (i := 11) rfl rfl rfl (by rfl) rfl ?_
        simp only [List.set_cons_zero, List.set_cons_succ]
        refine wpG_nil (fun w16 hb16 hG16 => ?_)
        simp only [List.append_eq, List.cons_append, List.nil_append, List.drop_succ_cons, List.drop_zero, List.drop_nil]
        have u16g1 := Own.lt hG16 0 rfl
        have O16 := Own.of hG16
        try simp only [List.setIfInBounds_toArray, List.set_cons_zero, List.set_cons_succ] at O16
        have bw16 : Below w.heap.size w w16 := Below.trans (by go_grown) (Below.mono hb16 (by first | omega | (simp; done) | (simp; omega)))
        have zw16 := Below.size hb16
        try simp only [World.size_alloc, World.size_drew, World.size_setCell] at zw16
        have hwc16 : Below w15.heap.size w15 w16 := Below.trans (by go_grown) (Below.mono hb16 (by first | omega | (simp; done) | (simp; omega)))
        clear c15x0 f15x0 l15x0 l15x0d0 l15x0d1 c15x1 f15x1 l15x1 l15x1d0 l15x1d1 c15x2 f15x2 l15x2 l15x2d0 l15x2d1 c15x3 f15x3 l15x3 l15x3d0 l15x3d1 c15x4 f15x4 l15x4 l15x4d0 l15x4d1 c15x5 f15x5 l15x5 l15x5d0 l15x5d1
        have c16x0 := Own.cell O16 0 rfl
        have f16x0 := Own.free O16 0 rfl
        have l16x0 := Own.lt O16 0 rfl
        have l16x0d0 := le_up 0 l16x0
        have l16x0d1 := le_up 1 l16x0
        simp only [upN] at l16x0d0 l16x0d1
        have c16x1 := Own.cell O16 1 rfl
        have f16x1 := Own.free O16 1 rfl
        have l16x1 := Own.lt O16 1 rfl
        have l16x1d0 := le_up 0 l16x1
        have l16x1d1 := le_up 1 l16x1
        simp only [upN] at l16x1d0 l16x1d1
        have c16x2 := Own.cell O16 2 rfl
        have f16x2 := Own.free O16 2 rfl
        have l16x2 := Own.lt O16 2 rfl
        have l16x2d0 := le_up 0 l16x2
        have l16x2d1 := le_up 1 l16x2
        simp only [upN] at l16x2d0 l16x2d1
        have c16x3 := Own.cell O16 3 rfl
        have f16x3 := Own.free O16 3 rfl
        have l16x3 := Own.lt O16 3 rfl
        have l16x3d0 := le_up 0 l16x3
        have l16x3d1 := le_up 1 l16x3
        simp only [upN] at l16x3d0 l16x3d1
        have c16x4 := Own.cell O16 4 rfl
        have f16x4 := Own.free O16 4 rfl
        have l16x4 := Own.lt O16 4 rfl
        have l16x4d0 := le_up 0 l16x4
        have l16x4d1 := le_up 1 l16x4
        simp only [upN] at l16x4d0 l16x4d1
        have c16x5 := Own.cell O16 5 rfl
        have f16x5 := Own.free O16 5 rfl
        have l16x5 := Own.lt O16 5 rfl
        have l16x5d0 := le_up 0 l16x5
        have l16x5d1 := le_up 1 l16x5
        simp only [upN] at l16x5d0 l16x5d1
        have c16x6 := Own.cell O16 6 rfl
        have f16x6 := Own.free O16 6 rfl
        have l16x6 := Own.lt O16 6 rfl
        have l16x6d0 := le_up 0 l16x6
        have l16x6d1 := le_up 1 l16x6
        simp only [upN] at l16x6d0 l16x6d1
        have HO16 := Lib.hid O16
        clear O16 hb16
        go_wp2_with fail
        refine (told_same a 0 _).mono ?_
        rintro e w17 ⟨rfl, hb17⟩
        have O17 := Own.grow' hb17 HO16.out
        try simp only [List.setIfInBounds_toArray, List.set_cons_zero, List.set_cons_succ] at O17
        have bw17 : Below w.heap.size w w17 := Below.trans (by go_grown) (Below.mono hb17 (by first | omega | (simp; done) | (simp; omega)))
        have zw17 := Below.size hb17
        try simp only [World.size_alloc, World.size_drew, World.size_setCell] at zw17
        have hwc17 : Below w16.heap.size w16 w17 := Below.trans (by go_grown) (Below.mono hb17 (by first | omega | (simp; done) | (simp; omega)))
        clear c16x0 f16x0 l16x0 l16x0d0 l16x0d1 c16x1 f16x1 l16x1 l16x1d0 l16x1d1 c16x2 f16x2 l16x2 l16x2d0 l16x2d1 c16x3 f16x3 l16x3 l16x3d0 l16x3d1 c16x4 f16x4 l16x4 l16x4d0 l16x4d1 c16x5 f16x5 l16x5 l16x5d0 l16x5d1 c16x6 f16x6 l16x6 l16x6d0 l16x6d1
        have c17x0 := Own.cell O17 0 rfl
        have f17x0 := Own.free O17 0 rfl
        have l17x0 := Own.lt O17 0 rfl
        have l17x0d0 := le_up 0 l17x0
        have l17x0d1 := le_up 1 l17x0
        simp only [upN] at l17x0d0 l17x0d1
        have c17x1 := Own.cell O17 1 rfl
        have f17x1 := Own.free O17 1 rfl
        have l17x1 := Own.lt O17 1 rfl
        have l17x1d0 := le_up 0 l17x1
        have l17x1d1 := le_up 1 l17x1
        simp only [upN] at l17x1d0 l17x1d1
        have c17x2 := Own.cell O17 2 rfl
        have f17x2 := Own.free O17 2 rfl
        have l17x2 := Own.lt O17 2 rfl
        have l17x2d0 := le_up 0 l17x2
        have l17x2d1 := le_up 1 l17x2
        simp only [upN] at l17x2d0 l17x2d1
        have c17x3 := Own.cell O17 3 rfl
        have f17x3 := Own.free O17 3 rfl
        have l17x3 := Own.lt O17 3 rfl
        have l17x3d0 := le_up 0 l17x3
        have l17x3d1 := le_up 1 l17x3
        simp only [upN] at l17x3d0 l17x3d1
        have c17x4 := Own.cell O17 4 rfl
        have f17x4 := Own.free O17 4 rfl
        have l17x4 := Own.lt O17 4 rfl
        have l17x4d0 := le_up 0 l17x4
        have l17x4d1 := le_up 1 l17x4
        simp only [upN] at l17x4d0 l17x4d1
        have c17x5 := Own.cell O17 5 rfl
        have f17x5 := Own.free O17 5 rfl
        have l17x5 := Own.lt O17 5 rfl
        have l17x5d0 := le_up 0 l17x5
        have l17x5d1 := le_up 1 l17x5
        simp only [upN] at l17x5d0 l17x5d1
        have c17x6 := Own.cell O17 6 rfl
        have f17x6 := Own.free O17 6 rfl
        have l17x6 := Own.lt O17 6 rfl
        have l17x6d0 := le_up 0 l17x6
        have l17x6d1 := le_up 1 l17x6
        simp only [upN] at l17x6d0 l17x6d1
        have HO17 := Lib.hid O17
        clear O17 hb17
        go_wp2_with fail
        exact ⟨⟨k + 1, by omega, by go_num, Own.eqv (Own.tl (Own.tl HO17.out)) (by (try dsimp only); rw [hst, hrk, hyo]; simp), by go_grown⟩, by simp [intOf]; omega⟩
    · obtain rfl : ln = k := by omega
      have dk : decide ((ln : Int) < ln) = false := by simp
      have hSl := HX.out wr hbr
      rw [HE.out] at hO
      have O18 := hO
      have c18x0 := Own.cell O18 0 rfl
      have f18x0 := Own.free O18 0 rfl
      have l18x0 := Own.lt O18 0 rfl
      have l18x0d0 := le_up 0 l18x0
      have l18x0d1 := le_up 1 l18x0
      simp only [upN] at l18x0d0 l18x0d1
      have c18x1 := Own.cell O18 1 rfl
      have f18x1 := Own.free O18 1 rfl
      have l18x1 := Own.lt O18 1 rfl
      have l18x1d0 := le_up 0 l18x1
      have l18x1d1 := le_up 1 l18x1
      simp only [upN] at l18x1d0 l18x1d1
      have c18x2 := Own.cell O18 2 rfl
      have f18x2 := Own.free O18 2 rfl
      have l18x2 := Own.lt O18 2 rfl
      have l18x2d0 := le_up 0 l18x2
      have l18x2d1 := le_up 1 l18x2
      simp only [upN] at l18x2d0 l18x2d1
      have c18x3 := Own.cell O18 3 rfl
      have f18x3 := Own.free O18 3 rfl
      have l18x3 := Own.lt O18 3 rfl
      have l18x3d0 := le_up 0 l18x3
      have l18x3d1 := le_up 1 l18x3
      simp only [upN] at l18x3d0 l18x3d1
      have c18x4 := Own.cell O18 4 rfl
      have f18x4 := Own.free O18 4 rfl
      have l18x4 := Own.lt O18 4 rfl
      have l18x4d0 := le_up 0 l18x4
      have l18x4d1 := le_up 1 l18x4
      simp only [upN] at l18x4d0 l18x4d1
      have HO18 := Lib.hid O18
      clear O18
      clear hlt' hk
      go_wp2_with fail
      refine wp_region_grow wr.heap.size 18 0 0 [(0, 0, 79228162514264337593543950336, 8), (1, 0, 158456325028528675187087900672, 16), (2, 3, 316912650057057350374175801344, 237684487542793012780631851008), (3, 4, 633825300114114700748351602688, 316912650057057350374175801344), (4, 8, 1267650600228229401496703205376, 633825300114114700748351602688), (5, 0, 2535301200456458802993406410752, 128), (6, 48, 5070602400912917605986812821504, 3802951800684688204490109616128), (7, 72, 10141204801825835211973625643008, 5070602400912917605986812821504), (8, 128, 20282409603651670423947251286016, 10141204801825835211973625643136), (9, 384, 40564819207303340847894502572032, 30423614405477505635920876929024), (10, 640, 81129638414606681695789005144064, 50706024009129176059868128215040), (11, 1024, 162259276829213363391578010288128, 81129638414606681695789005144072), (12, 1024, 324518553658426726783156020576256, 81129638414606681695789005144080), (13, 7168, 649037107316853453566312041152512, 567907468902246771870523036008448), (14, 9216, 1298074214633706907132624082305024, 730166745731460135262101046296576), (15, 17408, 2596148429267413814265248164610048, 1379203853048313588828413087449088), (16, 33920, 5192296858534827628530496329220096, 2687419272483846331173010795397120), (17, 65664, 10384593717069655257060992658440192, 5202438063336653463742469954863104)] [(.p 0, 1), (.p 1, 3), (.p 2, 7), (.p 3, 15), (.p 4, 31), (.p 5, 63), (.p 6, 127), (.p 7, 255), (.p 8, 511), (.p 9, 1023), (.p 10, 2047), (.p 11, 4095), (.p 12, 8191), (.p 13, 16383), (.p 14, 32767), (.p 15, 65535), (.p 16, 131071), (.p 17, 262143)] [] _ (fun p hp => hp) (by first | omega | (simp; done) | (simp; omega)) (by kernel_rfl) (by kernel_rfl) HO18.out ?_
      refine wpG_pure (i := 0) (v := ?v19x0) rfl rfl (by rfl) (fun w hB hG K hK => ?h19x0) ?_
      case h19x0 =>
        have cx := Own.cell hG 4 rfl
        go_wp2_with fail
        exact hK _ (Below.refl _ _)
      simp only [List.set_cons_zero, List.set_cons_succ]
      refine wpG_pure (i := 1) (v := ?v19x1) rfl rfl (by rfl) (fun w hB hG K hK => ?h19x1) ?_
      case h19x1 =>
        have cx := Own.cell hG 3 rfl
        go_wp2_with fail
        exact hK _ (Below.refl _ _)
      simp only [List.set_cons_zero, List.set_cons_succ]
      refine wpG_pure (i := 2) (v := ?v19x2) rfl rfl (by rfl) (fun w hB hG K hK => ?h19x2) ?_
      case h19x2 =>
        go_wp2_with fail
        refine (HCK.out _ (SlAt.grow hSl (Below.trans (show Below _ _ _ by go_grown) hB))).mono ?_
        rintro e wx ⟨rfl, hbx⟩
        exact hK _ hbx
      simp only [List.set_cons_zero, List.set_cons_succ]
      refine wpG_pure (i := 3) (v := ?v19x3) rfl rfl (by rfl) (fun w hB hG K hK => ?h19x3) ?_
      case h19x3 =>
        go_wp2_with fail
        refine (num_any _ _).mono ?_
        rintro e wx ⟨rfl, rfl⟩
        exact hK _ (Below.refl _ _)
      simp only [List.set_cons_zero, List.set_cons_succ]
      refine wpG_pure (i := 4) (v := ?v19x4) rfl rfl (by rfl) (fun w hB hG K hK => ?h19x4) ?_
      case h19x4 =>
        go_wp2_with fail
        exact hK _ (Below.refl _ _)
      simp only [List.set_cons_zero, List.set_cons_succ]
      refine wpG_pure (i := 5) (v := ?v19x5) rfl rfl (by rfl) (fun w hB hG K hK => ?h19x5) ?_
      case h19x5 =>
        have cx := Own.cell hG 0 rfl
        go_wp2_with fail
        exact hK _ (Below.refl _ _)
      simp only [List.set_cons_zero, List.set_cons_succ]
      refine wpG_pure (i := 6) (v := ?v19x6) rfl rfl (by rfl) (fun w hB hG K hK => ?h19x6) ?_
      case h19x6 =>
        go_wp2_with fail
        exact hK _ (Below.refl _ _)
      simp only [List.set_cons_zero, List.set_cons_succ]
      refine wpG_move (i := 7) rfl rfl rfl (by rfl) rfl ?_
      simp only [List.set_cons_zero, List.set_cons_succ]
      refine wpG_pure (i := 8) (v := ?v19x8) rfl rfl (by rfl) (fun w hB hG K hK => ?h19x8) ?_
      case h19x8 =>
        have cx := Own.cell hG 0 rfl
        go_wp2_with fail
        exact hK _ (Below.refl _ _)
      simp only [List.set_cons_zero, List.set_cons_succ]
      refine wpG_pure (i := 9) (v := ?v19x9) rfl rfl (by rfl) (fun w hB hG K hK => ?h19x9) ?_
      case h19x9 =>
        go_wp2_with fail
        exact hK _ (Below.refl _ _)
      simp only [List.set_cons_zero, List.set_cons_succ]
      refine wpG_move (i := 10) rfl rfl rfl (by rfl) rfl ?_
      simp only [List.set_cons_zero, List.set_cons_succ]
      refine wpG_pure (i := 11) (v := ?v19x11) rfl rfl (by rfl) (fun w hB hG K hK => ?h19x11) ?_
      case h19x11 =>
        have cx := Own.cell hG 4 rfl
        go_wp2_with fail
        exact hK _ (Below.refl _ _)
      simp only [List.set_cons_zero, List.set_cons_succ]
      refine wpG_pure (i := 12) (v := ?v19x12) rfl rfl (by rfl) (fun w hB hG K hK => ?h19x12) ?_
      case h19x12 =>
        have cx := Own.cell hG 3 rfl
        go_wp2_with fail
        exact hK _ (Below.refl _ _)
      simp only [List.set_cons_zero, List.set_cons_succ]
      refine wpG_pure (i := 13) (v := ?v19x13) rfl rfl (by rfl) (fun w hB hG K hK => ?h19x13) ?_
      case h19x13 =>
        go_wp2_with fail
        refine (HCK.out _ (SlAt.grow hSl (Below.trans (show Below _ _ _ by go_grown) hB))).mono ?_
        rintro e wx ⟨rfl, hbx⟩
        exact hK _ hbx
      simp only [List.set_cons_zero, List.set_cons_succ]
      refine wpG_pure (i := 14) (v := ?v19x14) rfl rfl (by rfl) (fun w hB hG K hK => ?h19x14) ?_
      case h19x14 =>
        go_wp2_with fail
        refine (num_any _ _).mono ?_
        rintro e wx ⟨rfl, rfl⟩
        exact hK _ (Below.refl _ _)
      simp only [List.set_cons_zero, List.set_cons_succ]
      refine wpG_pure (i := 15) (v := ?v19x15) rfl rfl (by rfl) (fun w hB hG K hK => ?h19x15) ?_
      case h19x15 =>
        go_wp2_with fail
        exact hK _ (Below.refl _ _)
      simp only [List.set_cons_zero, List.set_cons_succ]
      refine wpG_pure (i := 16) (v := ?v19x16) rfl rfl (by rfl) (fun w hB hG K hK => ?h19x16) ?_
      case h19x16 =>
        go_wp2_with fail
        exact hK _ (Below.refl _ _)
      simp only [List.set_cons_zero, List.set_cons_succ]
      refine wpG_pure (i := 17) (v := ?v19x17) rfl rfl (by rfl) (fun w hB hG K hK => ?h19x17) ?_
      case h19x17 =>
        go_wp2_with fail
        exact hK _ (Below.refl _ _)
      simp only [List.set_cons_zero, List.set_cons_succ]
      refine wpG_nil (fun w19 hb19 hG19 => ?_)
      simp only [List.append_eq, List.cons_append, List.nil_append, List.drop_succ_cons, List.drop_zero, List.drop_nil]
      have O19 := Own.of hG19
      try simp only [List.setIfInBounds_toArray, List.set_cons_zero, List.set_cons_succ] at O19
      have bw19 : Below w.heap.size w w19 := Below.trans (by go_grown) (Below.mono hb19 (by first | omega | (simp; done) | (simp; omega)))
      have zw19 := Below.size hb19
      try simp only [World.size_alloc, World.size_drew, World.size_setCell] at zw19
      have hwc19 : Below wr.heap.size wr w19 := Below.trans (by go_grown) (Below.mono hb19 (by first | omega | (simp; done) | (simp; omega)))
      clear c18x0 f18x0 l18x0 l18x0d0 l18x0d1 c18x1 f18x1 l18x1 l18x1d0 l18x1d1 c18x2 f18x2 l18x2 l18x2d0 l18x2d1 c18x3 f18x3 l18x3 l18x3d0 l18x3d1 c18x4 f18x4 l18x4 l18x4d0 l18x4d1
      have c19x0 := Own.cell O19 0 rfl
      have f19x0 := Own.free O19 0 rfl
      have l19x0 := Own.lt O19 0 rfl
      have l19x0d0 := le_up 0 l19x0
      have l19x0d1 := le_up 1 l19x0
      simp only [upN] at l19x0d0 l19x0d1
      have c19x1 := Own.cell O19 1 rfl
      have f19x1 := Own.free O19 1 rfl
      have l19x1 := Own.lt O19 1 rfl
      have l19x1d0 := le_up 0 l19x1
      have l19x1d1 := le_up 1 l19x1
      simp only [upN] at l19x1d0 l19x1d1
      have c19x2 := Own.cell O19 2 rfl
      have f19x2 := Own.free O19 2 rfl
      have l19x2 := Own.lt O19 2 rfl
      have l19x2d0 := le_up 0 l19x2
      have l19x2d1 := le_up 1 l19x2
      simp only [upN] at l19x2d0 l19x2d1
      have c19x3 := Own.cell O19 3 rfl
      have f19x3 := Own.free O19 3 rfl
      have l19x3 := Own.lt O19 3 rfl
      have l19x3d0 := le_up 0 l19x3
      have l19x3d1 := le_up 1 l19x3
      simp only [upN] at l19x3d0 l19x3d1
      have c19x4 := Own.cell O19 4 rfl
      have f19x4 := Own.free O19 4 rfl
      have l19x4 := Own.lt O19 4 rfl
      have l19x4d0 := le_up 0 l19x4
      have l19x4d1 := le_up 1 l19x4
      simp only [upN] at l19x4d0 l19x4d1
      have HO19 := Lib.hid O19
      clear O19 hb19
      have hSl2 := SlAt.grow hSl hwc19
      go_wp2_with fail
      refine (HEA.out _ (SlAt.grow hSl2 (by go_grown))).mono ?_
      rintro e w20 ⟨bk, bk2, n0, rfl, hn0, hseq, hb20⟩
      have O20 := Own.grow' hb20 HO19.out
      try simp only [List.setIfInBounds_toArray, List.set_cons_zero, List.set_cons_succ] at O20
      have bw20 : Below w.heap.size w w20 := Below.trans (by go_grown) (Below.mono hb20 (by first | omega | (simp; done) | (simp; omega)))
      have zw20 := Below.size hb20
      try simp only [World.size_alloc, World.size_drew, World.size_setCell] at zw20
      clear c19x0 f19x0 l19x0 l19x0d0 l19x0d1 c19x1 f19x1 l19x1 l19x1d0 l19x1d1 c19x2 f19x2 l19x2 l19x2d0 l19x2d1 c19x3 f19x3 l19x3 l19x3d0 l19x3d1 c19x4 f19x4 l19x4 l19x4d0 l19x4d1
      have c20x0 := Own.cell O20 0 rfl
      have f20x0 := Own.free O20 0 rfl
      have l20x0 := Own.lt O20 0 rfl
      have l20x0d0 := le_up 0 l20x0
      have l20x0d1 := le_up 1 l20x0
      simp only [upN] at l20x0d0 l20x0d1
      have c20x1 := Own.cell O20 1 rfl
      have f20x1 := Own.free O20 1 rfl
      have l20x1 := Own.lt O20 1 rfl
      have l20x1d0 := le_up 0 l20x1
      have l20x1d1 := le_up 1 l20x1
      simp only [upN] at l20x1d0 l20x1d1
      have c20x2 := Own.cell O20 2 rfl
      have f20x2 := Own.free O20 2 rfl
      have l20x2 := Own.lt O20 2 rfl
      have l20x2d0 := le_up 0 l20x2
      have l20x2d1 := le_up 1 l20x2
      simp only [upN] at l20x2d0 l20x2d1
      have c20x3 := Own.cell O20 3 rfl
      have f20x3 := Own.free O20 3 rfl
      have l20x3 := Own.lt O20 3 rfl
      have l20x3d0 := le_up 0 l20x3
      have l20x3d1 := le_up 1 l20x3
      simp only [upN] at l20x3d0 l20x3d1
      have c20x4 := Own.cell O20 4 rfl
      have f20x4 := Own.free O20 4 rfl
      have l20x4 := Own.lt O20 4 rfl
      have l20x4d0 := le_up 0 l20x4
      have l20x4d1 := le_up 1 l20x4
      simp only [upN] at l20x4d0 l20x4d1
      have HO20 := Lib.hid O20
      clear O20 hb20
      subst hn0
      have HSEQ := Lib.hid hseq
      clear hseq
      go_wp2_with fail
      refine wp_loop_rounds 3 ?_
      rw [rounds_succ]
      go_wp2_with fail
      refine wp_name fun WL0 hWL0 => ?_
      have zWL0 : WL0.heap.size = w20.heap.size + 3 := by rw [hWL0]; simp
      have hbWL0 : Below w.heap.size w WL0 := by rw [hWL0]; go_grown
      have hkS0 : Keep (fun k => k < w20.heap.size) w20 WL0 := by rw [hWL0]; exact (Keep.alloc (Keep.alloc (Keep.alloc (Keep.refl (fun k => k < w20.heap.size) w20) _) _) _)
      have hoL0 := Lib.hid (show Own _ WL0 by rw [hWL0]; exact (Own.new (Own.new (Own.new HO20.out (w20.heap.size) (by first | rfl | simp)) (w20.heap.size + 1) (by simp)) (w20.heap.size + 1 + 1) (by simp)))
      clear hWL0
      have hI0 : AnyFrom WL0.heap.size (EI (fun (k : Nat) => [(w20.heap.size + 1 + 1, #[.int .i64 0], 3), (w20.heap.size + 1, #[.int .u64 g.l, .int .u64 g.lo, .int .u64 g.hi, .int .u64 g.a], 25), (w20.heap.size, #[.int .i64 0], 3), (w1.heap.size, #[.bool false], 4), (w.heap.size + 1 + 1 + 1, #[.bool false], 4), (w.heap.size + 1 + 1, #[.int .i64 many], 3), (w.heap.size + 1, #[.slice A ln cap], 48), (w.heap.size, #[.int .u64 g.l, .int .u64 g.lo, .int .u64 g.hi, .int .u64 g.a], 25)]) w.heap.size w [] (fun k => k < w20.heap.size) w20) := EI.any (by simp only [List.mem_cons, List.not_mem_nil, or_false, forall_eq, forall_eq_or_imp]; first | omega | exact fun _ h => h.elim | simp) (by simp only [List.mem_cons, List.not_mem_nil, or_false, forall_eq, forall_eq_or_imp]; first | omega | exact fun _ h => h.elim | simp) (Nat.le_refl _) (by have := hbWL0.size; omega) (fun k hk => by first | omega | (dsimp only at hk; omega))
      refine wp_each_block (w0 := w20) (S := (fun k => k < w20.heap.size)) (xs := ([] : List Kn)) (encs := encG) rfl (enters_of Try.func51 (by kernel_rfl) rfl) HSEQ.out (fun k hk => by first | omega | (dsimp only at hk; omega)) hkS0 (fun _ _ => rfl) (fun k V => EI (fun (k : Nat) => [(w20.heap.size + 1 + 1, #[.int .i64 0], 3), (w20.heap.size + 1, #[.int .u64 g.l, .int .u64 g.lo, .int .u64 g.hi, .int .u64 g.a], 25), (w20.heap.size, #[.int .i64 0], 3), (w1.heap.size, #[.bool false], 4), (w.heap.size + 1 + 1 + 1, #[.bool false], 4), (w.heap.size + 1 + 1, #[.int .i64 many], 3), (w.heap.size + 1, #[.slice A ln cap], 48), (w.heap.size, #[.int .u64 g.l, .int .u64 g.lo, .int .u64 g.hi, .int .u64 g.a], 25)]) w.heap.size w [] (fun k => k < w20.heap.size) w20 k V) (fun k V => False) ?hI0 ?hIx0 ?h00 ?round0 ?hend0
      case hI0 => exact hI0
      case hIx0 => exact fun k V V2 row h hg hr => h
      case h00 => exact ⟨hoL0.out, hbWL0, fun D h => (by cases h), hkS0⟩
      case round0 =>
        rintro l' k x V hx hE hl'
        simp at hx
      case hend0 =>
        intro k0 V0 hend hD0
        obtain ⟨hk, hO, hb0, hDD, hkV0⟩ : k0 = 0 ∧ EI (fun (k : Nat) => [(w20.heap.size + 1 + 1, #[.int .i64 0], 3), (w20.heap.size + 1, #[.int .u64 g.l, .int .u64 g.lo, .int .u64 g.hi, .int .u64 g.a], 25), (w20.heap.size, #[.int .i64 0], 3), (w1.heap.size, #[.bool false], 4), (w.heap.size + 1 + 1 + 1, #[.bool false], 4), (w.heap.size + 1 + 1, #[.int .i64 many], 3), (w.heap.size + 1, #[.slice A ln cap], 48), (w.heap.size, #[.int .u64 g.l, .int .u64 g.lo, .int .u64 g.hi, .int .u64 g.a], 25)]) w.heap.size w [] (fun k => k < w20.heap.size) w20 k0 V0 := by
          rw [List.length_nil] at hend
          rcases hend with ⟨h1, h3⟩ | ⟨h1, h3⟩
          · exact ⟨by omega, h3⟩
          · exact h3.elim
        clear hend hDD
        have O21 := hO
        have c21x0 := Own.cell O21 0 rfl
        have f21x0 := Own.free O21 0 rfl
        have l21x0 := Own.lt O21 0 rfl
        have l21x0d0 := le_up 0 l21x0
        have l21x0d1 := le_up 1 l21x0
        simp only [upN] at l21x0d0 l21x0d1
        have c21x1 := Own.cell O21 1 rfl
        have f21x1 := Own.free O21 1 rfl
        have l21x1 := Own.lt O21 1 rfl
        have l21x1d0 := le_up 0 l21x1
        have l21x1d1 := le_up 1 l21x1
        simp only [upN] at l21x1d0 l21x1d1
        have c21x2 := Own.cell O21 2 rfl
        have f21x2 := Own.free O21 2 rfl
        have l21x2 := Own.lt O21 2 rfl
        have l21x2d0 := le_up 0 l21x2
        have l21x2d1 := le_up 1 l21x2
        simp only [upN] at l21x2d0 l21x2d1
        have c21x3 := Own.cell O21 3 rfl
        have f21x3 := Own.free O21 3 rfl
        have l21x3 := Own.lt O21 3 rfl
        have l21x3d0 := le_up 0 l21x3
        have l21x3d1 := le_up 1 l21x3
        simp only [upN] at l21x3d0 l21x3d1
        have c21x4 := Own.cell O21 4 rfl
        have f21x4 := Own.free O21 4 rfl
        have l21x4 := Own.lt O21 4 rfl
        have l21x4d0 := le_up 0 l21x4
        have l21x4d1 := le_up 1 l21x4
        simp only [upN] at l21x4d0 l21x4d1
        have c21x5 := Own.cell O21 5 rfl
        have f21x5 := Own.free O21 5 rfl
        have l21x5 := Own.lt O21 5 rfl
        have l21x5d0 := le_up 0 l21x5
        have l21x5d1 := le_up 1 l21x5
        simp only [upN] at l21x5d0 l21x5d1
        have c21x6 := Own.cell O21 6 rfl
        have f21x6 := Own.free O21 6 rfl
        have l21x6 := Own.lt O21 6 rfl
        have l21x6d0 := le_up 0 l21x6
        have l21x6d1 := le_up 1 l21x6
        simp only [upN] at l21x6d0 l21x6d1
        have c21x7 := Own.cell O21 7 rfl
        have f21x7 := Own.free O21 7 rfl
        have l21x7 := Own.lt O21 7 rfl
        have l21x7d0 := le_up 0 l21x7
        have l21x7d1 := le_up 1 l21x7
        simp only [upN] at l21x7d0 l21x7d1
        have HO21 := Lib.hid O21
        clear O21
        have hbV0 := hb0
        clear hb0
        have zV0 : WL0.heap.size < V0.heap.size := (Array.getElem?_eq_some_iff.1 hD0).1
        go_wp2_with fail
        rw [rounds_succ]
        go_wp2_with fail
        refine wp_name fun WL1 hWL1 => ?_
        have zWL1 : WL1.heap.size = V0.heap.size + 3 := by rw [hWL1]; simp
        have hbWL1 : Below w.heap.size w WL1 := by rw [hWL1]; go_grown
        have hkS1 : Keep (fun k => k < w20.heap.size) w20 WL1 := by rw [hWL1]; exact (Keep.alloc (Keep.alloc (Keep.alloc hkV0 _) _) _)
        have hoL1 := Lib.hid (show Own _ WL1 by rw [hWL1]; exact (Own.new (Own.new (Own.new HO21.out (V0.heap.size) (by first | rfl | simp)) (V0.heap.size + 1) (by simp)) (V0.heap.size + 1 + 1) (by simp)))
        have hD0L : WL1.heap[WL0.heap.size]? = some (.deferred (some [])) := by rw [hWL1]; exact ((((KeepsOthers.refl _).trans (KeepsOthers.alloc _ _)).trans (KeepsOthers.alloc _ _)).trans (KeepsOthers.alloc _ _)).same _ _ hD0 rfl
        clear hWL1
        have hI1 : AnyFrom WL1.heap.size (EI (fun (k : Nat) => [(V0.heap.size + 1 + 1, #[.int .i64 0], 3), (V0.heap.size + 1, #[.int .u64 g.l, .int .u64 g.lo, .int .u64 g.hi, .int .u64 g.a], 25), (V0.heap.size, #[.int .i64 1], 3), (w20.heap.size + 1 + 1, #[.int .i64 0], 3), (w20.heap.size + 1, #[.int .u64 g.l, .int .u64 g.lo, .int .u64 g.hi, .int .u64 g.a], 25), (w20.heap.size, #[.int .i64 0], 3), (w1.heap.size, #[.bool false], 4), (w.heap.size + 1 + 1 + 1, #[.bool false], 4), (w.heap.size + 1 + 1, #[.int .i64 many], 3), (w.heap.size + 1, #[.slice A ln cap], 48), (w.heap.size, #[.int .u64 g.l, .int .u64 g.lo, .int .u64 g.hi, .int .u64 g.a], 25)]) w.heap.size w [WL0.heap.size] (fun k => k < w20.heap.size) w20) := EI.any (by simp only [List.mem_cons, List.not_mem_nil, or_false, forall_eq, forall_eq_or_imp]; first | omega | exact fun _ h => h.elim | simp) (by simp only [List.mem_cons, List.not_mem_nil, or_false, forall_eq, forall_eq_or_imp]; first | omega | exact fun _ h => h.elim | simp) (Nat.le_refl _) (by have := hbWL1.size; omega) (fun k hk => by first | omega | (dsimp only at hk; omega))
        refine wp_each_block (w0 := w20) (S := (fun k => k < w20.heap.size)) (xs := ([] : List Kn)) (encs := encG) rfl (enters_of Try.func51 (by kernel_rfl) rfl) HSEQ.out (fun k hk => by first | omega | (dsimp only at hk; omega)) hkS1 (fun _ _ => rfl) (fun k V => EI (fun (k : Nat) => [(V0.heap.size + 1 + 1, #[.int .i64 0], 3), (V0.heap.size + 1, #[.int .u64 g.l, .int .u64 g.lo, .int .u64 g.hi, .int .u64 g.a], 25), (V0.heap.size, #[.int .i64 1], 3), (w20.heap.size + 1 + 1, #[.int .i64 0], 3), (w20.heap.size + 1, #[.int .u64 g.l, .int .u64 g.lo, .int .u64 g.hi, .int .u64 g.a], 25), (w20.heap.size, #[.int .i64 0], 3), (w1.heap.size, #[.bool false], 4), (w.heap.size + 1 + 1 + 1, #[.bool false], 4), (w.heap.size + 1 + 1, #[.int .i64 many], 3), (w.heap.size + 1, #[.slice A ln cap], 48), (w.heap.size, #[.int .u64 g.l, .int .u64 g.lo, .int .u64 g.hi, .int .u64 g.a], 25)]) w.heap.size w [WL0.heap.size] (fun k => k < w20.heap.size) w20 k V) (fun k V => False) ?hI1 ?hIx1 ?h01 ?round1 ?hend1
        case hI1 => exact hI1
        case hIx1 => exact fun k V V2 row h hg hr => h
        case h01 => exact ⟨hoL1.out, hbWL1, fun D h => (by simp only [List.mem_cons, List.not_mem_nil, or_false] at h; subst h; exact hD0L), hkS1⟩
        case round1 =>
          rintro l' k x V hx hE hl'
          simp at hx
        case hend1 =>
          intro k1 V1 hend hD1
          obtain ⟨hk, hO, hb0, hDD, hkV1⟩ : k1 = 0 ∧ EI (fun (k : Nat) => [(V0.heap.size + 1 + 1, #[.int .i64 0], 3), (V0.heap.size + 1, #[.int .u64 g.l, .int .u64 g.lo, .int .u64 g.hi, .int .u64 g.a], 25), (V0.heap.size, #[.int .i64 1], 3), (w20.heap.size + 1 + 1, #[.int .i64 0], 3), (w20.heap.size + 1, #[.int .u64 g.l, .int .u64 g.lo, .int .u64 g.hi, .int .u64 g.a], 25), (w20.heap.size, #[.int .i64 0], 3), (w1.heap.size, #[.bool false], 4), (w.heap.size + 1 + 1 + 1, #[.bool false], 4), (w.heap.size + 1 + 1, #[.int .i64 many], 3), (w.heap.size + 1, #[.slice A ln cap], 48), (w.heap.size, #[.int .u64 g.l, .int .u64 g.lo, .int .u64 g.hi, .int .u64 g.a], 25)]) w.heap.size w [WL0.heap.size] (fun k => k < w20.heap.size) w20 k1 V1 := by
            rw [List.length_nil] at hend
            rcases hend with ⟨h1, h3⟩ | ⟨h1, h3⟩
            · exact ⟨by omega, h3⟩
            · exact h3.elim
          replace hD0 := hDD (WL0.heap.size) (by simp)
          clear hend hDD
          have O22 := hO
          have c22x0 := Own.cell O22 0 rfl
          have f22x0 := Own.free O22 0 rfl
          have l22x0 := Own.lt O22 0 rfl
          have l22x0d0 := le_up 0 l22x0
          have l22x0d1 := le_up 1 l22x0
          simp only [upN] at l22x0d0 l22x0d1
          have c22x1 := Own.cell O22 1 rfl
          have f22x1 := Own.free O22 1 rfl
          have l22x1 := Own.lt O22 1 rfl
          have l22x1d0 := le_up 0 l22x1
          have l22x1d1 := le_up 1 l22x1
          simp only [upN] at l22x1d0 l22x1d1
          have c22x2 := Own.cell O22 2 rfl
          have f22x2 := Own.free O22 2 rfl
          have l22x2 := Own.lt O22 2 rfl
          have l22x2d0 := le_up 0 l22x2
          have l22x2d1 := le_up 1 l22x2
          simp only [upN] at l22x2d0 l22x2d1
          have c22x3 := Own.cell O22 3 rfl
          have f22x3 := Own.free O22 3 rfl
          have l22x3 := Own.lt O22 3 rfl
          have l22x3d0 := le_up 0 l22x3
          have l22x3d1 := le_up 1 l22x3
          simp only [upN] at l22x3d0 l22x3d1
          have c22x4 := Own.cell O22 4 rfl
          have f22x4 := Own.free O22 4 rfl
          have l22x4 := Own.lt O22 4 rfl
          have l22x4d0 := le_up 0 l22x4
          have l22x4d1 := le_up 1 l22x4
          simp only [upN] at l22x4d0 l22x4d1
          have c22x5 := Own.cell O22 5 rfl
          have f22x5 := Own.free O22 5 rfl
          have l22x5 := Own.lt O22 5 rfl
          have l22x5d0 := le_up 0 l22x5
          have l22x5d1 := le_up 1 l22x5
          simp only [upN] at l22x5d0 l22x5d1
          have c22x6 := Own.cell O22 6 rfl
          have f22x6 := Own.free O22 6 rfl
          have l22x6 := Own.lt O22 6 rfl
          have l22x6d0 := le_up 0 l22x6
          have l22x6d1 := le_up 1 l22x6
          simp only [upN] at l22x6d0 l22x6d1
          have c22x7 := Own.cell O22 7 rfl
          have f22x7 := Own.free O22 7 rfl
          have l22x7 := Own.lt O22 7 rfl
          have l22x7d0 := le_up 0 l22x7
          have l22x7d1 := le_up 1 l22x7
          simp only [upN] at l22x7d0 l22x7d1
          have c22x8 := Own.cell O22 8 rfl
          have f22x8 := Own.free O22 8 rfl
          have l22x8 := Own.lt O22 8 rfl
          have l22x8d0 := le_up 0 l22x8
          have l22x8d1 := le_up 1 l22x8
          simp only [upN] at l22x8d0 l22x8d1
          have c22x9 := Own.cell O22 9 rfl
          have f22x9 := Own.free O22 9 rfl
          have l22x9 := Own.lt O22 9 rfl
          have l22x9d0 := le_up 0 l22x9
          have l22x9d1 := le_up 1 l22x9
          simp only [upN] at l22x9d0 l22x9d1
          have c22x10 := Own.cell O22 10 rfl
          have f22x10 := Own.free O22 10 rfl
          have l22x10 := Own.lt O22 10 rfl
          have l22x10d0 := le_up 0 l22x10
          have l22x10d1 := le_up 1 l22x10
          simp only [upN] at l22x10d0 l22x10d1
          have HO22 := Lib.hid O22
          clear O22
          have hbV1 := hb0
          clear hb0
          have zV1 : WL1.heap.size < V1.heap.size := (Array.getElem?_eq_some_iff.1 hD1).1
          go_wp2_with fail
          rw [rounds_succ]
          go_wp2_with fail
          refine (works_any _).mono ?_
          rintro e w23 ⟨rfl, hb23⟩
          have O23 := Own.grow' hb23 (Own.new HO22.out (V1.heap.size) (by first | rfl | simp))
          try simp only [List.setIfInBounds_toArray, List.set_cons_zero, List.set_cons_succ] at O23
          have bw23 : Below w.heap.size w w23 := Below.trans (by go_grown) (Below.mono hb23 (by first | omega | (simp; done) | (simp; omega)))
          have zw23 := Below.size hb23
          try simp only [World.size_alloc, World.size_drew, World.size_setCell] at zw23
          replace hD0 := (((KeepsOthers.refl _).trans (KeepsOthers.alloc _ _)).trans (KeepsOthers.below hb23)).same _ _ hD0 rfl
          replace hD1 := (((KeepsOthers.refl _).trans (KeepsOthers.alloc _ _)).trans (KeepsOthers.below hb23)).same _ _ hD1 rfl
          have kk23 := Keep.below (Keep.alloc hkV1 _) hb23
          clear c22x0 f22x0 l22x0 l22x0d0 l22x0d1 c22x1 f22x1 l22x1 l22x1d0 l22x1d1 c22x2 f22x2 l22x2 l22x2d0 l22x2d1 c22x3 f22x3 l22x3 l22x3d0 l22x3d1 c22x4 f22x4 l22x4 l22x4d0 l22x4d1 c22x5 f22x5 l22x5 l22x5d0 l22x5d1 c22x6 f22x6 l22x6 l22x6d0 l22x6d1 c22x7 f22x7 l22x7 l22x7d0 l22x7d1 c22x8 f22x8 l22x8 l22x8d0 l22x8d1 c22x9 f22x9 l22x9 l22x9d0 l22x9d1 c22x10 f22x10 l22x10 l22x10d0 l22x10d1
          have c23x0 := Own.cell O23 0 rfl
          have f23x0 := Own.free O23 0 rfl
          have l23x0 := Own.lt O23 0 rfl
          have l23x0d0 := le_up 0 l23x0
          have l23x0d1 := le_up 1 l23x0
          simp only [upN] at l23x0d0 l23x0d1
          have c23x1 := Own.cell O23 1 rfl
          have f23x1 := Own.free O23 1 rfl
          have l23x1 := Own.lt O23 1 rfl
          have l23x1d0 := le_up 0 l23x1
          have l23x1d1 := le_up 1 l23x1
          simp only [upN] at l23x1d0 l23x1d1
          have c23x2 := Own.cell O23 2 rfl
          have f23x2 := Own.free O23 2 rfl
          have l23x2 := Own.lt O23 2 rfl
          have l23x2d0 := le_up 0 l23x2
          have l23x2d1 := le_up 1 l23x2
          simp only [upN] at l23x2d0 l23x2d1
          have c23x3 := Own.cell O23 3 rfl
          have f23x3 := Own.free O23 3 rfl
          have l23x3 := Own.lt O23 3 rfl
          have l23x3d0 := le_up 0 l23x3
          have l23x3d1 := le_up 1 l23x3
          simp only [upN] at l23x3d0 l23x3d1
          have c23x4 := Own.cell O23 4 rfl
          have f23x4 := Own.free O23 4 rfl
          have l23x4 := Own.lt O23 4 rfl
          have l23x4d0 := le_up 0 l23x4
          have l23x4d1 := le_up 1 l23x4
          simp only [upN] at l23x4d0 l23x4d1
          have c23x5 := Own.cell O23 5 rfl
          have f23x5 := Own.free O23 5 rfl
          have l23x5 := Own.lt O23 5 rfl
          have l23x5d0 := le_up 0 l23x5
          have l23x5d1 := le_up 1 l23x5
          simp only [upN] at l23x5d0 l23x5d1
          have c23x6 := Own.cell O23 6 rfl
          have f23x6 := Own.free O23 6 rfl
          have l23x6 := Own.lt O23 6 rfl
          have l23x6d0 := le_up 0 l23x6
          have l23x6d1 := le_up 1 l23x6
          simp only [upN] at l23x6d0 l23x6d1
          have c23x7 := Own.cell O23 7 rfl
          have f23x7 := Own.free O23 7 rfl
          have l23x7 := Own.lt O23 7 rfl
          have l23x7d0 := le_up 0 l23x7
          have l23x7d1 := le_up 1 l23x7
          simp only [upN] at l23x7d0 l23x7d1
          have c23x8 := Own.cell O23 8 rfl
          have f23x8 := Own.free O23 8 rfl
          have l23x8 := Own.lt O23 8 rfl
          have l23x8d0 := le_up 0 l23x8
          have l23x8d1 := le_up 1 l23x8
          simp only [upN] at l23x8d0 l23x8d1
          have c23x9 := Own.cell O23 9 rfl
          have f23x9 := Own.free O23 9 rfl
          have l23x9 := Own.lt O23 9 rfl
          have l23x9d0 := le_up 0 l23x9
          have l23x9d1 := le_up 1 l23x9
          simp only [upN] at l23x9d0 l23x9d1
          have c23x10 := Own.cell O23 10 rfl
          have f23x10 := Own.free O23 10 rfl
          have l23x10 := Own.lt O23 10 rfl
          have l23x10d0 := le_up 0 l23x10
          have l23x10d1 := le_up 1 l23x10
          simp only [upN] at l23x10d0 l23x10d1
          have c23x11 := Own.cell O23 11 rfl
          have f23x11 := Own.free O23 11 rfl
          have l23x11 := Own.lt O23 11 rfl
          have l23x11d0 := le_up 0 l23x11
          have l23x11d1 := le_up 1 l23x11
          simp only [upN] at l23x11d0 l23x11d1
          have HO23 := Lib.hid O23
          clear O23 hb23
          go_wp2_with fail
          try rw [zWL0] at hD0
          try rw [zWL1] at hD1
          refine ret_mark2 (D := w20.heap.size + 3) (E := V0.heap.size + 3) (v := .bool true) (((KeepsOthers.refl _).trans (KeepsOthers.setCell _ _ _)).same _ _ hD0 rfl) (((KeepsOthers.refl _).trans (KeepsOthers.setCell _ _ _)).same _ _ hD1 rfl) (by omega) ?_ ?_
          · have c6 : ((((w23).setCell ⟨w.heap.size + 1 + 1 + 1, 0, none⟩ (.bool true)).putObj (V0.heap.size + 3) (.deferred none)).putObj (w20.heap.size + 3) (.deferred none)).cell? ⟨w.heap.size + 1 + 1 + 1, 0, none⟩ = some (.bool true) := (((Own.get (Own.set HO23.out 8 rfl (Ne1.cons (by first | omega | (simp; omega)) (Ne1.cons (by first | omega | (simp; omega)) (Ne1.cons (by first | omega | (simp; omega)) (Ne1.cons (by first | omega | (simp; omega)) (Ne1.cons (by first | omega | (simp; omega)) (Ne1.cons (by first | omega | (simp; omega)) (Ne1.cons (by first | omega | (simp; omega)) (Ne1.cons (by first | omega | (simp; omega)) (Ne1.cons (by first | omega | (simp; omega)) (Ne1.cons (by first | omega | (simp; omega)) (Ne1.cons (by first | omega | (simp; omega)) Ne1.nil)))))))))))) 8 rfl).put (D := V0.heap.size + 3) (.deferred none) (by omega)).put (D := w20.heap.size + 3) (.deferred none) (by omega)).cell 0
            simp [results, Try.results5, go_sem, c6]
          · exact ⟨rfl, Below.put (Below.put (by go_grown) _ (by omega)) _ (by omega)⟩
end Go.Proofs.Ytjmplababaejaaa
