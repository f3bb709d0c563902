/- The law GaugeTakes: walks. -/
import Derived.Test.YtjmplababaejaaaGaugeTb
set_option linter.unusedVariables false
set_option linter.unusedSimpArgs false
namespace Go.Proofs.Ytjmplababaejaaa
open Go.RowKit
attribute [local go_sem] Oper.semAt_some
def TkRel2 (O : Nat → World → Prop) (n : Nat) (w : World) (i : Value) (wr : World) : Prop := ∃ k : Nat, k ≤ n ∧ i = .int .i64 k ∧ O k wr ∧ Below w.heap.size w wr
def TkRel (O : World → Prop) (n : Nat) (w : World) (i : Value) (wr : World) : Prop := ∃ k : Nat, k ≤ n ∧ i = .int .i64 k ∧ O wr ∧ Below w.heap.size w wr

set_option maxHeartbeats 16000000 in
set_option maxRecDepth 100000 in
theorem takes_gl (A : Option Addr) (g : Kn) (xs : List Kn) (cap m : Nat) (many : Int) (w : World) (hS : SlAt w A (xs.flatMap Kn.cells)) (hcap : xs.length ≤ cap) (hn : xs.length ≤ 20) (hgd : Goodly g) (hcd : ∀ c ∈ xs, Goodly c) (hm : UptoG g xs m) (hms : m = xs.length) :
    Calls Try.prog 5 #[.agg #[.int .u64 g.l, .int .u64 g.lo, .int .u64 g.hi, .int .u64 g.a], .slice A xs.length cap, .int .i64 many] w fun e w' => e = .returned (.bool true) ∧ Below w.heap.size w w' := by
  have qF := run_eql_func_nil Try.underlying54
  have HX := Lib.hid (fun (W : World) (hb : Below w.heap.size w W) => hS.below rfl hb)
  have HEA := Lib.hid (fun (W : World) (hW : SlAt W A (xs.flatMap Kn.cells)) => eachIt_any A g xs cap m W hW hcap (by omega) hgd hcd hm)
  have hrg := fun V : World => refRight_any g.l g.lo g.hi g.a V
  rw [show rightB g.l g.lo g.hi g.a = true from hgd.1] at hrg
  have HRG := Lib.hid hrg
  have HRB := Lib.hid (fun (y : Kn) (hy : y ∈ xs) (V : World) => rightCost_true y (hcd y hy).1 V)
  have HTB := Lib.hid (fun (y : Kn) (hy : y ∈ xs) => takes_same g y hgd (hcd y hy))
  have HCK := Lib.hid (fun (V : World) (hV : SlAt V A (xs.flatMap Kn.cells)) => check_good g xs A cap V (by omega) hV hgd hcd)
  have HRY := Lib.hid (fun k y hk hy V => refTake_yes (k := k) (y := y) hgd hcd hm hk hy V)
  skip
  have hml := hm.1
  clear hS hm hrg hgd hcd
  generalize hln : xs.length = ln at *
  have d101 : decide ((20 : Int) < ln) = false := by simp <;> omega
  refine calls_marks Try.func5 rfl ?_
  simp only [Try.ntmps5, List.size_toArray, List.length_cons, List.length_nil, Nat.reduceAdd, Nat.reduceSub, Array.replicate_succ, Array.replicate_zero, List.push_toArray, List.append_toArray, List.nil_append, List.cons_append]
  go_wp2_with fail
  refine (HRG.out _).mono ?_
  rintro e w1 ⟨rfl, hb1⟩
  have O1 := Own.grow' hb1 (Own.new (Own.new (Own.new (Own.new (Own.nil w) (w.heap.size) (by first | rfl | simp)) (w.heap.size + 1) (by simp)) (w.heap.size + 1 + 1) (by simp)) (w.heap.size + 1 + 1 + 1) (by simp))
  try simp only [List.setIfInBounds_toArray, List.set_cons_zero, List.set_cons_succ] at O1
  have bw1 : Below w.heap.size w w1 := Below.trans (by go_grown) (Below.mono hb1 (by first | omega | (simp; done) | (simp; omega)))
  have zw1 := Below.size hb1
  try simp only [World.size_alloc, World.size_drew, World.size_setCell] at zw1
  have c1x0 := Own.cell O1 0 rfl
  have f1x0 := Own.free O1 0 rfl
  have l1x0 := Own.lt O1 0 rfl
  have l1x0d0 := le_up 0 l1x0
  have l1x0d1 := le_up 1 l1x0
  simp only [upN] at l1x0d0 l1x0d1
  have c1x1 := Own.cell O1 1 rfl
  have f1x1 := Own.free O1 1 rfl
  have l1x1 := Own.lt O1 1 rfl
  have l1x1d0 := le_up 0 l1x1
  have l1x1d1 := le_up 1 l1x1
  simp only [upN] at l1x1d0 l1x1d1
  have c1x2 := Own.cell O1 2 rfl
  have f1x2 := Own.free O1 2 rfl
  have l1x2 := Own.lt O1 2 rfl
  have l1x2d0 := le_up 0 l1x2
  have l1x2d1 := le_up 1 l1x2
  simp only [upN] at l1x2d0 l1x2d1
  have c1x3 := Own.cell O1 3 rfl
  have f1x3 := Own.free O1 3 rfl
  have l1x3 := Own.lt O1 3 rfl
  have l1x3d0 := le_up 0 l1x3
  have l1x3d1 := le_up 1 l1x3
  simp only [upN] at l1x3d0 l1x3d1
  have HO1 := Lib.hid O1
  clear O1 hb1
  go_wp2_with fail
  go_loopw [8] (fun i wr => TkRel (Own [(w1.heap.size, #[.bool true], 4), (w.heap.size + 1 + 1 + 1, #[.bool false], 4), (w.heap.size + 1 + 1, #[.int .i64 many], 3), (w.heap.size + 1, #[.slice A ln cap], 48), (w.heap.size, #[.int .u64 g.l, .int .u64 g.lo, .int .u64 g.hi, .int .u64 g.a], 25)]) ln w i wr) (fun i _ => ln - (intOf i).toNat)
  case atStart => exact ⟨0, Nat.zero_le _, rfl, (Own.new HO1.out (w1.heap.size) (by first | rfl | simp)), by go_grown⟩
  case round =>
    obtain ⟨k, hk, rfl, hO, hbr⟩ := hrel
    have O2 := hO
    have c2x0 := Own.cell O2 0 rfl
    have f2x0 := Own.free O2 0 rfl
    have l2x0 := Own.lt O2 0 rfl
    have l2x0d0 := le_up 0 l2x0
    have l2x0d1 := le_up 1 l2x0
    simp only [upN] at l2x0d0 l2x0d1
    have c2x1 := Own.cell O2 1 rfl
    have f2x1 := Own.free O2 1 rfl
    have l2x1 := Own.lt O2 1 rfl
    have l2x1d0 := le_up 0 l2x1
    have l2x1d1 := le_up 1 l2x1
    simp only [upN] at l2x1d0 l2x1d1
    have c2x2 := Own.cell O2 2 rfl
    have f2x2 := Own.free O2 2 rfl
    have l2x2 := Own.lt O2 2 rfl
    have l2x2d0 := le_up 0 l2x2
    have l2x2d1 := le_up 1 l2x2
    simp only [upN] at l2x2d0 l2x2d1
    have c2x3 := Own.cell O2 3 rfl
    have f2x3 := Own.free O2 3 rfl
    have l2x3 := Own.lt O2 3 rfl
    have l2x3d0 := le_up 0 l2x3
    have l2x3d1 := le_up 1 l2x3
    simp only [upN] at l2x3d0 l2x3d1
    have c2x4 := Own.cell O2 4 rfl
    have f2x4 := Own.free O2 4 rfl
    have l2x4 := Own.lt O2 4 rfl
    have l2x4d0 := le_up 0 l2x4
    have l2x4d1 := le_up 1 l2x4
    simp only [upN] at l2x4d0 l2x4d1
    have HO2 := Lib.hid O2
    clear O2
    by_cases hlt' : k < ln
    · skip
      have dk : decide ((k : Int) < ln) = true := by simp; omega
      obtain ⟨y, hy⟩ : ∃ y, xs[k]? = some y := ⟨xs[k]'(by rw [hln]; omega), by simp⟩
      have hne : (xs.flatMap Kn.cells)[k * 4 + 0]? = some (.int .u64 y.l) := (by rw [flat_at (f := Kn.cells) (n := 4) (fun _ => rfl) xs k y hy 0 (by omega)]; rfl)
      obtain ⟨b', off, rfl, hbl, hcell⟩ := (HX.out wr hbr).cell hne
      have hc0 : wr.cell? ⟨b', off + k * 4, none⟩ = some (.int .u64 y.l) := by have := hcell (k * 4 + 0) _ (by rw [flat_at (f := Kn.cells) (n := 4) (fun _ => rfl) xs k y hy 0 (by omega)]; rfl); simpa [Nat.add_assoc] using this
      have hc1 : wr.cell? ⟨b', off + k * 4 + 1, none⟩ = some (.int .u64 y.lo) := by have := hcell (k * 4 + 1) _ (by rw [flat_at (f := Kn.cells) (n := 4) (fun _ => rfl) xs k y hy 1 (by omega)]; rfl); simpa [Nat.add_assoc] using this
      have hc2 : wr.cell? ⟨b', off + k * 4 + 2, none⟩ = some (.int .u64 y.hi) := by have := hcell (k * 4 + 2) _ (by rw [flat_at (f := Kn.cells) (n := 4) (fun _ => rfl) xs k y hy 2 (by omega)]; rfl); simpa [Nat.add_assoc] using this
      have hc3 : wr.cell? ⟨b', off + k * 4 + 3, none⟩ = some (.int .u64 y.a) := by have := hcell (k * 4 + 3) _ (by rw [flat_at (f := Kn.cells) (n := 4) (fun _ => rfl) xs k y hy 3 (by omega)]; rfl); simpa [Nat.add_assoc] using this
      clear hcell hne
      have d2 : decide ((ln : Int) ≤ k) = false := by simp; omega
      have d2' : decide (ln ≤ k) = false := by simp; omega
      obtain ⟨a, kk, ht, hr⟩ := HTB.out y (List.mem_of_getElem? hy)
      have HT := Lib.hid ht
      have HRf := Lib.hid hr
      have HRC := Lib.hid (HRB.out y (List.mem_of_getElem? hy))
      clear ht hr
      go_wp2_with fail
      refine wp_region_grow wr.heap.size 14 2048 1024 [(0, 0, 137438953472, 8), (1, 0, 274877906944, 16), (2, 0, 549755813888, 256), (3, 6, 1099511627776, 824633720832), (4, 8, 2199023255552, 1099511627776), (5, 17, 4398046511104, 2336462209024), (6, 32, 68719476736, 4398046511104), (7, 64, 8796093022208, 68719476736), (8, 64, 17592186044416, 68719476736), (9, 64, 35184372088832, 68719476736), (10, 0, 512, 0), (11, 1279, 0, 8796093022720), (12, 3583, 1024, 17592186044416), (13, 8191, 2048, 35184372088832)] [(.p 0, 1), (.p 1, 3), (.p 2, 7), (.p 3, 15), (.q 4, 31), (.p 5, 63), (.p 6, 127), (.p 7, 255), (.p 8, 511), (.p 9, 1023), (.g 10, 2047), (.c 11, 4095), (.p 12, 8191), (.p 13, 16383)] [] _ (fun p hp => hp) (by first | omega | (simp; done) | (simp; omega)) (by kernel_rfl) (by kernel_rfl) HO2.out ?_
      refine wpG_pure (i := 0) (v := ?v3x0) rfl rfl (by rfl) (fun w hB hG K hK => ?h3x0) ?_
      case h3x0 =>
        have cx := Own.cell hG 4 rfl
        go_wp2_with fail
        exact hK _ (Below.refl _ _)
      simp only [List.set_cons_zero, List.set_cons_succ]
      refine wpG_pure (i := 1) (v := ?v3x1) rfl rfl (by rfl) (fun w hB hG K hK => ?h3x1) ?_
      case h3x1 =>
        have cx := Own.cell hG 3 rfl
        go_wp2_with fail
        exact hK _ (Below.refl _ _)
      simp only [List.set_cons_zero, List.set_cons_succ]
      refine wpG_move (i := 2) rfl rfl rfl (by rfl) rfl ?_
      simp only [List.set_cons_zero, List.set_cons_succ]
      refine wpG_pure (i := 3) (v := ?v3x3) rfl rfl (by rfl) (fun w hB hG K hK => ?h3x3) ?_
      case h3x3 =>
        go_wp2_with fail
        exact hK _ (Below.refl _ _)
      simp only [List.set_cons_zero, List.set_cons_succ]
      refine wpG_op (i := 4) (v := ?v3x4) rfl rfl (by rfl) (fun w hB hG K hK => ?h3x4) ?_
      case h3x4 =>
        have hx0 := (hB.cell (p := ⟨b', off + k * 4, none⟩) (World.block_lt_of_cell? wr _ hc0)).trans hc0
        have hx1 := (hB.cell (p := ⟨b', off + k * 4 + 1, none⟩) (World.block_lt_of_cell? wr _ hc1)).trans hc1
        have hx2 := (hB.cell (p := ⟨b', off + k * 4 + 2, none⟩) (World.block_lt_of_cell? wr _ hc2)).trans hc2
        have hx3 := (hB.cell (p := ⟨b', off + k * 4 + 3, none⟩) (World.block_lt_of_cell? wr _ hc3)).trans hc3
        go_wp2_with fail
        exact hK _ (Below.refl _ _)
      simp only [List.set_cons_zero, List.set_cons_succ]
      refine wpG_pure (i := 5) (v := ?v3x5) rfl rfl (by rfl) (fun w hB hG K hK => ?h3x5) ?_
      case h3x5 =>
        go_wp2_with fail
        refine (HT.out _).mono ?_
        rintro e wx ⟨rfl, hbx⟩
        exact hK _ hbx
      simp only [List.set_cons_zero, List.set_cons_succ]
      refine wpG_move (i := 6) rfl rfl rfl (by rfl) rfl ?_
      simp only [List.set_cons_zero, List.set_cons_succ]
      refine wpG_pure (i := 7) (v := ?v3x7) rfl rfl (by rfl) (fun w hB hG K hK => ?h3x7) ?_
      case h3x7 =>
        go_wp2_with fail
        exact hK _ (Below.refl _ _)
      simp only [List.set_cons_zero, List.set_cons_succ]
      refine wpG_pure (i := 8) (v := ?v3x8) rfl rfl (by rfl) (fun w hB hG K hK => ?h3x8) ?_
      case h3x8 =>
        go_wp2_with fail
        exact hK _ (Below.refl _ _)
      simp only [List.set_cons_zero, List.set_cons_succ]
      refine wpG_pure (i := 9) (v := ?v3x9) rfl rfl (by rfl) (fun w hB hG K hK => ?h3x9) ?_
      case h3x9 =>
        go_wp2_with fail
        exact hK _ (Below.refl _ _)
      simp only [List.set_cons_zero, List.set_cons_succ]
      refine wpG_make (i := 10) (c := ?c3x10) (t := ?t3x10) (fun b => .pointer (some ⟨b, 0, none⟩)) rfl rfl (by rfl) (fun w hB hG K hK => ?h3x10) (fun v3g1 l3g1 n3g1 => ?_)
      case h3x10 =>
        go_wp2_with fail
        exact hK
      simp only [List.set_cons_zero, List.set_cons_succ]
      try simp only [World.size_alloc, World.size_drew, World.size_setCell] at l3g1
      clear n3g1
      refine wpG_store (i := 11) (c' := ?c3x11) 0 rfl (Ne1.cons (by first | omega | (simp; omega)) (Ne1.cons (by first | omega | (simp; omega)) (Ne1.cons (by first | omega | (simp; omega)) (Ne1.cons (by first | omega | (simp; omega)) (Ne1.cons (by first | omega | (simp; omega)) Ne1.nil))))) (by first | omega | (simp; omega)) (fun p hp => List.mem_cons_of_mem _ (hp)) rfl rfl (by rfl) (fun w hB hF hG K hK => ?h3x11) ?_
      case h3x11 =>
        have cx := hF.cell
        have fx := hF.free
        go_wp2_with fail
        refine hK _ (Same.set (Same.set (Same.set (Same.set (Same.refl _ _) _ _) _ _) _ _) _ _) ?_
        exact (Blk.set (Blk.set (Blk.set (Blk.set hF _ _) _ _) _ _) _ _)
      simp only [List.set_cons_zero, List.set_cons_succ, List.setIfInBounds_toArray]
      refine wpG_assign (i := 12) rfl rfl rfl (by rfl) rfl ?_
      simp only [List.set_cons_zero, List.set_cons_succ]
      refine wpG_assign (i := 13) rfl rfl rfl (by rfl) rfl ?_
      simp only [List.set_cons_zero, List.set_cons_succ]
      refine wpG_nil (fun w3 hb3 hG3 => ?_)
      simp only [List.append_eq, List.cons_append, List.nil_append, List.drop_succ_cons, List.drop_zero, List.drop_nil]
      have u3g1 := Own.lt hG3 0 rfl
      have O3 := Own.of hG3
      try simp only [List.setIfInBounds_toArray, List.set_cons_zero, List.set_cons_succ] at O3
      have bw3 : Below w.heap.size w w3 := Below.trans (by go_grown) (Below.mono hb3 (by first | omega | (simp; done) | (simp; omega)))
      have zw3 := Below.size hb3
      try simp only [World.size_alloc, World.size_drew, World.size_setCell] at zw3
      have hwc3 : Below wr.heap.size wr w3 := Below.trans (by go_grown) (Below.mono hb3 (by first | omega | (simp; done) | (simp; omega)))
      clear c2x0 f2x0 l2x0 l2x0d0 l2x0d1 c2x1 f2x1 l2x1 l2x1d0 l2x1d1 c2x2 f2x2 l2x2 l2x2d0 l2x2d1 c2x3 f2x3 l2x3 l2x3d0 l2x3d1 c2x4 f2x4 l2x4 l2x4d0 l2x4d1
      have c3x0 := Own.cell O3 0 rfl
      have f3x0 := Own.free O3 0 rfl
      have l3x0 := Own.lt O3 0 rfl
      have l3x0d0 := le_up 0 l3x0
      have l3x0d1 := le_up 1 l3x0
      simp only [upN] at l3x0d0 l3x0d1
      have c3x1 := Own.cell O3 1 rfl
      have f3x1 := Own.free O3 1 rfl
      have l3x1 := Own.lt O3 1 rfl
      have l3x1d0 := le_up 0 l3x1
      have l3x1d1 := le_up 1 l3x1
      simp only [upN] at l3x1d0 l3x1d1
      have c3x2 := Own.cell O3 2 rfl
      have f3x2 := Own.free O3 2 rfl
      have l3x2 := Own.lt O3 2 rfl
      have l3x2d0 := le_up 0 l3x2
      have l3x2d1 := le_up 1 l3x2
      simp only [upN] at l3x2d0 l3x2d1
      have c3x3 := Own.cell O3 3 rfl
      have f3x3 := Own.free O3 3 rfl
      have l3x3 := Own.lt O3 3 rfl
      have l3x3d0 := le_up 0 l3x3
      have l3x3d1 := le_up 1 l3x3
      simp only [upN] at l3x3d0 l3x3d1
      have c3x4 := Own.cell O3 4 rfl
      have f3x4 := Own.free O3 4 rfl
      have l3x4 := Own.lt O3 4 rfl
      have l3x4d0 := le_up 0 l3x4
      have l3x4d1 := le_up 1 l3x4
      simp only [upN] at l3x4d0 l3x4d1
      have c3x5 := Own.cell O3 5 rfl
      have f3x5 := Own.free O3 5 rfl
      have l3x5 := Own.lt O3 5 rfl
      have l3x5d0 := le_up 0 l3x5
      have l3x5d1 := le_up 1 l3x5
      simp only [upN] at l3x5d0 l3x5d1
      have HO3 := Lib.hid O3
      clear O3 hb3
      replace hc0 := (hwc3.cell (p := ⟨b', off + k * 4, none⟩) (World.block_lt_of_cell? wr _ hc0)).trans hc0
      replace hc1 := (hwc3.cell (p := ⟨b', off + k * 4 + 1, none⟩) (World.block_lt_of_cell? wr _ hc1)).trans hc1
      replace hc2 := (hwc3.cell (p := ⟨b', off + k * 4 + 2, none⟩) (World.block_lt_of_cell? wr _ hc2)).trans hc2
      replace hc3 := (hwc3.cell (p := ⟨b', off + k * 4 + 3, none⟩) (World.block_lt_of_cell? wr _ hc3)).trans hc3
      go_wp2_with fail
      refine (HRG.out _).mono ?_
      rintro e w4 ⟨rfl, hb4⟩
      have O4 := Own.grow' hb4 HO3.out
      try simp only [List.setIfInBounds_toArray, List.set_cons_zero, List.set_cons_succ] at O4
      have bw4 : Below w.heap.size w w4 := Below.trans (by go_grown) (Below.mono hb4 (by first | omega | (simp; done) | (simp; omega)))
      have zw4 := Below.size hb4
      try simp only [World.size_alloc, World.size_drew, World.size_setCell] at zw4
      have hwc4 : Below w3.heap.size w3 w4 := Below.trans (by go_grown) (Below.mono hb4 (by first | omega | (simp; done) | (simp; omega)))
      clear c3x0 f3x0 l3x0 l3x0d0 l3x0d1 c3x1 f3x1 l3x1 l3x1d0 l3x1d1 c3x2 f3x2 l3x2 l3x2d0 l3x2d1 c3x3 f3x3 l3x3 l3x3d0 l3x3d1 c3x4 f3x4 l3x4 l3x4d0 l3x4d1 c3x5 f3x5 l3x5 l3x5d0 l3x5d1
      have c4x0 := Own.cell O4 0 rfl
      have f4x0 := Own.free O4 0 rfl
      have l4x0 := Own.lt O4 0 rfl
      have l4x0d0 := le_up 0 l4x0
      have l4x0d1 := le_up 1 l4x0
      simp only [upN] at l4x0d0 l4x0d1
      have c4x1 := Own.cell O4 1 rfl
      have f4x1 := Own.free O4 1 rfl
      have l4x1 := Own.lt O4 1 rfl
      have l4x1d0 := le_up 0 l4x1
      have l4x1d1 := le_up 1 l4x1
      simp only [upN] at l4x1d0 l4x1d1
      have c4x2 := Own.cell O4 2 rfl
      have f4x2 := Own.free O4 2 rfl
      have l4x2 := Own.lt O4 2 rfl
      have l4x2d0 := le_up 0 l4x2
      have l4x2d1 := le_up 1 l4x2
      simp only [upN] at l4x2d0 l4x2d1
      have c4x3 := Own.cell O4 3 rfl
      have f4x3 := Own.free O4 3 rfl
      have l4x3 := Own.lt O4 3 rfl
      have l4x3d0 := le_up 0 l4x3
      have l4x3d1 := le_up 1 l4x3
      simp only [upN] at l4x3d0 l4x3d1
      have c4x4 := Own.cell O4 4 rfl
      have f4x4 := Own.free O4 4 rfl
      have l4x4 := Own.lt O4 4 rfl
      have l4x4d0 := le_up 0 l4x4
      have l4x4d1 := le_up 1 l4x4
      simp only [upN] at l4x4d0 l4x4d1
      have c4x5 := Own.cell O4 5 rfl
      have f4x5 := Own.free O4 5 rfl
      have l4x5 := Own.lt O4 5 rfl
      have l4x5d0 := le_up 0 l4x5
      have l4x5d1 := le_up 1 l4x5
      simp only [upN] at l4x5d0 l4x5d1
      have HO4 := Lib.hid O4
      clear O4 hb4
      replace hc0 := (hwc4.cell (p := ⟨b', off + k * 4, none⟩) (World.block_lt_of_cell? w3 _ hc0)).trans hc0
      replace hc1 := (hwc4.cell (p := ⟨b', off + k * 4 + 1, none⟩) (World.block_lt_of_cell? w3 _ hc1)).trans hc1
      replace hc2 := (hwc4.cell (p := ⟨b', off + k * 4 + 2, none⟩) (World.block_lt_of_cell? w3 _ hc2)).trans hc2
      replace hc3 := (hwc4.cell (p := ⟨b', off + k * 4 + 3, none⟩) (World.block_lt_of_cell? w3 _ hc3)).trans hc3
      go_wp2_with fail
      refine (HRC.out _).mono ?_
      rintro e w5 ⟨rfl, hb5⟩
      have O5 := Own.grow' hb5 HO4.out
      try simp only [List.setIfInBounds_toArray, List.set_cons_zero, List.set_cons_succ] at O5
      have bw5 : Below w.heap.size w w5 := Below.trans (by go_grown) (Below.mono hb5 (by first | omega | (simp; done) | (simp; omega)))
      have zw5 := Below.size hb5
      try simp only [World.size_alloc, World.size_drew, World.size_setCell] at zw5
      have hwc5 : Below w4.heap.size w4 w5 := Below.trans (by go_grown) (Below.mono hb5 (by first | omega | (simp; done) | (simp; omega)))
      clear c4x0 f4x0 l4x0 l4x0d0 l4x0d1 c4x1 f4x1 l4x1 l4x1d0 l4x1d1 c4x2 f4x2 l4x2 l4x2d0 l4x2d1 c4x3 f4x3 l4x3 l4x3d0 l4x3d1 c4x4 f4x4 l4x4 l4x4d0 l4x4d1 c4x5 f4x5 l4x5 l4x5d0 l4x5d1
      have c5x0 := Own.cell O5 0 rfl
      have f5x0 := Own.free O5 0 rfl
      have l5x0 := Own.lt O5 0 rfl
      have l5x0d0 := le_up 0 l5x0
      have l5x0d1 := le_up 1 l5x0
      simp only [upN] at l5x0d0 l5x0d1
      have c5x1 := Own.cell O5 1 rfl
      have f5x1 := Own.free O5 1 rfl
      have l5x1 := Own.lt O5 1 rfl
      have l5x1d0 := le_up 0 l5x1
      have l5x1d1 := le_up 1 l5x1
      simp only [upN] at l5x1d0 l5x1d1
      have c5x2 := Own.cell O5 2 rfl
      have f5x2 := Own.free O5 2 rfl
      have l5x2 := Own.lt O5 2 rfl
      have l5x2d0 := le_up 0 l5x2
      have l5x2d1 := le_up 1 l5x2
      simp only [upN] at l5x2d0 l5x2d1
      have c5x3 := Own.cell O5 3 rfl
      have f5x3 := Own.free O5 3 rfl
      have l5x3 := Own.lt O5 3 rfl
      have l5x3d0 := le_up 0 l5x3
      have l5x3d1 := le_up 1 l5x3
      simp only [upN] at l5x3d0 l5x3d1
      have c5x4 := Own.cell O5 4 rfl
      have f5x4 := Own.free O5 4 rfl
      have l5x4 := Own.lt O5 4 rfl
      have l5x4d0 := le_up 0 l5x4
      have l5x4d1 := le_up 1 l5x4
      simp only [upN] at l5x4d0 l5x4d1
      have c5x5 := Own.cell O5 5 rfl
      have f5x5 := Own.free O5 5 rfl
      have l5x5 := Own.lt O5 5 rfl
      have l5x5d0 := le_up 0 l5x5
      have l5x5d1 := le_up 1 l5x5
      simp only [upN] at l5x5d0 l5x5d1
      have HO5 := Lib.hid O5
      clear O5 hb5
      replace hc0 := (hwc5.cell (p := ⟨b', off + k * 4, none⟩) (World.block_lt_of_cell? w4 _ hc0)).trans hc0
      replace hc1 := (hwc5.cell (p := ⟨b', off + k * 4 + 1, none⟩) (World.block_lt_of_cell? w4 _ hc1)).trans hc1
      replace hc2 := (hwc5.cell (p := ⟨b', off + k * 4 + 2, none⟩) (World.block_lt_of_cell? w4 _ hc2)).trans hc2
      replace hc3 := (hwc5.cell (p := ⟨b', off + k * 4 + 3, none⟩) (World.block_lt_of_cell? w4 _ hc3)).trans hc3
      go_wp2_with fail
      refine wp_region_grow w5.heap.size 12 1024 512 [(0, 0, 302231454903657293676544, 8), (1, 0, 604462909807314587353088, 16), (2, 0, 1208925819614629174706176, 256), (3, 6, 2417851639229258349412352, 1813388729421943762059264), (4, 8, 4835703278458516698824704, 2417851639229258349412352), (5, 17, 9671406556917033397649408, 5137934733362173992501248), (6, 32, 151115727451828646838272, 9671406556917033397649408), (7, 64, 19342813113834066795298816, 151115727451828646838272), (8, 64, 38685626227668133590597632, 151115727451828646838272), (9, 0, 4096, 0), (10, 767, 0, 19342813113834066795302912), (11, 2047, 8192, 38685626227668133590597632)] [(.p 0, 1), (.p 1, 3), (.p 2, 7), (.p 3, 15), (.q 4, 31), (.p 5, 63), (.p 6, 127), (.p 7, 255), (.p 8, 511), (.g 9, 1023), (.c 10, 2047), (.p 11, 4095)] [] _ (fun p hp => hp) (by first | omega | (simp; done) | (simp; omega)) (by kernel_rfl) (by kernel_rfl) HO5.out ?_
      refine wpG_pure (i := 0) (v := ?v6x0) rfl rfl (by rfl) (fun w hB hG K hK => ?h6x0) ?_
      case h6x0 =>
        have cx := Own.cell hG 5 rfl
        go_wp2_with fail
        exact hK _ (Below.refl _ _)
      simp only [List.set_cons_zero, List.set_cons_succ]
      refine wpG_pure (i := 1) (v := ?v6x1) rfl rfl (by rfl) (fun w hB hG K hK => ?h6x1) ?_
      case h6x1 =>
        have cx := Own.cell hG 4 rfl
        go_wp2_with fail
        exact hK _ (Below.refl _ _)
      simp only [List.set_cons_zero, List.set_cons_succ]
      refine wpG_move (i := 2) rfl rfl rfl (by rfl) rfl ?_
      simp only [List.set_cons_zero, List.set_cons_succ]
      refine wpG_pure (i := 3) (v := ?v6x3) rfl rfl (by rfl) (fun w hB hG K hK => ?h6x3) ?_
      case h6x3 =>
        go_wp2_with fail
        exact hK _ (Below.refl _ _)
      simp only [List.set_cons_zero, List.set_cons_succ]
      refine wpG_op (i := 4) (v := ?v6x4) rfl rfl (by rfl) (fun w hB hG K hK => ?h6x4) ?_
      case h6x4 =>
        have hx0 := (hB.cell (p := ⟨b', off + k * 4, none⟩) (World.block_lt_of_cell? w5 _ hc0)).trans hc0
        have hx1 := (hB.cell (p := ⟨b', off + k * 4 + 1, none⟩) (World.block_lt_of_cell? w5 _ hc1)).trans hc1
        have hx2 := (hB.cell (p := ⟨b', off + k * 4 + 2, none⟩) (World.block_lt_of_cell? w5 _ hc2)).trans hc2
        have hx3 := (hB.cell (p := ⟨b', off + k * 4 + 3, none⟩) (World.block_lt_of_cell? w5 _ hc3)).trans hc3
        go_wp2_with fail
        exact hK _ (Below.refl _ _)
      simp only [List.set_cons_zero, List.set_cons_succ]
      refine wpG_pure (i := 5) (v := ?v6x5) rfl rfl (by rfl) (fun w hB hG K hK => ?h6x5) ?_
      case h6x5 =>
        go_wp2_with fail
        refine (HRf.out _).mono ?_
        rintro e wx ⟨rfl, hbx⟩
        exact hK _ hbx
      simp only [List.set_cons_zero, List.set_cons_succ]
      refine wpG_move (i := 6) rfl rfl rfl (by rfl) rfl ?_
      simp only [List.set_cons_zero, List.set_cons_succ]
      refine wpG_pure (i := 7) (v := ?v6x7) rfl rfl (by rfl) (fun w hB hG K hK => ?h6x7) ?_
      case h6x7 =>
        go_wp2_with fail
        exact hK _ (Below.refl _ _)
      simp only [List.set_cons_zero, List.set_cons_succ]
      refine wpG_pure (i := 8) (v := ?v6x8) rfl rfl (by rfl) (fun w hB hG K hK => ?h6x8) ?_
      case h6x8 =>
        go_wp2_with fail
        exact hK _ (Below.refl _ _)
      simp only [List.set_cons_zero, List.set_cons_succ]
      refine wpG_make (i := 9) (c := ?c6x9) (t := ?t6x9) (fun b => .pointer (some ⟨b, 0, none⟩)) rfl rfl (by rfl) (fun w hB hG K hK => ?h6x9) (fun v6g1 l6g1 n6g1 => ?_)
      case h6x9 =>
        go_wp2_with fail
        exact hK
      simp only [List.set_cons_zero, List.set_cons_succ]
      try simp only [World.size_alloc, World.size_drew, World.size_setCell] at l6g1
      clear n6g1
      refine wpG_store (i := 10) (c' := ?c6x10) 0 rfl (Ne1.cons (by first | omega | (simp; omega)) (Ne1.cons (by first | omega | (simp; omega)) (Ne1.cons (by first | omega | (simp; omega)) (Ne1.cons (by first | omega | (simp; omega)) (Ne1.cons (by first | omega | (simp; omega)) (Ne1.cons (by first | omega | (simp; omega)) Ne1.nil)))))) (by first | omega | (simp; omega)) (fun p hp => List.mem_cons_of_mem _ (hp)) rfl rfl (by rfl) (fun w hB hF hG K hK => ?h6x10) ?_
      case h6x10 =>
        have cx := hF.cell
        have fx := hF.free
        go_wp2_with fail
        refine hK _ (Same.set (Same.set (Same.set (Same.set (Same.refl _ _) _ _) _ _) _ _) _ _) ?_
        exact (Blk.set (Blk.set (Blk.set (Blk.set hF _ _) _ _) _ _) _ _)
      simp only [List.set_cons_zero, List.set_cons_succ, List.setIfInBounds_toArray]
      refine wpG_assign (i := 11) rfl rfl rfl (by rfl) rfl ?_
      simp only [List.set_cons_zero, List.set_cons_succ]
      refine wpG_nil (fun w6 hb6 hG6 => ?_)
      simp only [List.append_eq, List.cons_append, List.nil_append, List.drop_succ_cons, List.drop_zero, List.drop_nil]
      have u6g1 := Own.lt hG6 0 rfl
      have O6 := Own.of hG6
      try simp only [List.setIfInBounds_toArray, List.set_cons_zero, List.set_cons_succ] at O6
      have bw6 : Below w.heap.size w w6 := Below.trans (by go_grown) (Below.mono hb6 (by first | omega | (simp; done) | (simp; omega)))
      have zw6 := Below.size hb6
      try simp only [World.size_alloc, World.size_drew, World.size_setCell] at zw6
      have hwc6 : Below w5.heap.size w5 w6 := Below.trans (by go_grown) (Below.mono hb6 (by first | omega | (simp; done) | (simp; omega)))
      clear c5x0 f5x0 l5x0 l5x0d0 l5x0d1 c5x1 f5x1 l5x1 l5x1d0 l5x1d1 c5x2 f5x2 l5x2 l5x2d0 l5x2d1 c5x3 f5x3 l5x3 l5x3d0 l5x3d1 c5x4 f5x4 l5x4 l5x4d0 l5x4d1 c5x5 f5x5 l5x5 l5x5d0 l5x5d1
      have c6x0 := Own.cell O6 0 rfl
      have f6x0 := Own.free O6 0 rfl
      have l6x0 := Own.lt O6 0 rfl
      have l6x0d0 := le_up 0 l6x0
      have l6x0d1 := le_up 1 l6x0
      simp only [upN] at l6x0d0 l6x0d1
      have c6x1 := Own.cell O6 1 rfl
      have f6x1 := Own.free O6 1 rfl
      have l6x1 := Own.lt O6 1 rfl
      have l6x1d0 := le_up 0 l6x1
      have l6x1d1 := le_up 1 l6x1
      simp only [upN] at l6x1d0 l6x1d1
      have c6x2 := Own.cell O6 2 rfl
      have f6x2 := Own.free O6 2 rfl
      have l6x2 := Own.lt O6 2 rfl
      have l6x2d0 := le_up 0 l6x2
      have l6x2d1 := le_up 1 l6x2
      simp only [upN] at l6x2d0 l6x2d1
      have c6x3 := Own.cell O6 3 rfl
      have f6x3 := Own.free O6 3 rfl
      have l6x3 := Own.lt O6 3 rfl
      have l6x3d0 := le_up 0 l6x3
      have l6x3d1 := le_up 1 l6x3
      simp only [upN] at l6x3d0 l6x3d1
      have c6x4 := Own.cell O6 4 rfl
      have f6x4 := Own.free O6 4 rfl
      have l6x4 := Own.lt O6 4 rfl
      have l6x4d0 := le_up 0 l6x4
      have l6x4d1 := le_up 1 l6x4
      simp only [upN] at l6x4d0 l6x4d1
      have c6x5 := Own.cell O6 5 rfl
      have f6x5 := Own.free O6 5 rfl
      have l6x5 := Own.lt O6 5 rfl
      have l6x5d0 := le_up 0 l6x5
      have l6x5d1 := le_up 1 l6x5
      simp only [upN] at l6x5d0 l6x5d1
      have c6x6 := Own.cell O6 6 rfl
      have f6x6 := Own.free O6 6 rfl
      have l6x6 := Own.lt O6 6 rfl
      have l6x6d0 := le_up 0 l6x6
      have l6x6d1 := le_up 1 l6x6
      simp only [upN] at l6x6d0 l6x6d1
      have HO6 := Lib.hid O6
      clear O6 hb6
      go_wp2_with fail
      refine (told_same a 0 _).mono ?_
      rintro e w7 ⟨rfl, hb7⟩
      have O7 := Own.grow' hb7 HO6.out
      try simp only [List.setIfInBounds_toArray, List.set_cons_zero, List.set_cons_succ] at O7
      have bw7 : Below w.heap.size w w7 := Below.trans (by go_grown) (Below.mono hb7 (by first | omega | (simp; done) | (simp; omega)))
      have zw7 := Below.size hb7
      try simp only [World.size_alloc, World.size_drew, World.size_setCell] at zw7
      clear c6x0 f6x0 l6x0 l6x0d0 l6x0d1 c6x1 f6x1 l6x1 l6x1d0 l6x1d1 c6x2 f6x2 l6x2 l6x2d0 l6x2d1 c6x3 f6x3 l6x3 l6x3d0 l6x3d1 c6x4 f6x4 l6x4 l6x4d0 l6x4d1 c6x5 f6x5 l6x5 l6x5d0 l6x5d1 c6x6 f6x6 l6x6 l6x6d0 l6x6d1
      have c7x0 := Own.cell O7 0 rfl
      have f7x0 := Own.free O7 0 rfl
      have l7x0 := Own.lt O7 0 rfl
      have l7x0d0 := le_up 0 l7x0
      have l7x0d1 := le_up 1 l7x0
      simp only [upN] at l7x0d0 l7x0d1
      have c7x1 := Own.cell O7 1 rfl
      have f7x1 := Own.free O7 1 rfl
      have l7x1 := Own.lt O7 1 rfl
      have l7x1d0 := le_up 0 l7x1
      have l7x1d1 := le_up 1 l7x1
      simp only [upN] at l7x1d0 l7x1d1
      have c7x2 := Own.cell O7 2 rfl
      have f7x2 := Own.free O7 2 rfl
      have l7x2 := Own.lt O7 2 rfl
      have l7x2d0 := le_up 0 l7x2
      have l7x2d1 := le_up 1 l7x2
      simp only [upN] at l7x2d0 l7x2d1
      have c7x3 := Own.cell O7 3 rfl
      have f7x3 := Own.free O7 3 rfl
      have l7x3 := Own.lt O7 3 rfl
      have l7x3d0 := le_up 0 l7x3
      have l7x3d1 := le_up 1 l7x3
      simp only [upN] at l7x3d0 l7x3d1
      have c7x4 := Own.cell O7 4 rfl
      have f7x4 := Own.free O7 4 rfl
      have l7x4 := Own.lt O7 4 rfl
      have l7x4d0 := le_up 0 l7x4
      have l7x4d1 := le_up 1 l7x4
      simp only [upN] at l7x4d0 l7x4d1
      have c7x5 := Own.cell O7 5 rfl
      have f7x5 := Own.free O7 5 rfl
      have l7x5 := Own.lt O7 5 rfl
      have l7x5d0 := le_up 0 l7x5
      have l7x5d1 := le_up 1 l7x5
      simp only [upN] at l7x5d0 l7x5d1
      have c7x6 := Own.cell O7 6 rfl
      have f7x6 := Own.free O7 6 rfl
      have l7x6 := Own.lt O7 6 rfl
      have l7x6d0 := le_up 0 l7x6
      have l7x6d1 := le_up 1 l7x6
      simp only [upN] at l7x6d0 l7x6d1
      have HO7 := Lib.hid O7
      clear O7 hb7
      go_wp2_with fail
      exact ⟨⟨k + 1, by omega, by go_num, (Own.tl (Own.tl HO7.out)), by go_grown⟩, by simp [intOf]; omega⟩
    · obtain rfl : ln = k := by omega
      have dk : decide ((ln : Int) < ln) = false := by simp
      have hSl := HX.out wr hbr
      clear hlt' hk
      go_wp2_with fail
      refine wp_region_grow wr.heap.size 18 0 0 [(0, 0, 79228162514264337593543950336, 8), (1, 0, 158456325028528675187087900672, 16), (2, 3, 316912650057057350374175801344, 237684487542793012780631851008), (3, 4, 633825300114114700748351602688, 316912650057057350374175801344), (4, 8, 1267650600228229401496703205376, 633825300114114700748351602688), (5, 0, 2535301200456458802993406410752, 128), (6, 48, 5070602400912917605986812821504, 3802951800684688204490109616128), (7, 72, 10141204801825835211973625643008, 5070602400912917605986812821504), (8, 128, 20282409603651670423947251286016, 10141204801825835211973625643136), (9, 384, 40564819207303340847894502572032, 30423614405477505635920876929024), (10, 640, 81129638414606681695789005144064, 50706024009129176059868128215040), (11, 1024, 162259276829213363391578010288128, 81129638414606681695789005144072), (12, 1024, 324518553658426726783156020576256, 81129638414606681695789005144080), (13, 7168, 649037107316853453566312041152512, 567907468902246771870523036008448), (14, 9216, 1298074214633706907132624082305024, 730166745731460135262101046296576), (15, 17408, 2596148429267413814265248164610048, 1379203853048313588828413087449088), (16, 33920, 5192296858534827628530496329220096, 2687419272483846331173010795397120), (17, 65664, 10384593717069655257060992658440192, 5202438063336653463742469954863104)] [(.p 0, 1), (.p 1, 3), (.p 2, 7), (.p 3, 15), (.p 4, 31), (.p 5, 63), (.p 6, 127), (.p 7, 255), (.p 8, 511), (.p 9, 1023), (.p 10, 2047), (.p 11, 4095), (.p 12, 8191), (.p 13, 16383), (.p 14, 32767), (.p 15, 65535), (.p 16, 131071), (.p 17, 262143)] [] _ (fun p hp => hp) (by first | omega | (simp; done) | (simp; omega)) (by kernel_rfl) (by kernel_rfl) HO2.out ?_
      refine wpG_pure (i := 0) (v := ?v8x0) rfl rfl (by rfl) (fun w hB hG K hK => ?h8x0) ?_
      case h8x0 =>
        have cx := Own.cell hG 4 rfl
        go_wp2_with fail
        exact hK _ (Below.refl _ _)
      simp only [List.set_cons_zero, List.set_cons_succ]
      refine wpG_pure (i := 1) (v := ?v8x1) rfl rfl (by rfl) (fun w hB hG K hK => ?h8x1) ?_
      case h8x1 =>
        have cx := Own.cell hG 3 rfl
        go_wp2_with fail
        exact hK _ (Below.refl _ _)
      simp only [List.set_cons_zero, List.set_cons_succ]
      refine wpG_pure (i := 2) (v := ?v8x2) rfl rfl (by rfl) (fun w hB hG K hK => ?h8x2) ?_
      case h8x2 =>
        go_wp2_with fail
        refine (HCK.out _ (SlAt.grow hSl (Below.trans (show Below _ _ _ by go_grown) hB))).mono ?_
        rintro e wx ⟨rfl, hbx⟩
        exact hK _ hbx
      simp only [List.set_cons_zero, List.set_cons_succ]
      refine wpG_pure (i := 3) (v := ?v8x3) rfl rfl (by rfl) (fun w hB hG K hK => ?h8x3) ?_
      case h8x3 =>
        go_wp2_with fail
        refine (num_any _ _).mono ?_
        rintro e wx ⟨rfl, rfl⟩
        exact hK _ (Below.refl _ _)
      simp only [List.set_cons_zero, List.set_cons_succ]
      refine wpG_pure (i := 4) (v := ?v8x4) rfl rfl (by rfl) (fun w hB hG K hK => ?h8x4) ?_
      case h8x4 =>
        go_wp2_with fail
        exact hK _ (Below.refl _ _)
      simp only [List.set_cons_zero, List.set_cons_succ]
      refine wpG_pure (i := 5) (v := ?v8x5) rfl rfl (by rfl) (fun w hB hG K hK => ?h8x5) ?_
      case h8x5 =>
        have cx := Own.cell hG 0 rfl
        go_wp2_with fail
        exact hK _ (Below.refl _ _)
      simp only [List.set_cons_zero, List.set_cons_succ]
      refine wpG_pure (i := 6) (v := ?v8x6) rfl rfl (by rfl) (fun w hB hG K hK => ?h8x6) ?_
      case h8x6 =>
        go_wp2_with fail
        exact hK _ (Below.refl _ _)
      simp only [List.set_cons_zero, List.set_cons_succ]
      refine wpG_move (i := 7) rfl rfl rfl (by rfl) rfl ?_
      simp only [List.set_cons_zero, List.set_cons_succ]
      refine wpG_pure (i := 8) (v := ?v8x8) rfl rfl (by rfl) (fun w hB hG K hK => ?h8x8) ?_
      case h8x8 =>
        have cx := Own.cell hG 0 rfl
        go_wp2_with fail
        exact hK _ (Below.refl _ _)
      simp only [List.set_cons_zero, List.set_cons_succ]
      refine wpG_pure (i := 9) (v := ?v8x9) rfl rfl (by rfl) (fun w hB hG K hK => ?h8x9) ?_
      case h8x9 =>
        go_wp2_with fail
        exact hK _ (Below.refl _ _)
      simp only [List.set_cons_zero, List.set_cons_succ]
      refine wpG_move (i := 10) rfl rfl rfl (by rfl) rfl ?_
      simp only [List.set_cons_zero, List.set_cons_succ]
      refine wpG_skip (i := 11) rfl rfl (by rfl) ?_
      simp only [List.set_cons_zero, List.set_cons_succ]
      refine wpG_skip (i := 12) rfl rfl (by rfl) ?_
      simp only [List.set_cons_zero, List.set_cons_succ]
      refine wpG_skip (i := 13) rfl rfl (by rfl) ?_
      simp only [List.set_cons_zero, List.set_cons_succ]
      refine wpG_skip (i := 14) rfl rfl (by rfl) ?_
      simp only [List.set_cons_zero, List.set_cons_succ]
      refine wpG_skip (i := 15) rfl rfl (by rfl) ?_
      simp only [List.set_cons_zero, List.set_cons_succ]
      refine wpG_pure (i := 16) (v := ?v8x16) rfl rfl (by rfl) (fun w hB hG K hK => ?h8x16) ?_
      case h8x16 =>
        go_wp2_with fail
        exact hK _ (Below.refl _ _)
      simp only [List.set_cons_zero, List.set_cons_succ]
      refine wpG_pure (i := 17) (v := ?v8x17) rfl rfl (by rfl) (fun w hB hG K hK => ?h8x17) ?_
      case h8x17 =>
        go_wp2_with fail
        exact hK _ (Below.refl _ _)
      simp only [List.set_cons_zero, List.set_cons_succ]
      refine wpG_nil (fun w8 hb8 hG8 => ?_)
      simp only [List.append_eq, List.cons_append, List.nil_append, List.drop_succ_cons, List.drop_zero, List.drop_nil]
      have O8 := Own.of hG8
      try simp only [List.setIfInBounds_toArray, List.set_cons_zero, List.set_cons_succ] at O8
      have bw8 : Below w.heap.size w w8 := Below.trans (by go_grown) (Below.mono hb8 (by first | omega | (simp; done) | (simp; omega)))
      have zw8 := Below.size hb8
      try simp only [World.size_alloc, World.size_drew, World.size_setCell] at zw8
      have hwc8 : Below wr.heap.size wr w8 := Below.trans (by go_grown) (Below.mono hb8 (by first | omega | (simp; done) | (simp; omega)))
      clear c2x0 f2x0 l2x0 l2x0d0 l2x0d1 c2x1 f2x1 l2x1 l2x1d0 l2x1d1 c2x2 f2x2 l2x2 l2x2d0 l2x2d1 c2x3 f2x3 l2x3 l2x3d0 l2x3d1 c2x4 f2x4 l2x4 l2x4d0 l2x4d1
      have c8x0 := Own.cell O8 0 rfl
      have f8x0 := Own.free O8 0 rfl
      have l8x0 := Own.lt O8 0 rfl
      have l8x0d0 := le_up 0 l8x0
      have l8x0d1 := le_up 1 l8x0
      simp only [upN] at l8x0d0 l8x0d1
      have c8x1 := Own.cell O8 1 rfl
      have f8x1 := Own.free O8 1 rfl
      have l8x1 := Own.lt O8 1 rfl
      have l8x1d0 := le_up 0 l8x1
      have l8x1d1 := le_up 1 l8x1
      simp only [upN] at l8x1d0 l8x1d1
      have c8x2 := Own.cell O8 2 rfl
      have f8x2 := Own.free O8 2 rfl
      have l8x2 := Own.lt O8 2 rfl
      have l8x2d0 := le_up 0 l8x2
      have l8x2d1 := le_up 1 l8x2
      simp only [upN] at l8x2d0 l8x2d1
      have c8x3 := Own.cell O8 3 rfl
      have f8x3 := Own.free O8 3 rfl
      have l8x3 := Own.lt O8 3 rfl
      have l8x3d0 := le_up 0 l8x3
      have l8x3d1 := le_up 1 l8x3
      simp only [upN] at l8x3d0 l8x3d1
      have c8x4 := Own.cell O8 4 rfl
      have f8x4 := Own.free O8 4 rfl
      have l8x4 := Own.lt O8 4 rfl
      have l8x4d0 := le_up 0 l8x4
      have l8x4d1 := le_up 1 l8x4
      simp only [upN] at l8x4d0 l8x4d1
      have HO8 := Lib.hid O8
      clear O8 hb8
      have hSl2 := SlAt.grow hSl hwc8
      go_wp2_with fail
      refine (HEA.out _ (SlAt.grow hSl2 (by go_grown))).mono ?_
      rintro e w9 ⟨bk, bk2, n0, rfl, hn0, hseq, hb9⟩
      have O9 := Own.grow' hb9 HO8.out
      try simp only [List.setIfInBounds_toArray, List.set_cons_zero, List.set_cons_succ] at O9
      have bw9 : Below w.heap.size w w9 := Below.trans (by go_grown) (Below.mono hb9 (by first | omega | (simp; done) | (simp; omega)))
      have zw9 := Below.size hb9
      try simp only [World.size_alloc, World.size_drew, World.size_setCell] at zw9
      clear c8x0 f8x0 l8x0 l8x0d0 l8x0d1 c8x1 f8x1 l8x1 l8x1d0 l8x1d1 c8x2 f8x2 l8x2 l8x2d0 l8x2d1 c8x3 f8x3 l8x3 l8x3d0 l8x3d1 c8x4 f8x4 l8x4 l8x4d0 l8x4d1
      have c9x0 := Own.cell O9 0 rfl
      have f9x0 := Own.free O9 0 rfl
      have l9x0 := Own.lt O9 0 rfl
      have l9x0d0 := le_up 0 l9x0
      have l9x0d1 := le_up 1 l9x0
      simp only [upN] at l9x0d0 l9x0d1
      have c9x1 := Own.cell O9 1 rfl
      have f9x1 := Own.free O9 1 rfl
      have l9x1 := Own.lt O9 1 rfl
      have l9x1d0 := le_up 0 l9x1
      have l9x1d1 := le_up 1 l9x1
      simp only [upN] at l9x1d0 l9x1d1
      have c9x2 := Own.cell O9 2 rfl
      have f9x2 := Own.free O9 2 rfl
      have l9x2 := Own.lt O9 2 rfl
      have l9x2d0 := le_up 0 l9x2
      have l9x2d1 := le_up 1 l9x2
      simp only [upN] at l9x2d0 l9x2d1
      have c9x3 := Own.cell O9 3 rfl
      have f9x3 := Own.free O9 3 rfl
      have l9x3 := Own.lt O9 3 rfl
      have l9x3d0 := le_up 0 l9x3
      have l9x3d1 := le_up 1 l9x3
      simp only [upN] at l9x3d0 l9x3d1
      have c9x4 := Own.cell O9 4 rfl
      have f9x4 := Own.free O9 4 rfl
      have l9x4 := Own.lt O9 4 rfl
      have l9x4d0 := le_up 0 l9x4
      have l9x4d1 := le_up 1 l9x4
      simp only [upN] at l9x4d0 l9x4d1
      have HO9 := Lib.hid O9
      clear O9 hb9
      subst hn0
      have HSEQ := Lib.hid hseq
      clear hseq
      go_wp2_with fail
      refine wp_loop_rounds 3 ?_
      rw [rounds_succ]
      go_wp2_with fail
      refine wp_name fun WL0 hWL0 => ?_
      have zWL0 : WL0.heap.size = w9.heap.size + 3 := by rw [hWL0]; simp
      have hbWL0 : Below w.heap.size w WL0 := by rw [hWL0]; go_grown
      have hkS0 : Keep (fun k => k < w9.heap.size) w9 WL0 := by rw [hWL0]; exact (Keep.alloc (Keep.alloc (Keep.alloc (Keep.refl (fun k => k < w9.heap.size) w9) _) _) _)
      have hoL0 := Lib.hid (show Own _ WL0 by rw [hWL0]; exact (Own.new (Own.new (Own.new HO9.out (w9.heap.size) (by first | rfl | simp)) (w9.heap.size + 1) (by simp)) (w9.heap.size + 1 + 1) (by simp)))
      clear hWL0
      have hI0 : AnyFrom WL0.heap.size (EI (fun (k : Nat) => [(w9.heap.size + 1 + 1, #[.int .i64 (k : Nat)], 3), (w9.heap.size + 1, #[.int .u64 (gK g xs k).l, .int .u64 (gK g xs k).lo, .int .u64 (gK g xs k).hi, .int .u64 (gK g xs k).a], 25), (w9.heap.size, #[.int .i64 0], 3), (w1.heap.size, #[.bool true], 4), (w.heap.size + 1 + 1 + 1, #[.bool false], 4), (w.heap.size + 1 + 1, #[.int .i64 many], 3), (w.heap.size + 1, #[.slice A ln cap], 48), (w.heap.size, #[.int .u64 g.l, .int .u64 g.lo, .int .u64 g.hi, .int .u64 g.a], 25)]) w.heap.size w [] (fun k => k < w9.heap.size) w9) := EI.any (by simp only [List.mem_cons, List.not_mem_nil, or_false, forall_eq, forall_eq_or_imp]; first | omega | exact fun _ h => h.elim | simp) (by simp only [List.mem_cons, List.not_mem_nil, or_false, forall_eq, forall_eq_or_imp]; first | omega | exact fun _ h => h.elim | simp) (Nat.le_refl _) (by have := hbWL0.size; omega) (fun k hk => by first | omega | (dsimp only at hk; omega))
      refine wp_each_block (w0 := w9) (S := (fun k => k < w9.heap.size)) (xs := zsG g xs m) (encs := encG) rfl (enters_of Try.func51 (by kernel_rfl) rfl) HSEQ.out (fun k hk => by first | omega | (dsimp only at hk; omega)) hkS0 (fun _ _ => rfl) (fun k V => EI (fun (k : Nat) => [(w9.heap.size + 1 + 1, #[.int .i64 (k : Nat)], 3), (w9.heap.size + 1, #[.int .u64 (gK g xs k).l, .int .u64 (gK g xs k).lo, .int .u64 (gK g xs k).hi, .int .u64 (gK g xs k).a], 25), (w9.heap.size, #[.int .i64 0], 3), (w1.heap.size, #[.bool true], 4), (w.heap.size + 1 + 1 + 1, #[.bool false], 4), (w.heap.size + 1 + 1, #[.int .i64 many], 3), (w.heap.size + 1, #[.slice A ln cap], 48), (w.heap.size, #[.int .u64 g.l, .int .u64 g.lo, .int .u64 g.hi, .int .u64 g.a], 25)]) w.heap.size w [] (fun k => k < w9.heap.size) w9 k V) (fun k V => EI (fun (k : Nat) => [(w9.heap.size + 1 + 1, #[.int .i64 (k : Nat)], 3), (w9.heap.size + 1, #[.int .u64 (gK g xs k).l, .int .u64 (gK g xs k).lo, .int .u64 (gK g xs k).hi, .int .u64 (gK g xs k).a], 25), (w9.heap.size, #[.int .i64 0], 3), (w1.heap.size, #[.bool true], 4), (w.heap.size + 1 + 1 + 1, #[.bool false], 4), (w.heap.size + 1 + 1, #[.int .i64 many], 3), (w.heap.size + 1, #[.slice A ln cap], 48), (w.heap.size, #[.int .u64 g.l, .int .u64 g.lo, .int .u64 g.hi, .int .u64 g.a], 25)]) w.heap.size w [] (fun k => k < w9.heap.size) w9 k V) ?hI0 ?hIx0 ?h00 ?round0 ?hend0
      case hI0 => exact hI0
      case hIx0 => exact hI0
      case h00 => exact ⟨hoL0.out, hbWL0, fun D h => (by cases h), hkS0⟩
      case round0 =>
        rintro l' k x V hx hE hl'
        gi_wp2
        refine ⟨(Keep.refl _ _).alloc _, fun V' => EI (fun (k : Nat) => [(w9.heap.size + 1 + 1, #[.int .i64 (k : Nat)], 3), (w9.heap.size + 1, #[.int .u64 (gK g xs k).l, .int .u64 (gK g xs k).lo, .int .u64 (gK g xs k).hi, .int .u64 (gK g xs k).a], 25), (w9.heap.size, #[.int .i64 0], 3), (w1.heap.size, #[.bool true], 4), (w.heap.size + 1 + 1 + 1, #[.bool false], 4), (w.heap.size + 1 + 1, #[.int .i64 many], 3), (w.heap.size + 1, #[.slice A ln cap], 48), (w.heap.size, #[.int .u64 g.l, .int .u64 g.lo, .int .u64 g.hi, .int .u64 g.a], 25)]) w.heap.size w [] (fun k => k < w9.heap.size) w9 k V' ∧ Blk V' V.heap.size #[.int .u64 x.l, .int .u64 x.lo, .int .u64 x.hi, .int .u64 x.a] 25, fun _ V' V2 row ⟨h, hx⟩ hg hr => ⟨hI0.from k V' V2 row h hg hr, ownFrom_blk (β := Unit) () V' V2 row hx hg hr⟩, ⟨AnyFrom.alloc hI0 _ hE, heap_alloc_new _ _⟩, ?body0⟩
        case body0 =>
          have hv0 := hE.1.lt 0 rfl
          have hv1 := hE.1.lt 1 rfl
          have hv2 := hE.1.lt 2 rfl
          have hv3 := hE.1.lt 3 rfl
          have hv4 := hE.1.lt 4 rfl
          have hv5 := hE.1.lt 5 rfl
          have hv6 := hE.1.lt 6 rfl
          have hv7 := hE.1.lt 7 rfl
          try dsimp only at hv0 hv1 hv2 hv3 hv4 hv5 hv6 hv7
          clear hE
          generalize V.heap.size = bx at *
          rintro V2 ⟨⟨hO2, hb2, hD2, hK2⟩, hbx⟩
          dsimp only at hO2
          replace hO2 := Own.cons hbx hO2
          have hkm : k < m := by have := (List.getElem?_eq_some_iff.1 hx).1; rw [zsG_len] at this; exact this
          obtain rfl : x = gK g xs (k + 1) := by rw [zsG_at hkm] at hx; cases hx; rfl
          clear hx
          obtain ⟨y, hy⟩ : ∃ y, xs[k]? = some y := ⟨xs[k]'(by rw [hln]; omega), by simp⟩
          have hne : (xs.flatMap Kn.cells)[k * 4 + 0]? = some (.int .u64 y.l) := (by rw [flat_at (f := Kn.cells) (n := 4) (fun _ => rfl) xs k y hy 0 (by omega)]; rfl)
          obtain ⟨b', off, rfl, hbl, hcell⟩ := (HX.out V2 hb2).cell hne
          have hc0 : V2.cell? ⟨b', off + k * 4, none⟩ = some (.int .u64 y.l) := by have := hcell (k * 4 + 0) _ (by rw [flat_at (f := Kn.cells) (n := 4) (fun _ => rfl) xs k y hy 0 (by omega)]; rfl); simpa [Nat.add_assoc] using this
          have hc1 : V2.cell? ⟨b', off + k * 4 + 1, none⟩ = some (.int .u64 y.lo) := by have := hcell (k * 4 + 1) _ (by rw [flat_at (f := Kn.cells) (n := 4) (fun _ => rfl) xs k y hy 1 (by omega)]; rfl); simpa [Nat.add_assoc] using this
          have hc2 : V2.cell? ⟨b', off + k * 4 + 2, none⟩ = some (.int .u64 y.hi) := by have := hcell (k * 4 + 2) _ (by rw [flat_at (f := Kn.cells) (n := 4) (fun _ => rfl) xs k y hy 2 (by omega)]; rfl); simpa [Nat.add_assoc] using this
          have hc3 : V2.cell? ⟨b', off + k * 4 + 3, none⟩ = some (.int .u64 y.a) := by have := hcell (k * 4 + 3) _ (by rw [flat_at (f := Kn.cells) (n := 4) (fun _ => rfl) xs k y hy 3 (by omega)]; rfl); simpa [Nat.add_assoc] using this
          clear hcell hne
          have hkb : k < 100 := by omega
          have d2 : decide ((ln : Int) ≤ k) = false := by simp; omega
          have d2' : decide (ln ≤ k) = false := by simp; omega
          have hRX := HRY.out k y hkm hy
          generalize hn1 : gK g xs (k + 1) = g1 at *
          generalize gK g xs k = g0 at *
          have HRX := Lib.hid hRX
          clear hRX
          have HVB := Lib.hid hb2
          have HVD := Lib.hid hD2
          have HVK := Lib.hid hK2
          clear hD2 hK2 hbx
          have O10 := hO2
          have c10x0 := Own.cell O10 0 rfl
          have f10x0 := Own.free O10 0 rfl
          have l10x0 := Own.lt O10 0 rfl
          have l10x0d0 := le_up 0 l10x0
          have l10x0d1 := le_up 1 l10x0
          simp only [upN] at l10x0d0 l10x0d1
          have c10x1 := Own.cell O10 1 rfl
          have f10x1 := Own.free O10 1 rfl
          have l10x1 := Own.lt O10 1 rfl
          have l10x1d0 := le_up 0 l10x1
          have l10x1d1 := le_up 1 l10x1
          simp only [upN] at l10x1d0 l10x1d1
          have c10x2 := Own.cell O10 2 rfl
          have f10x2 := Own.free O10 2 rfl
          have l10x2 := Own.lt O10 2 rfl
          have l10x2d0 := le_up 0 l10x2
          have l10x2d1 := le_up 1 l10x2
          simp only [upN] at l10x2d0 l10x2d1
          have c10x3 := Own.cell O10 3 rfl
          have f10x3 := Own.free O10 3 rfl
          have l10x3 := Own.lt O10 3 rfl
          have l10x3d0 := le_up 0 l10x3
          have l10x3d1 := le_up 1 l10x3
          simp only [upN] at l10x3d0 l10x3d1
          have c10x4 := Own.cell O10 4 rfl
          have f10x4 := Own.free O10 4 rfl
          have l10x4 := Own.lt O10 4 rfl
          have l10x4d0 := le_up 0 l10x4
          have l10x4d1 := le_up 1 l10x4
          simp only [upN] at l10x4d0 l10x4d1
          have c10x5 := Own.cell O10 5 rfl
          have f10x5 := Own.free O10 5 rfl
          have l10x5 := Own.lt O10 5 rfl
          have l10x5d0 := le_up 0 l10x5
          have l10x5d1 := le_up 1 l10x5
          simp only [upN] at l10x5d0 l10x5d1
          have c10x6 := Own.cell O10 6 rfl
          have f10x6 := Own.free O10 6 rfl
          have l10x6 := Own.lt O10 6 rfl
          have l10x6d0 := le_up 0 l10x6
          have l10x6d1 := le_up 1 l10x6
          simp only [upN] at l10x6d0 l10x6d1
          have c10x7 := Own.cell O10 7 rfl
          have f10x7 := Own.free O10 7 rfl
          have l10x7 := Own.lt O10 7 rfl
          have l10x7d0 := le_up 0 l10x7
          have l10x7d1 := le_up 1 l10x7
          simp only [upN] at l10x7d0 l10x7d1
          have c10x8 := Own.cell O10 8 rfl
          have f10x8 := Own.free O10 8 rfl
          have l10x8 := Own.lt O10 8 rfl
          have l10x8d0 := le_up 0 l10x8
          have l10x8d1 := le_up 1 l10x8
          simp only [upN] at l10x8d0 l10x8d1
          have HO10 := Lib.hid O10
          clear O10
          have hz0 := l10x0
          have hz1 := l10x1
          have hz2 := l10x2
          have hz3 := l10x3
          have hz4 := l10x4
          have hz5 := l10x5
          have hz6 := l10x6
          have hz7 := l10x7
          have hz8 := l10x8
          by_cases hk2 : (k : Int) + 1 < many
          · have d3 : decide (many ≤ (k : Int) + 1) = false := by simp; omega
            gi_wp2
            refine regInG (by kernel_rfl) (fun ⟨_, _, h⟩ => h) V2.heap.size 12 1024 512 [(0, 0, 2787593149816327892691964784081045188247552, 65536), (1, 0, 5575186299632655785383929568162090376495104, 16), (2, 0, 11150372599265311570767859136324180752990208, 262144), (3, 6, 22300745198530623141535718272648361505980416, 16725558898897967356151788704486271129485312), (4, 8, 44601490397061246283071436545296723011960832, 22300745198530623141535718272648361505980416), (5, 17, 89202980794122492566142873090593446023921664, 47389083546877574175763401329377768200208384), (6, 32, 1393796574908163946345982392040522594123776, 89202980794122492566142873090593446023921664), (7, 64, 178405961588244985132285746181186892047843328, 1393796574908163946345982392040522594123776), (8, 64, 356811923176489970264571492362373784095686656, 1393796574908163946345982392040522594123776), (9, 0, 1048576, 0), (10, 767, 0, 178405961588244985132285746181186892048891904), (11, 2047, 2097152, 356811923176489970264571492362373784095686656)] [(.p 0, 1), (.p 1, 3), (.p 2, 7), (.p 3, 15), (.q 4, 31), (.p 5, 63), (.p 6, 127), (.p 7, 255), (.p 8, 511), (.g 9, 1023), (.c 10, 2047), (.p 11, 4095)] [] _ (fun p hp => hp) (by first | omega | (simp; done) | (simp; omega)) (by kernel_rfl) (by kernel_rfl) HO10.out ?_
            refine wpG_pure (i := 0) (v := ?v11x0) rfl rfl (by rfl) (fun w hB hG K hK => ?h11x0) ?_
            case h11x0 =>
              have cx := Own.cell hG 2 rfl
              go_wp2_with fail
              exact hK _ (Below.refl _ _)
            simp only [List.set_cons_zero, List.set_cons_succ]
            refine wpG_pure (i := 1) (v := ?v11x1) rfl rfl (by rfl) (fun w hB hG K hK => ?h11x1) ?_
            case h11x1 =>
              have cx := Own.cell hG 7 rfl
              go_wp2_with fail
              exact hK _ (Below.refl _ _)
            simp only [List.set_cons_zero, List.set_cons_succ]
            refine wpG_move (i := 2) rfl rfl rfl (by rfl) rfl ?_
            simp only [List.set_cons_zero, List.set_cons_succ]
            refine wpG_pure (i := 3) (v := ?v11x3) rfl rfl (by rfl) (fun w hB hG K hK => ?h11x3) ?_
            case h11x3 =>
              go_wp2_with fail
              exact hK _ (Below.refl _ _)
            simp only [List.set_cons_zero, List.set_cons_succ]
            refine wpG_op (i := 4) (v := ?v11x4) rfl rfl (by rfl) (fun w hB hG K hK => ?h11x4) ?_
            case h11x4 =>
              have hx0 := (hB.cell (p := ⟨b', off + k * 4, none⟩) (World.block_lt_of_cell? V2 _ hc0)).trans hc0
              have hx1 := (hB.cell (p := ⟨b', off + k * 4 + 1, none⟩) (World.block_lt_of_cell? V2 _ hc1)).trans hc1
              have hx2 := (hB.cell (p := ⟨b', off + k * 4 + 2, none⟩) (World.block_lt_of_cell? V2 _ hc2)).trans hc2
              have hx3 := (hB.cell (p := ⟨b', off + k * 4 + 3, none⟩) (World.block_lt_of_cell? V2 _ hc3)).trans hc3
              go_wp2_with fail
              exact hK _ (Below.refl _ _)
            simp only [List.set_cons_zero, List.set_cons_succ]
            refine wpG_pure (i := 5) (v := ?v11x5) rfl rfl (by rfl) (fun w hB hG K hK => ?h11x5) ?_
            case h11x5 =>
              go_wp2_with fail
              refine (HRX.out _).mono ?_
              rintro e wx ⟨rfl, hbx⟩
              exact hK _ hbx
            simp only [List.set_cons_zero, List.set_cons_succ]
            refine wpG_move (i := 6) rfl rfl rfl (by rfl) rfl ?_
            simp only [List.set_cons_zero, List.set_cons_succ]
            refine wpG_pure (i := 7) (v := ?v11x7) rfl rfl (by rfl) (fun w hB hG K hK => ?h11x7) ?_
            case h11x7 =>
              go_wp2_with fail
              exact hK _ (Below.refl _ _)
            simp only [List.set_cons_zero, List.set_cons_succ]
            refine wpG_pure (i := 8) (v := ?v11x8) rfl rfl (by rfl) (fun w hB hG K hK => ?h11x8) ?_
            case h11x8 =>
              go_wp2_with fail
              exact hK _ (Below.refl _ _)
            simp only [List.set_cons_zero, List.set_cons_succ]
            refine wpG_make (i := 9) (c := ?c11x9) (t := ?t11x9) (fun b => .pointer (some ⟨b, 0, none⟩)) rfl rfl (by rfl) (fun w hB hG K hK => ?h11x9) (fun v11g1 l11g1 n11g1 => ?_)
            case h11x9 =>
              go_wp2_with fail
              exact hK
            simp only [List.set_cons_zero, List.set_cons_succ]
            try simp only [World.size_alloc, World.size_drew, World.size_setCell] at l11g1
            clear n11g1
            refine wpG_store (i := 10) (c' := ?c11x10) 0 rfl (Ne1.cons (by first | omega | (simp; omega)) (Ne1.cons (by first | omega | (simp; omega)) (Ne1.cons (by first | omega | (simp; omega)) (Ne1.cons (by first | omega | (simp; omega)) (Ne1.cons (by first | omega | (simp; omega)) (Ne1.cons (by first | omega | (simp; omega)) (Ne1.cons (by first | omega | (simp; omega)) (Ne1.cons (by first | omega | (simp; omega)) (Ne1.cons (by first | omega | (simp; omega)) Ne1.nil))))))))) (by first | omega | (simp; omega)) (fun p hp => List.mem_cons_of_mem _ (hp)) rfl rfl (by rfl) (fun w hB hF hG K hK => ?h11x10) ?_
            case h11x10 =>
              have cx := hF.cell
              have fx := hF.free
              go_wp2_with fail
              refine hK _ (Same.set (Same.set (Same.set (Same.set (Same.refl _ _) _ _) _ _) _ _) _ _) ?_
              exact (Blk.set (Blk.set (Blk.set (Blk.set hF _ _) _ _) _ _) _ _)
            simp only [List.set_cons_zero, List.set_cons_succ, List.setIfInBounds_toArray]
            refine wpG_assign (i := 11) rfl rfl rfl (by rfl) rfl ?_
            simp only [List.set_cons_zero, List.set_cons_succ]
            refine wpG_nil (fun w11 hb11 hG11 => ?_)
            simp only [List.append_eq, List.cons_append, List.nil_append, List.drop_succ_cons, List.drop_zero, List.drop_nil]
            have u11g1 := Own.lt hG11 0 rfl
            have O11 := Own.of hG11
            try simp only [List.setIfInBounds_toArray, List.set_cons_zero, List.set_cons_succ] at O11
            have bw11 : Below w.heap.size w w11 := Below.trans (by go_grown) (Below.mono hb11 (by first | omega | (simp; done) | (simp; omega)))
            have zw11 := Below.size hb11
            try simp only [World.size_alloc, World.size_drew, World.size_setCell] at zw11
            have kk11 := Keep.below (Keep.refl (fun b => b < w9.heap.size ∨ WL0.heap.size ≤ b) V2) hb11
            have hwc11 : Below V2.heap.size V2 w11 := Below.trans (by go_grown) (Below.mono hb11 (by first | omega | (simp; done) | (simp; omega)))
            clear c10x0 f10x0 l10x0 l10x0d0 l10x0d1 c10x1 f10x1 l10x1 l10x1d0 l10x1d1 c10x2 f10x2 l10x2 l10x2d0 l10x2d1 c10x3 f10x3 l10x3 l10x3d0 l10x3d1 c10x4 f10x4 l10x4 l10x4d0 l10x4d1 c10x5 f10x5 l10x5 l10x5d0 l10x5d1 c10x6 f10x6 l10x6 l10x6d0 l10x6d1 c10x7 f10x7 l10x7 l10x7d0 l10x7d1 c10x8 f10x8 l10x8 l10x8d0 l10x8d1
            have c11x0 := Own.cell O11 0 rfl
            have f11x0 := Own.free O11 0 rfl
            have l11x0 := Own.lt O11 0 rfl
            have l11x0d0 := le_up 0 l11x0
            have l11x0d1 := le_up 1 l11x0
            simp only [upN] at l11x0d0 l11x0d1
            have c11x1 := Own.cell O11 1 rfl
            have f11x1 := Own.free O11 1 rfl
            have l11x1 := Own.lt O11 1 rfl
            have l11x1d0 := le_up 0 l11x1
            have l11x1d1 := le_up 1 l11x1
            simp only [upN] at l11x1d0 l11x1d1
            have c11x2 := Own.cell O11 2 rfl
            have f11x2 := Own.free O11 2 rfl
            have l11x2 := Own.lt O11 2 rfl
            have l11x2d0 := le_up 0 l11x2
            have l11x2d1 := le_up 1 l11x2
            simp only [upN] at l11x2d0 l11x2d1
            have c11x3 := Own.cell O11 3 rfl
            have f11x3 := Own.free O11 3 rfl
            have l11x3 := Own.lt O11 3 rfl
            have l11x3d0 := le_up 0 l11x3
            have l11x3d1 := le_up 1 l11x3
            simp only [upN] at l11x3d0 l11x3d1
            have c11x4 := Own.cell O11 4 rfl
            have f11x4 := Own.free O11 4 rfl
            have l11x4 := Own.lt O11 4 rfl
            have l11x4d0 := le_up 0 l11x4
            have l11x4d1 := le_up 1 l11x4
            simp only [upN] at l11x4d0 l11x4d1
            have c11x5 := Own.cell O11 5 rfl
            have f11x5 := Own.free O11 5 rfl
            have l11x5 := Own.lt O11 5 rfl
            have l11x5d0 := le_up 0 l11x5
            have l11x5d1 := le_up 1 l11x5
            simp only [upN] at l11x5d0 l11x5d1
            have c11x6 := Own.cell O11 6 rfl
            have f11x6 := Own.free O11 6 rfl
            have l11x6 := Own.lt O11 6 rfl
            have l11x6d0 := le_up 0 l11x6
            have l11x6d1 := le_up 1 l11x6
            simp only [upN] at l11x6d0 l11x6d1
            have c11x7 := Own.cell O11 7 rfl
            have f11x7 := Own.free O11 7 rfl
            have l11x7 := Own.lt O11 7 rfl
            have l11x7d0 := le_up 0 l11x7
            have l11x7d1 := le_up 1 l11x7
            simp only [upN] at l11x7d0 l11x7d1
            have c11x8 := Own.cell O11 8 rfl
            have f11x8 := Own.free O11 8 rfl
            have l11x8 := Own.lt O11 8 rfl
            have l11x8d0 := le_up 0 l11x8
            have l11x8d1 := le_up 1 l11x8
            simp only [upN] at l11x8d0 l11x8d1
            have c11x9 := Own.cell O11 9 rfl
            have f11x9 := Own.free O11 9 rfl
            have l11x9 := Own.lt O11 9 rfl
            have l11x9d0 := le_up 0 l11x9
            have l11x9d1 := le_up 1 l11x9
            simp only [upN] at l11x9d0 l11x9d1
            have HO11 := Lib.hid O11
            clear O11 hb11
            go_wp2_with fail
            have hv11' := hwc11
            gi_wp2
            refine ⟨(Keep.setCell (Keep.setCell (Keep.setCell (Keep.setCell (Keep.setCell kk11 _ _ (.inl (by first | (intro h; dsimp only at h; omega) | (intro h; omega)))) _ _ (.inl (by first | (intro h; dsimp only at h; omega) | (intro h; omega)))) _ _ (.inl (by first | (intro h; dsimp only at h; omega) | (intro h; omega)))) _ _ (.inl (by first | (intro h; dsimp only at h; omega) | (intro h; omega)))) _ _ (.inl (by first | (intro h; dsimp only at h; omega) | (intro h; omega)))), ⟨?own0x1, ?bel0x1, ?dd0x1, ?ks0x1⟩⟩
            case own0x1 => dsimp only; rw [hn1]; refine Own.eqv (Own.tl (Own.tl (Own.set (Own.set (Own.set (Own.set (Own.set HO11.out 3 rfl (Ne1.cons (by first | omega | (simp; omega)) (Ne1.cons (by first | omega | (simp; omega)) (Ne1.cons (by first | omega | (simp; omega)) (Ne1.cons (by first | omega | (simp; omega)) (Ne1.cons (by first | omega | (simp; omega)) (Ne1.cons (by first | omega | (simp; omega)) (Ne1.cons (by first | omega | (simp; omega)) (Ne1.cons (by first | omega | (simp; omega)) (Ne1.cons (by first | omega | (simp; omega)) Ne1.nil)))))))))) 3 rfl (Ne1.cons (by first | omega | (simp; omega)) (Ne1.cons (by first | omega | (simp; omega)) (Ne1.cons (by first | omega | (simp; omega)) (Ne1.cons (by first | omega | (simp; omega)) (Ne1.cons (by first | omega | (simp; omega)) (Ne1.cons (by first | omega | (simp; omega)) (Ne1.cons (by first | omega | (simp; omega)) (Ne1.cons (by first | omega | (simp; omega)) (Ne1.cons (by first | omega | (simp; omega)) Ne1.nil)))))))))) 3 rfl (Ne1.cons (by first | omega | (simp; omega)) (Ne1.cons (by first | omega | (simp; omega)) (Ne1.cons (by first | omega | (simp; omega)) (Ne1.cons (by first | omega | (simp; omega)) (Ne1.cons (by first | omega | (simp; omega)) (Ne1.cons (by first | omega | (simp; omega)) (Ne1.cons (by first | omega | (simp; omega)) (Ne1.cons (by first | omega | (simp; omega)) (Ne1.cons (by first | omega | (simp; omega)) Ne1.nil)))))))))) 3 rfl (Ne1.cons (by first | omega | (simp; omega)) (Ne1.cons (by first | omega | (simp; omega)) (Ne1.cons (by first | omega | (simp; omega)) (Ne1.cons (by first | omega | (simp; omega)) (Ne1.cons (by first | omega | (simp; omega)) (Ne1.cons (by first | omega | (simp; omega)) (Ne1.cons (by first | omega | (simp; omega)) (Ne1.cons (by first | omega | (simp; omega)) (Ne1.cons (by first | omega | (simp; omega)) Ne1.nil)))))))))) 2 rfl (Ne1.cons (by first | omega | (simp; omega)) (Ne1.cons (by first | omega | (simp; omega)) (Ne1.cons (by first | omega | (simp; omega)) (Ne1.cons (by first | omega | (simp; omega)) (Ne1.cons (by first | omega | (simp; omega)) (Ne1.cons (by first | omega | (simp; omega)) (Ne1.cons (by first | omega | (simp; omega)) (Ne1.cons (by first | omega | (simp; omega)) (Ne1.cons (by first | omega | (simp; omega)) Ne1.nil)))))))))))) ?_; simp only [List.setIfInBounds_toArray, List.set_cons_zero, List.set_cons_succ]; rfl
            case bel0x1 => exact (Below.setCell (Below.setCell (Below.setCell (Below.setCell (Below.setCell (HVB.out.trans (hv11'.mono (by have := HVB.out.size; omega))) (p := ⟨_, _, none⟩) (by first | omega | (simp; omega)) _) (p := ⟨_, _, none⟩) (by first | omega | (simp; omega)) _) (p := ⟨_, _, none⟩) (by first | omega | (simp; omega)) _) (p := ⟨_, _, none⟩) (by first | omega | (simp; omega)) _) (p := ⟨_, _, none⟩) (by first | omega | (simp; omega)) _)
            case ks0x1 => exact HVK.out.trans (((Keep.setCell (Keep.setCell (Keep.setCell (Keep.setCell (Keep.setCell kk11 _ _ (.inl (by first | (intro h; dsimp only at h; omega) | (intro h; omega)))) _ _ (.inl (by first | (intro h; dsimp only at h; omega) | (intro h; omega)))) _ _ (.inl (by first | (intro h; dsimp only at h; omega) | (intro h; omega)))) _ _ (.inl (by first | (intro h; dsimp only at h; omega) | (intro h; omega)))) _ _ (.inl (by first | (intro h; dsimp only at h; omega) | (intro h; omega))))).mono (fun q hq => .inl hq))
            case dd0x1 => exact fun D h => ((((((KeepsOthers.below hv11').trans (KeepsOthers.setCell _ _ _)).trans (KeepsOthers.setCell _ _ _)).trans (KeepsOthers.setCell _ _ _)).trans (KeepsOthers.setCell _ _ _)).trans (KeepsOthers.setCell _ _ _)).same _ _ (HVD.out D h) rfl
          · have d3 : decide (many ≤ (k : Int) + 1) = true := by simp; omega
            gi_wp2
            refine regInG (by kernel_rfl) (fun ⟨_, _, h⟩ => h) V2.heap.size 12 1024 512 [(0, 0, 2787593149816327892691964784081045188247552, 65536), (1, 0, 5575186299632655785383929568162090376495104, 16), (2, 0, 11150372599265311570767859136324180752990208, 262144), (3, 6, 22300745198530623141535718272648361505980416, 16725558898897967356151788704486271129485312), (4, 8, 44601490397061246283071436545296723011960832, 22300745198530623141535718272648361505980416), (5, 17, 89202980794122492566142873090593446023921664, 47389083546877574175763401329377768200208384), (6, 32, 1393796574908163946345982392040522594123776, 89202980794122492566142873090593446023921664), (7, 64, 178405961588244985132285746181186892047843328, 1393796574908163946345982392040522594123776), (8, 64, 356811923176489970264571492362373784095686656, 1393796574908163946345982392040522594123776), (9, 0, 1048576, 0), (10, 767, 0, 178405961588244985132285746181186892048891904), (11, 2047, 2097152, 356811923176489970264571492362373784095686656)] [(.p 0, 1), (.p 1, 3), (.p 2, 7), (.p 3, 15), (.q 4, 31), (.p 5, 63), (.p 6, 127), (.p 7, 255), (.p 8, 511), (.g 9, 1023), (.c 10, 2047), (.p 11, 4095)] [] _ (fun p hp => hp) (by first | omega | (simp; done) | (simp; omega)) (by kernel_rfl) (by kernel_rfl) HO10.out ?_
            refine wpG_pure (i := 0) (v := ?v12x0) rfl rfl (by rfl) (fun w hB hG K hK => ?h12x0) ?_
            case h12x0 =>
              have cx := Own.cell hG 2 rfl
              go_wp2_with fail
              exact hK _ (Below.refl _ _)
            simp only [List.set_cons_zero, List.set_cons_succ]
            refine wpG_pure (i := 1) (v := ?v12x1) rfl rfl (by rfl) (fun w hB hG K hK => ?h12x1) ?_
            case h12x1 =>
              have cx := Own.cell hG 7 rfl
              go_wp2_with fail
              exact hK _ (Below.refl _ _)
            simp only [List.set_cons_zero, List.set_cons_succ]
            refine wpG_move (i := 2) rfl rfl rfl (by rfl) rfl ?_
            simp only [List.set_cons_zero, List.set_cons_succ]
            refine wpG_pure (i := 3) (v := ?v12x3) rfl rfl (by rfl) (fun w hB hG K hK => ?h12x3) ?_
            case h12x3 =>
              go_wp2_with fail
              exact hK _ (Below.refl _ _)
            simp only [List.set_cons_zero, List.set_cons_succ]
            refine wpG_op (i := 4) (v := ?v12x4) rfl rfl (by rfl) (fun w hB hG K hK => ?h12x4) ?_
            case h12x4 =>
              have hx0 := (hB.cell (p := ⟨b', off + k * 4, none⟩) (World.block_lt_of_cell? V2 _ hc0)).trans hc0
              have hx1 := (hB.cell (p := ⟨b', off + k * 4 + 1, none⟩) (World.block_lt_of_cell? V2 _ hc1)).trans hc1
              have hx2 := (hB.cell (p := ⟨b', off + k * 4 + 2, none⟩) (World.block_lt_of_cell? V2 _ hc2)).trans hc2
              have hx3 := (hB.cell (p := ⟨b', off + k * 4 + 3, none⟩) (World.block_lt_of_cell? V2 _ hc3)).trans hc3
              go_wp2_with fail
              exact hK _ (Below.refl _ _)
            simp only [List.set_cons_zero, List.set_cons_succ]
            refine wpG_pure (i := 5) (v := ?v12x5) rfl rfl (by rfl) (fun w hB hG K hK => ?h12x5) ?_
            case h12x5 =>
              go_wp2_with fail
              refine (HRX.out _).mono ?_
              rintro e wx ⟨rfl, hbx⟩
              exact hK _ hbx
            simp only [List.set_cons_zero, List.set_cons_succ]
            refine wpG_move (i := 6) rfl rfl rfl (by rfl) rfl ?_
            simp only [List.set_cons_zero, List.set_cons_succ]
            refine wpG_pure (i := 7) (v := ?v12x7) rfl rfl (by rfl) (fun w hB hG K hK => ?h12x7) ?_
            case h12x7 =>
              go_wp2_with fail
              exact hK _ (Below.refl _ _)
            simp only [List.set_cons_zero, List.set_cons_succ]
            refine wpG_pure (i := 8) (v := ?v12x8) rfl rfl (by rfl) (fun w hB hG K hK => ?h12x8) ?_
            case h12x8 =>
              go_wp2_with fail
              exact hK _ (Below.refl _ _)
            simp only [List.set_cons_zero, List.set_cons_succ]
            refine wpG_make (i := 9) (c := ?c12x9) (t := ?t12x9) (fun b => .pointer (some ⟨b, 0, none⟩)) rfl rfl (by rfl) (fun w hB hG K hK => ?h12x9) (fun v12g1 l12g1 n12g1 => ?_)
            case h12x9 =>
              go_wp2_with fail
              exact hK
            simp only [List.set_cons_zero, List.set_cons_succ]
            try simp only [World.size_alloc, World.size_drew, World.size_setCell] at l12g1
            clear n12g1
            refine wpG_store (i := 10) (c' := ?c12x10) 0 rfl (Ne1.cons (by first | omega | (simp; omega)) (Ne1.cons (by first | omega | (simp; omega)) (Ne1.cons (by first | omega | (simp; omega)) (Ne1.cons (by first | omega | (simp; omega)) (Ne1.cons (by first | omega | (simp; omega)) (Ne1.cons (by first | omega | (simp; omega)) (Ne1.cons (by first | omega | (simp; omega)) (Ne1.cons (by first | omega | (simp; omega)) (Ne1.cons (by first | omega | (simp; omega)) Ne1.nil))))))))) (by first | omega | (simp; omega)) (fun p hp => List.mem_cons_of_mem _ (hp)) rfl rfl (by rfl) (fun w hB hF hG K hK => ?h12x10) ?_
            case h12x10 =>
              have cx := hF.cell
              have fx := hF.free
              go_wp2_with fail
              refine hK _ (Same.set (Same.set (Same.set (Same.set (Same.refl _ _) _ _) _ _) _ _) _ _) ?_
              exact (Blk.set (Blk.set (Blk.set (Blk.set hF _ _) _ _) _ _) _ _)
            simp only [List.set_cons_zero, List.set_cons_succ, List.setIfInBounds_toArray]
            refine wpG_assign (i := 11) rfl rfl rfl (by rfl) rfl ?_
            simp only [List.set_cons_zero, List.set_cons_succ]
            refine wpG_nil (fun w12 hb12 hG12 => ?_)
            simp only [List.append_eq, List.cons_append, List.nil_append, List.drop_succ_cons, List.drop_zero, List.drop_nil]
            have u12g1 := Own.lt hG12 0 rfl
            have O12 := Own.of hG12
            try simp only [List.setIfInBounds_toArray, List.set_cons_zero, List.set_cons_succ] at O12
            have bw12 : Below w.heap.size w w12 := Below.trans (by go_grown) (Below.mono hb12 (by first | omega | (simp; done) | (simp; omega)))
            have zw12 := Below.size hb12
            try simp only [World.size_alloc, World.size_drew, World.size_setCell] at zw12
            have kk12 := Keep.below (Keep.refl (fun b => b < w9.heap.size ∨ WL0.heap.size ≤ b) V2) hb12
            have hwc12 : Below V2.heap.size V2 w12 := Below.trans (by go_grown) (Below.mono hb12 (by first | omega | (simp; done) | (simp; omega)))
            clear c10x0 f10x0 l10x0 l10x0d0 l10x0d1 c10x1 f10x1 l10x1 l10x1d0 l10x1d1 c10x2 f10x2 l10x2 l10x2d0 l10x2d1 c10x3 f10x3 l10x3 l10x3d0 l10x3d1 c10x4 f10x4 l10x4 l10x4d0 l10x4d1 c10x5 f10x5 l10x5 l10x5d0 l10x5d1 c10x6 f10x6 l10x6 l10x6d0 l10x6d1 c10x7 f10x7 l10x7 l10x7d0 l10x7d1 c10x8 f10x8 l10x8 l10x8d0 l10x8d1
            have c12x0 := Own.cell O12 0 rfl
            have f12x0 := Own.free O12 0 rfl
            have l12x0 := Own.lt O12 0 rfl
            have l12x0d0 := le_up 0 l12x0
            have l12x0d1 := le_up 1 l12x0
            simp only [upN] at l12x0d0 l12x0d1
            have c12x1 := Own.cell O12 1 rfl
            have f12x1 := Own.free O12 1 rfl
            have l12x1 := Own.lt O12 1 rfl
            have l12x1d0 := le_up 0 l12x1
            have l12x1d1 := le_up 1 l12x1
            simp only [upN] at l12x1d0 l12x1d1
            have c12x2 := Own.cell O12 2 rfl
            have f12x2 := Own.free O12 2 rfl
            have l12x2 := Own.lt O12 2 rfl
            have l12x2d0 := le_up 0 l12x2
            have l12x2d1 := le_up 1 l12x2
            simp only [upN] at l12x2d0 l12x2d1
            have c12x3 := Own.cell O12 3 rfl
            have f12x3 := Own.free O12 3 rfl
            have l12x3 := Own.lt O12 3 rfl
            have l12x3d0 := le_up 0 l12x3
            have l12x3d1 := le_up 1 l12x3
            simp only [upN] at l12x3d0 l12x3d1
            have c12x4 := Own.cell O12 4 rfl
            have f12x4 := Own.free O12 4 rfl
            have l12x4 := Own.lt O12 4 rfl
            have l12x4d0 := le_up 0 l12x4
            have l12x4d1 := le_up 1 l12x4
            simp only [upN] at l12x4d0 l12x4d1
            have c12x5 := Own.cell O12 5 rfl
            have f12x5 := Own.free O12 5 rfl
            have l12x5 := Own.lt O12 5 rfl
            have l12x5d0 := le_up 0 l12x5
            have l12x5d1 := le_up 1 l12x5
            simp only [upN] at l12x5d0 l12x5d1
            have c12x6 := Own.cell O12 6 rfl
            have f12x6 := Own.free O12 6 rfl
            have l12x6 := Own.lt O12 6 rfl
            have l12x6d0 := le_up 0 l12x6
            have l12x6d1 := le_up 1 l12x6
            simp only [upN] at l12x6d0 l12x6d1
            have c12x7 := Own.cell O12 7 rfl
            have f12x7 := Own.free O12 7 rfl
            have l12x7 := Own.lt O12 7 rfl
            have l12x7d0 := le_up 0 l12x7
            have l12x7d1 := le_up 1 l12x7
            simp only [upN] at l12x7d0 l12x7d1
            have c12x8 := Own.cell O12 8 rfl
            have f12x8 := Own.free O12 8 rfl
            have l12x8 := Own.lt O12 8 rfl
            have l12x8d0 := le_up 0 l12x8
            have l12x8d1 := le_up 1 l12x8
            simp only [upN] at l12x8d0 l12x8d1
            have c12x9 := Own.cell O12 9 rfl
            have f12x9 := Own.free O12 9 rfl
            have l12x9 := Own.lt O12 9 rfl
            have l12x9d0 := le_up 0 l12x9
            have l12x9d1 := le_up 1 l12x9
            simp only [upN] at l12x9d0 l12x9d1
            have HO12 := Lib.hid O12
            clear O12 hb12
            go_wp2_with fail
            have hv12' := hwc12
            gi_wp2
            refine ⟨((Keep.setCell (Keep.setCell (Keep.setCell (Keep.setCell (Keep.setCell kk12 _ _ (.inl (by first | (intro h; dsimp only at h; omega) | (intro h; omega)))) _ _ (.inl (by first | (intro h; dsimp only at h; omega) | (intro h; omega)))) _ _ (.inl (by first | (intro h; dsimp only at h; omega) | (intro h; omega)))) _ _ (.inl (by first | (intro h; dsimp only at h; omega) | (intro h; omega)))) _ _ (.inl (by first | (intro h; dsimp only at h; omega) | (intro h; omega))))).mono (fun q hq => .inr hq), rfl, ⟨?own0x2, ?bel0x2, ?dd0x2, ?ks0x2⟩⟩
            case own0x2 => dsimp only; rw [hn1]; refine Own.eqv (Own.tl (Own.tl (Own.set (Own.set (Own.set (Own.set (Own.set HO12.out 3 rfl (Ne1.cons (by first | omega | (simp; omega)) (Ne1.cons (by first | omega | (simp; omega)) (Ne1.cons (by first | omega | (simp; omega)) (Ne1.cons (by first | omega | (simp; omega)) (Ne1.cons (by first | omega | (simp; omega)) (Ne1.cons (by first | omega | (simp; omega)) (Ne1.cons (by first | omega | (simp; omega)) (Ne1.cons (by first | omega | (simp; omega)) (Ne1.cons (by first | omega | (simp; omega)) Ne1.nil)))))))))) 3 rfl (Ne1.cons (by first | omega | (simp; omega)) (Ne1.cons (by first | omega | (simp; omega)) (Ne1.cons (by first | omega | (simp; omega)) (Ne1.cons (by first | omega | (simp; omega)) (Ne1.cons (by first | omega | (simp; omega)) (Ne1.cons (by first | omega | (simp; omega)) (Ne1.cons (by first | omega | (simp; omega)) (Ne1.cons (by first | omega | (simp; omega)) (Ne1.cons (by first | omega | (simp; omega)) Ne1.nil)))))))))) 3 rfl (Ne1.cons (by first | omega | (simp; omega)) (Ne1.cons (by first | omega | (simp; omega)) (Ne1.cons (by first | omega | (simp; omega)) (Ne1.cons (by first | omega | (simp; omega)) (Ne1.cons (by first | omega | (simp; omega)) (Ne1.cons (by first | omega | (simp; omega)) (Ne1.cons (by first | omega | (simp; omega)) (Ne1.cons (by first | omega | (simp; omega)) (Ne1.cons (by first | omega | (simp; omega)) Ne1.nil)))))))))) 3 rfl (Ne1.cons (by first | omega | (simp; omega)) (Ne1.cons (by first | omega | (simp; omega)) (Ne1.cons (by first | omega | (simp; omega)) (Ne1.cons (by first | omega | (simp; omega)) (Ne1.cons (by first | omega | (simp; omega)) (Ne1.cons (by first | omega | (simp; omega)) (Ne1.cons (by first | omega | (simp; omega)) (Ne1.cons (by first | omega | (simp; omega)) (Ne1.cons (by first | omega | (simp; omega)) Ne1.nil)))))))))) 2 rfl (Ne1.cons (by first | omega | (simp; omega)) (Ne1.cons (by first | omega | (simp; omega)) (Ne1.cons (by first | omega | (simp; omega)) (Ne1.cons (by first | omega | (simp; omega)) (Ne1.cons (by first | omega | (simp; omega)) (Ne1.cons (by first | omega | (simp; omega)) (Ne1.cons (by first | omega | (simp; omega)) (Ne1.cons (by first | omega | (simp; omega)) (Ne1.cons (by first | omega | (simp; omega)) Ne1.nil)))))))))))) ?_; simp only [List.setIfInBounds_toArray, List.set_cons_zero, List.set_cons_succ]; rfl
            case bel0x2 => exact (Below.setCell (Below.setCell (Below.setCell (Below.setCell (Below.setCell (HVB.out.trans (hv12'.mono (by have := HVB.out.size; omega))) (p := ⟨_, _, none⟩) (by first | omega | (simp; omega)) _) (p := ⟨_, _, none⟩) (by first | omega | (simp; omega)) _) (p := ⟨_, _, none⟩) (by first | omega | (simp; omega)) _) (p := ⟨_, _, none⟩) (by first | omega | (simp; omega)) _) (p := ⟨_, _, none⟩) (by first | omega | (simp; omega)) _)
            case ks0x2 => exact HVK.out.trans (((Keep.setCell (Keep.setCell (Keep.setCell (Keep.setCell (Keep.setCell kk12 _ _ (.inl (by first | (intro h; dsimp only at h; omega) | (intro h; omega)))) _ _ (.inl (by first | (intro h; dsimp only at h; omega) | (intro h; omega)))) _ _ (.inl (by first | (intro h; dsimp only at h; omega) | (intro h; omega)))) _ _ (.inl (by first | (intro h; dsimp only at h; omega) | (intro h; omega)))) _ _ (.inl (by first | (intro h; dsimp only at h; omega) | (intro h; omega))))).mono (fun q hq => .inl hq))
            case dd0x2 => exact fun D h => ((((((KeepsOthers.below hv12').trans (KeepsOthers.setCell _ _ _)).trans (KeepsOthers.setCell _ _ _)).trans (KeepsOthers.setCell _ _ _)).trans (KeepsOthers.setCell _ _ _)).trans (KeepsOthers.setCell _ _ _)).same _ _ (HVD.out D h) rfl
      case hend0 =>
        intro k0 V0 hend hD0
        obtain ⟨hk, hO, hb0, hDD, hkV0⟩ : k0 ≤ m ∧ EI (fun (k : Nat) => [(w9.heap.size + 1 + 1, #[.int .i64 (k : Nat)], 3), (w9.heap.size + 1, #[.int .u64 (gK g xs k).l, .int .u64 (gK g xs k).lo, .int .u64 (gK g xs k).hi, .int .u64 (gK g xs k).a], 25), (w9.heap.size, #[.int .i64 0], 3), (w1.heap.size, #[.bool true], 4), (w.heap.size + 1 + 1 + 1, #[.bool false], 4), (w.heap.size + 1 + 1, #[.int .i64 many], 3), (w.heap.size + 1, #[.slice A ln cap], 48), (w.heap.size, #[.int .u64 g.l, .int .u64 g.lo, .int .u64 g.hi, .int .u64 g.a], 25)]) w.heap.size w [] (fun k => k < w9.heap.size) w9 k0 V0 := by
          rw [zsG_len] at hend
          rcases hend with ⟨h1, h3⟩ | ⟨h1, h3⟩
          · exact ⟨by omega, h3⟩
          · exact ⟨by omega, h3⟩
        clear hend hDD
        have O13 := hO
        have c13x0 := Own.cell O13 0 rfl
        have f13x0 := Own.free O13 0 rfl
        have l13x0 := Own.lt O13 0 rfl
        have l13x0d0 := le_up 0 l13x0
        have l13x0d1 := le_up 1 l13x0
        simp only [upN] at l13x0d0 l13x0d1
        have c13x1 := Own.cell O13 1 rfl
        have f13x1 := Own.free O13 1 rfl
        have l13x1 := Own.lt O13 1 rfl
        have l13x1d0 := le_up 0 l13x1
        have l13x1d1 := le_up 1 l13x1
        simp only [upN] at l13x1d0 l13x1d1
        have c13x2 := Own.cell O13 2 rfl
        have f13x2 := Own.free O13 2 rfl
        have l13x2 := Own.lt O13 2 rfl
        have l13x2d0 := le_up 0 l13x2
        have l13x2d1 := le_up 1 l13x2
        simp only [upN] at l13x2d0 l13x2d1
        have c13x3 := Own.cell O13 3 rfl
        have f13x3 := Own.free O13 3 rfl
        have l13x3 := Own.lt O13 3 rfl
        have l13x3d0 := le_up 0 l13x3
        have l13x3d1 := le_up 1 l13x3
        simp only [upN] at l13x3d0 l13x3d1
        have c13x4 := Own.cell O13 4 rfl
        have f13x4 := Own.free O13 4 rfl
        have l13x4 := Own.lt O13 4 rfl
        have l13x4d0 := le_up 0 l13x4
        have l13x4d1 := le_up 1 l13x4
        simp only [upN] at l13x4d0 l13x4d1
        have c13x5 := Own.cell O13 5 rfl
        have f13x5 := Own.free O13 5 rfl
        have l13x5 := Own.lt O13 5 rfl
        have l13x5d0 := le_up 0 l13x5
        have l13x5d1 := le_up 1 l13x5
        simp only [upN] at l13x5d0 l13x5d1
        have c13x6 := Own.cell O13 6 rfl
        have f13x6 := Own.free O13 6 rfl
        have l13x6 := Own.lt O13 6 rfl
        have l13x6d0 := le_up 0 l13x6
        have l13x6d1 := le_up 1 l13x6
        simp only [upN] at l13x6d0 l13x6d1
        have c13x7 := Own.cell O13 7 rfl
        have f13x7 := Own.free O13 7 rfl
        have l13x7 := Own.lt O13 7 rfl
        have l13x7d0 := le_up 0 l13x7
        have l13x7d1 := le_up 1 l13x7
        simp only [upN] at l13x7d0 l13x7d1
        have HO13 := Lib.hid O13
        clear O13
        have hbV0 := hb0
        clear hb0
        have zV0 : WL0.heap.size < V0.heap.size := (Array.getElem?_eq_some_iff.1 hD0).1
        go_wp2_with fail
        rw [rounds_succ]
        go_wp2_with fail
        refine wp_name fun WL1 hWL1 => ?_
        have zWL1 : WL1.heap.size = V0.heap.size + 3 := by rw [hWL1]; simp
        have hbWL1 : Below w.heap.size w WL1 := by rw [hWL1]; go_grown
        have hkS1 : Keep (fun k => k < w9.heap.size) w9 WL1 := by rw [hWL1]; exact (Keep.alloc (Keep.alloc (Keep.alloc hkV0 _) _) _)
        have hoL1 := Lib.hid (show Own _ WL1 by rw [hWL1]; exact (Own.new (Own.new (Own.new HO13.out (V0.heap.size) (by first | rfl | simp)) (V0.heap.size + 1) (by simp)) (V0.heap.size + 1 + 1) (by simp)))
        have hD0L : WL1.heap[WL0.heap.size]? = some (.deferred (some [])) := by rw [hWL1]; exact ((((KeepsOthers.refl _).trans (KeepsOthers.alloc _ _)).trans (KeepsOthers.alloc _ _)).trans (KeepsOthers.alloc _ _)).same _ _ hD0 rfl
        clear hWL1
        have hI1 : AnyFrom WL1.heap.size (EI (fun (k : Nat) => [(V0.heap.size + 1 + 1, #[.int .i64 (k : Nat)], 3), (V0.heap.size + 1, #[.int .u64 (gK g xs k).l, .int .u64 (gK g xs k).lo, .int .u64 (gK g xs k).hi, .int .u64 (gK g xs k).a], 25), (V0.heap.size, #[.int .i64 1], 3), (w9.heap.size + 1 + 1, #[.int .i64 (k0 : Nat)], 3), (w9.heap.size + 1, #[.int .u64 (gK g xs k0).l, .int .u64 (gK g xs k0).lo, .int .u64 (gK g xs k0).hi, .int .u64 (gK g xs k0).a], 25), (w9.heap.size, #[.int .i64 0], 3), (w1.heap.size, #[.bool true], 4), (w.heap.size + 1 + 1 + 1, #[.bool false], 4), (w.heap.size + 1 + 1, #[.int .i64 many], 3), (w.heap.size + 1, #[.slice A ln cap], 48), (w.heap.size, #[.int .u64 g.l, .int .u64 g.lo, .int .u64 g.hi, .int .u64 g.a], 25)]) w.heap.size w [WL0.heap.size] (fun k => k < w9.heap.size) w9) := EI.any (by simp only [List.mem_cons, List.not_mem_nil, or_false, forall_eq, forall_eq_or_imp]; first | omega | exact fun _ h => h.elim | simp) (by simp only [List.mem_cons, List.not_mem_nil, or_false, forall_eq, forall_eq_or_imp]; first | omega | exact fun _ h => h.elim | simp) (Nat.le_refl _) (by have := hbWL1.size; omega) (fun k hk => by first | omega | (dsimp only at hk; omega))
        refine wp_each_block (w0 := w9) (S := (fun k => k < w9.heap.size)) (xs := zsG g xs m) (encs := encG) rfl (enters_of Try.func51 (by kernel_rfl) rfl) HSEQ.out (fun k hk => by first | omega | (dsimp only at hk; omega)) hkS1 (fun _ _ => rfl) (fun k V => EI (fun (k : Nat) => [(V0.heap.size + 1 + 1, #[.int .i64 (k : Nat)], 3), (V0.heap.size + 1, #[.int .u64 (gK g xs k).l, .int .u64 (gK g xs k).lo, .int .u64 (gK g xs k).hi, .int .u64 (gK g xs k).a], 25), (V0.heap.size, #[.int .i64 1], 3), (w9.heap.size + 1 + 1, #[.int .i64 (k0 : Nat)], 3), (w9.heap.size + 1, #[.int .u64 (gK g xs k0).l, .int .u64 (gK g xs k0).lo, .int .u64 (gK g xs k0).hi, .int .u64 (gK g xs k0).a], 25), (w9.heap.size, #[.int .i64 0], 3), (w1.heap.size, #[.bool true], 4), (w.heap.size + 1 + 1 + 1, #[.bool false], 4), (w.heap.size + 1 + 1, #[.int .i64 many], 3), (w.heap.size + 1, #[.slice A ln cap], 48), (w.heap.size, #[.int .u64 g.l, .int .u64 g.lo, .int .u64 g.hi, .int .u64 g.a], 25)]) w.heap.size w [WL0.heap.size] (fun k => k < w9.heap.size) w9 k V) (fun k V => False) ?hI1 ?hIx1 ?h01 ?round1 ?hend1
        case hI1 => exact hI1
        case hIx1 => exact fun k V V2 row h hg hr => h
        case h01 => exact ⟨hoL1.out, hbWL1, fun D h => (by simp only [List.mem_cons, List.not_mem_nil, or_false] at h; subst h; exact hD0L), hkS1⟩
        case round1 =>
          rintro l' k x V hx hE hl'
          gi_wp2
          refine ⟨(Keep.refl _ _).alloc _, fun V' => EI (fun (k : Nat) => [(V0.heap.size + 1 + 1, #[.int .i64 (k : Nat)], 3), (V0.heap.size + 1, #[.int .u64 (gK g xs k).l, .int .u64 (gK g xs k).lo, .int .u64 (gK g xs k).hi, .int .u64 (gK g xs k).a], 25), (V0.heap.size, #[.int .i64 1], 3), (w9.heap.size + 1 + 1, #[.int .i64 (k0 : Nat)], 3), (w9.heap.size + 1, #[.int .u64 (gK g xs k0).l, .int .u64 (gK g xs k0).lo, .int .u64 (gK g xs k0).hi, .int .u64 (gK g xs k0).a], 25), (w9.heap.size, #[.int .i64 0], 3), (w1.heap.size, #[.bool true], 4), (w.heap.size + 1 + 1 + 1, #[.bool false], 4), (w.heap.size + 1 + 1, #[.int .i64 many], 3), (w.heap.size + 1, #[.slice A ln cap], 48), (w.heap.size, #[.int .u64 g.l, .int .u64 g.lo, .int .u64 g.hi, .int .u64 g.a], 25)]) w.heap.size w [WL0.heap.size] (fun k => k < w9.heap.size) w9 k V' ∧ Blk V' V.heap.size #[.int .u64 x.l, .int .u64 x.lo, .int .u64 x.hi, .int .u64 x.a] 25, fun _ V' V2 row ⟨h, hx⟩ hg hr => ⟨hI1.from k V' V2 row h hg hr, ownFrom_blk (β := Unit) () V' V2 row hx hg hr⟩, ⟨AnyFrom.alloc hI1 _ hE, heap_alloc_new _ _⟩, ?body1⟩
          case body1 =>
            have hv0 := hE.1.lt 0 rfl
            have hv1 := hE.1.lt 1 rfl
            have hv2 := hE.1.lt 2 rfl
            have hv3 := hE.1.lt 3 rfl
            have hv4 := hE.1.lt 4 rfl
            have hv5 := hE.1.lt 5 rfl
            have hv6 := hE.1.lt 6 rfl
            have hv7 := hE.1.lt 7 rfl
            have hv8 := hE.1.lt 8 rfl
            have hv9 := hE.1.lt 9 rfl
            have hv10 := hE.1.lt 10 rfl
            try dsimp only at hv0 hv1 hv2 hv3 hv4 hv5 hv6 hv7 hv8 hv9 hv10
            clear hE
            generalize V.heap.size = bx at *
            rintro V2 ⟨⟨hO2, hb2, hD2, hK2⟩, hbx⟩
            dsimp only at hO2
            replace hO2 := Own.cons hbx hO2
            have hkm : k < m := by have := (List.getElem?_eq_some_iff.1 hx).1; rw [zsG_len] at this; exact this
            obtain rfl : x = gK g xs (k + 1) := by rw [zsG_at hkm] at hx; cases hx; rfl
            clear hx
            obtain ⟨y, hy⟩ : ∃ y, xs[k]? = some y := ⟨xs[k]'(by rw [hln]; omega), by simp⟩
            have hne : (xs.flatMap Kn.cells)[k * 4 + 0]? = some (.int .u64 y.l) := (by rw [flat_at (f := Kn.cells) (n := 4) (fun _ => rfl) xs k y hy 0 (by omega)]; rfl)
            obtain ⟨b', off, rfl, hbl, hcell⟩ := (HX.out V2 hb2).cell hne
            have hc0 : V2.cell? ⟨b', off + k * 4, none⟩ = some (.int .u64 y.l) := by have := hcell (k * 4 + 0) _ (by rw [flat_at (f := Kn.cells) (n := 4) (fun _ => rfl) xs k y hy 0 (by omega)]; rfl); simpa [Nat.add_assoc] using this
            have hc1 : V2.cell? ⟨b', off + k * 4 + 1, none⟩ = some (.int .u64 y.lo) := by have := hcell (k * 4 + 1) _ (by rw [flat_at (f := Kn.cells) (n := 4) (fun _ => rfl) xs k y hy 1 (by omega)]; rfl); simpa [Nat.add_assoc] using this
            have hc2 : V2.cell? ⟨b', off + k * 4 + 2, none⟩ = some (.int .u64 y.hi) := by have := hcell (k * 4 + 2) _ (by rw [flat_at (f := Kn.cells) (n := 4) (fun _ => rfl) xs k y hy 2 (by omega)]; rfl); simpa [Nat.add_assoc] using this
            have hc3 : V2.cell? ⟨b', off + k * 4 + 3, none⟩ = some (.int .u64 y.a) := by have := hcell (k * 4 + 3) _ (by rw [flat_at (f := Kn.cells) (n := 4) (fun _ => rfl) xs k y hy 3 (by omega)]; rfl); simpa [Nat.add_assoc] using this
            clear hcell hne
            have hkb : k < 100 := by omega
            have d2 : decide ((ln : Int) ≤ k) = false := by simp; omega
            have d2' : decide (ln ≤ k) = false := by simp; omega
            have hRX := HRY.out k y hkm hy
            generalize hn1 : gK g xs (k + 1) = g1 at *
            generalize gK g xs k = g0 at *
            have HRX := Lib.hid hRX
            clear hRX
            have HVB := Lib.hid hb2
            have HVD := Lib.hid hD2
            have HVK := Lib.hid hK2
            clear hD2 hK2 hbx
            have O14 := hO2
            have c14x0 := Own.cell O14 0 rfl
            have f14x0 := Own.free O14 0 rfl
            have l14x0 := Own.lt O14 0 rfl
            have l14x0d0 := le_up 0 l14x0
            have l14x0d1 := le_up 1 l14x0
            simp only [upN] at l14x0d0 l14x0d1
            have c14x1 := Own.cell O14 1 rfl
            have f14x1 := Own.free O14 1 rfl
            have l14x1 := Own.lt O14 1 rfl
            have l14x1d0 := le_up 0 l14x1
            have l14x1d1 := le_up 1 l14x1
            simp only [upN] at l14x1d0 l14x1d1
            have c14x2 := Own.cell O14 2 rfl
            have f14x2 := Own.free O14 2 rfl
            have l14x2 := Own.lt O14 2 rfl
            have l14x2d0 := le_up 0 l14x2
            have l14x2d1 := le_up 1 l14x2
            simp only [upN] at l14x2d0 l14x2d1
            have c14x3 := Own.cell O14 3 rfl
            have f14x3 := Own.free O14 3 rfl
            have l14x3 := Own.lt O14 3 rfl
            have l14x3d0 := le_up 0 l14x3
            have l14x3d1 := le_up 1 l14x3
            simp only [upN] at l14x3d0 l14x3d1
            have c14x4 := Own.cell O14 4 rfl
            have f14x4 := Own.free O14 4 rfl
            have l14x4 := Own.lt O14 4 rfl
            have l14x4d0 := le_up 0 l14x4
            have l14x4d1 := le_up 1 l14x4
            simp only [upN] at l14x4d0 l14x4d1
            have c14x5 := Own.cell O14 5 rfl
            have f14x5 := Own.free O14 5 rfl
            have l14x5 := Own.lt O14 5 rfl
            have l14x5d0 := le_up 0 l14x5
            have l14x5d1 := le_up 1 l14x5
            simp only [upN] at l14x5d0 l14x5d1
            have c14x6 := Own.cell O14 6 rfl
            have f14x6 := Own.free O14 6 rfl
            have l14x6 := Own.lt O14 6 rfl
            have l14x6d0 := le_up 0 l14x6
            have l14x6d1 := le_up 1 l14x6
            simp only [upN] at l14x6d0 l14x6d1
            have c14x7 := Own.cell O14 7 rfl
            have f14x7 := Own.free O14 7 rfl
            have l14x7 := Own.lt O14 7 rfl
            have l14x7d0 := le_up 0 l14x7
            have l14x7d1 := le_up 1 l14x7
            simp only [upN] at l14x7d0 l14x7d1
            have c14x8 := Own.cell O14 8 rfl
            have f14x8 := Own.free O14 8 rfl
            have l14x8 := Own.lt O14 8 rfl
            have l14x8d0 := le_up 0 l14x8
            have l14x8d1 := le_up 1 l14x8
            simp only [upN] at l14x8d0 l14x8d1
            have c14x9 := Own.cell O14 9 rfl
            have f14x9 := Own.free O14 9 rfl
            have l14x9 := Own.lt O14 9 rfl
            have l14x9d0 := le_up 0 l14x9
            have l14x9d1 := le_up 1 l14x9
            simp only [upN] at l14x9d0 l14x9d1
            have c14x10 := Own.cell O14 10 rfl
            have f14x10 := Own.free O14 10 rfl
            have l14x10 := Own.lt O14 10 rfl
            have l14x10d0 := le_up 0 l14x10
            have l14x10d1 := le_up 1 l14x10
            simp only [upN] at l14x10d0 l14x10d1
            have c14x11 := Own.cell O14 11 rfl
            have f14x11 := Own.free O14 11 rfl
            have l14x11 := Own.lt O14 11 rfl
            have l14x11d0 := le_up 0 l14x11
            have l14x11d1 := le_up 1 l14x11
            simp only [upN] at l14x11d0 l14x11d1
            have HO14 := Lib.hid O14
            clear O14
            have hz0 := l14x0
            have hz1 := l14x1
            have hz2 := l14x2
            have hz3 := l14x3
            have hz4 := l14x4
            have hz5 := l14x5
            have hz6 := l14x6
            have hz7 := l14x7
            have hz8 := l14x8
            have hz9 := l14x9
            have hz10 := l14x10
            have hz11 := l14x11
            gi_wp2
            refine regInG (by kernel_rfl) (fun ⟨_, _, h⟩ => h) V2.heap.size 12 1024 512 [(0, 0, 2787593149816327892691964784081045188247552, 65536), (1, 0, 5575186299632655785383929568162090376495104, 16), (2, 0, 11150372599265311570767859136324180752990208, 262144), (3, 6, 22300745198530623141535718272648361505980416, 16725558898897967356151788704486271129485312), (4, 8, 44601490397061246283071436545296723011960832, 22300745198530623141535718272648361505980416), (5, 17, 89202980794122492566142873090593446023921664, 47389083546877574175763401329377768200208384), (6, 32, 1393796574908163946345982392040522594123776, 89202980794122492566142873090593446023921664), (7, 64, 178405961588244985132285746181186892047843328, 1393796574908163946345982392040522594123776), (8, 64, 356811923176489970264571492362373784095686656, 1393796574908163946345982392040522594123776), (9, 0, 1048576, 0), (10, 767, 0, 178405961588244985132285746181186892048891904), (11, 2047, 2097152, 356811923176489970264571492362373784095686656)] [(.p 0, 1), (.p 1, 3), (.p 2, 7), (.p 3, 15), (.q 4, 31), (.p 5, 63), (.p 6, 127), (.p 7, 255), (.p 8, 511), (.g 9, 1023), (.c 10, 2047), (.p 11, 4095)] [] _ (fun p hp => hp) (by first | omega | (simp; done) | (simp; omega)) (by kernel_rfl) (by kernel_rfl) HO14.out ?_
            refine wpG_pure (i := 0) (v := ?v15x0) rfl rfl (by rfl) (fun w hB hG K hK => ?h15x0) ?_
            case h15x0 =>
              have cx := Own.cell hG 2 rfl
              go_wp2_with fail
              exact hK _ (Below.refl _ _)
            simp only [List.set_cons_zero, List.set_cons_succ]
            refine wpG_pure (i := 1) (v := ?v15x1) rfl rfl (by rfl) (fun w hB hG K hK => ?h15x1) ?_
            case h15x1 =>
              have cx := Own.cell hG 10 rfl
              go_wp2_with fail
              exact hK _ (Below.refl _ _)
            simp only [List.set_cons_zero, List.set_cons_succ]
            refine wpG_move (i := 2) rfl rfl rfl (by rfl) rfl ?_
            simp only [List.set_cons_zero, List.set_cons_succ]
            refine wpG_pure (i := 3) (v := ?v15x3) rfl rfl (by rfl) (fun w hB hG K hK => ?h15x3) ?_
            case h15x3 =>
              go_wp2_with fail
              exact hK _ (Below.refl _ _)
            simp only [List.set_cons_zero, List.set_cons_succ]
            refine wpG_op (i := 4) (v := ?v15x4) rfl rfl (by rfl) (fun w hB hG K hK => ?h15x4) ?_
            case h15x4 =>
              have hx0 := (hB.cell (p := ⟨b', off + k * 4, none⟩) (World.block_lt_of_cell? V2 _ hc0)).trans hc0
              have hx1 := (hB.cell (p := ⟨b', off + k * 4 + 1, none⟩) (World.block_lt_of_cell? V2 _ hc1)).trans hc1
              have hx2 := (hB.cell (p := ⟨b', off + k * 4 + 2, none⟩) (World.block_lt_of_cell? V2 _ hc2)).trans hc2
              have hx3 := (hB.cell (p := ⟨b', off + k * 4 + 3, none⟩) (World.block_lt_of_cell? V2 _ hc3)).trans hc3
              go_wp2_with fail
              exact hK _ (Below.refl _ _)
            simp only [List.set_cons_zero, List.set_cons_succ]
            refine wpG_pure (i := 5) (v := ?v15x5) rfl rfl (by rfl) (fun w hB hG K hK => ?h15x5) ?_
            case h15x5 =>
              go_wp2_with fail
              refine (HRX.out _).mono ?_
              rintro e wx ⟨rfl, hbx⟩
              exact hK _ hbx
            simp only [List.set_cons_zero, List.set_cons_succ]
            refine wpG_move (i := 6) rfl rfl rfl (by rfl) rfl ?_
            simp only [List.set_cons_zero, List.set_cons_succ]
            refine wpG_pure (i := 7) (v := ?v15x7) rfl rfl (by rfl) (fun w hB hG K hK => ?h15x7) ?_
            case h15x7 =>
              go_wp2_with fail
              exact hK _ (Below.refl _ _)
            simp only [List.set_cons_zero, List.set_cons_succ]
            refine wpG_pure (i := 8) (v := ?v15x8) rfl rfl (by rfl) (fun w hB hG K hK => ?h15x8) ?_
            case h15x8 =>
              go_wp2_with fail
              exact hK _ (Below.refl _ _)
            simp only [List.set_cons_zero, List.set_cons_succ]
            refine wpG_make (i := 9) (c := ?c15x9) (t := ?t15x9) (fun b => .pointer (some ⟨b, 0, none⟩)) rfl rfl (by rfl) (fun w hB hG K hK => ?h15x9) (fun v15g1 l15g1 n15g1 => ?_)
            case h15x9 =>
              go_wp2_with fail
              exact hK
            simp only [List.set_cons_zero, List.set_cons_succ]
            try simp only [World.size_alloc, World.size_drew, World.size_setCell] at l15g1
            clear n15g1
            refine wpG_store (i := 10) (c' := ?c15x10) 0 rfl (Ne1.cons (by first | omega | (simp; omega)) (Ne1.cons (by first | omega | (simp; omega)) (Ne1.cons (by first | omega | (simp; omega)) (Ne1.cons (by first | omega | (simp; omega)) (Ne1.cons (by first | omega | (simp; omega)) (Ne1.cons (by first | omega | (simp; omega)) (Ne1.cons (by first | omega | (simp; omega)) (Ne1.cons (by first | omega | (simp; omega)) (Ne1.cons (by first | omega | (simp; omega)) (Ne1.cons (by first | omega | (simp; omega)) (Ne1.cons (by first | omega | (simp; omega)) (Ne1.cons (by first | omega | (simp; omega)) Ne1.nil)))))))))))) (by first | omega | (simp; omega)) (fun p hp => List.mem_cons_of_mem _ (hp)) rfl rfl (by rfl) (fun w hB hF hG K hK => ?h15x10) ?_
            case h15x10 =>
              have cx := hF.cell
              have fx := hF.free
              go_wp2_with fail
              refine hK _ (Same.set (Same.set (Same.set (Same.set (Same.refl _ _) _ _) _ _) _ _) _ _) ?_
              exact (Blk.set (Blk.set (Blk.set (Blk.set hF _ _) _ _) _ _) _ _)
            simp only [List.set_cons_zero, List.set_cons_succ, List.setIfInBounds_toArray]
            refine wpG_assign (i := 11) rfl rfl rfl (by rfl) rfl ?_
            simp only [List.set_cons_zero, List.set_cons_succ]
            refine wpG_nil (fun w15 hb15 hG15 => ?_)
            simp only [List.append_eq, List.cons_append, List.nil_append, List.drop_succ_cons, List.drop_zero, List.drop_nil]
            have u15g1 := Own.lt hG15 0 rfl
            have O15 := Own.of hG15
            try simp only [List.setIfInBounds_toArray, List.set_cons_zero, List.set_cons_succ] at O15
            have bw15 : Below w.heap.size w w15 := Below.trans (by go_grown) (Below.mono hb15 (by first | omega | (simp; done) | (simp; omega)))
            have zw15 := Below.size hb15
            try simp only [World.size_alloc, World.size_drew, World.size_setCell] at zw15
            have kk15 := Keep.below (Keep.refl (fun b => b < w9.heap.size ∨ WL1.heap.size ≤ b) V2) hb15
            have hwc15 : Below V2.heap.size V2 w15 := Below.trans (by go_grown) (Below.mono hb15 (by first | omega | (simp; done) | (simp; omega)))
            clear c14x0 f14x0 l14x0 l14x0d0 l14x0d1 c14x1 f14x1 l14x1 l14x1d0 l14x1d1 c14x2 f14x2 l14x2 l14x2d0 l14x2d1 c14x3 f14x3 l14x3 l14x3d0 l14x3d1 c14x4 f14x4 l14x4 l14x4d0 l14x4d1 c14x5 f14x5 l14x5 l14x5d0 l14x5d1 c14x6 f14x6 l14x6 l14x6d0 l14x6d1 c14x7 f14x7 l14x7 l14x7d0 l14x7d1 c14x8 f14x8 l14x8 l14x8d0 l14x8d1 c14x9 f14x9 l14x9 l14x9d0 l14x9d1 c14x10 f14x10 l14x10 l14x10d0 l14x10d1 c14x11 f14x11 l14x11 l14x11d0 l14x11d1
            have c15x0 := Own.cell O15 0 rfl
            have f15x0 := Own.free O15 0 rfl
            have l15x0 := Own.lt O15 0 rfl
            have l15x0d0 := le_up 0 l15x0
            have l15x0d1 := le_up 1 l15x0
            simp only [upN] at l15x0d0 l15x0d1
            have c15x1 := Own.cell O15 1 rfl
            have f15x1 := Own.free O15 1 rfl
            have l15x1 := Own.lt O15 1 rfl
            have l15x1d0 := le_up 0 l15x1
            have l15x1d1 := le_up 1 l15x1
            simp only [upN] at l15x1d0 l15x1d1
            have c15x2 := Own.cell O15 2 rfl
            have f15x2 := Own.free O15 2 rfl
            have l15x2 := Own.lt O15 2 rfl
            have l15x2d0 := le_up 0 l15x2
            have l15x2d1 := le_up 1 l15x2
            simp only [upN] at l15x2d0 l15x2d1
            have c15x3 := Own.cell O15 3 rfl
            have f15x3 := Own.free O15 3 rfl
            have l15x3 := Own.lt O15 3 rfl
            have l15x3d0 := le_up 0 l15x3
            have l15x3d1 := le_up 1 l15x3
            simp only [upN] at l15x3d0 l15x3d1
            have c15x4 := Own.cell O15 4 rfl
            have f15x4 := Own.free O15 4 rfl
            have l15x4 := Own.lt O15 4 rfl
            have l15x4d0 := le_up 0 l15x4
            have l15x4d1 := le_up 1 l15x4
            simp only [upN] at l15x4d0 l15x4d1
            have c15x5 := Own.cell O15 5 rfl
            have f15x5 := Own.free O15 5 rfl
            have l15x5 := Own.lt O15 5 rfl
            have l15x5d0 := le_up 0 l15x5
            have l15x5d1 := le_up 1 l15x5
            simp only [upN] at l15x5d0 l15x5d1
            have c15x6 := Own.cell O15 6 rfl
            have f15x6 := Own.free O15 6 rfl
            have l15x6 := Own.lt O15 6 rfl
            have l15x6d0 := le_up 0 l15x6
            have l15x6d1 := le_up 1 l15x6
            simp only [upN] at l15x6d0 l15x6d1
            have c15x7 := Own.cell O15 7 rfl
            have f15x7 := Own.free O15 7 rfl
            have l15x7 := Own.lt O15 7 rfl
            have l15x7d0 := le_up 0 l15x7
            have l15x7d1 := le_up 1 l15x7
            simp only [upN] at l15x7d0 l15x7d1
            have c15x8 := Own.cell O15 8 rfl
            have f15x8 := Own.free O15 8 rfl
            have l15x8 := Own.lt O15 8 rfl
            have l15x8d0 := le_up 0 l15x8
            have l15x8d1 := le_up 1 l15x8
            simp only [upN] at l15x8d0 l15x8d1
            have c15x9 := Own.cell O15 9 rfl
            have f15x9 := Own.free O15 9 rfl
            have l15x9 := Own.lt O15 9 rfl
            have l15x9d0 := le_up 0 l15x9
            have l15x9d1 := le_up 1 l15x9
            simp only [upN] at l15x9d0 l15x9d1
            have c15x10 := Own.cell O15 10 rfl
            have f15x10 := Own.free O15 10 rfl
            have l15x10 := Own.lt O15 10 rfl
            have l15x10d0 := le_up 0 l15x10
            have l15x10d1 := le_up 1 l15x10
            simp only [upN] at l15x10d0 l15x10d1
            have c15x11 := Own.cell O15 11 rfl
            have f15x11 := Own.free O15 11 rfl
            have l15x11 := Own.lt O15 11 rfl
            have l15x11d0 := le_up 0 l15x11
            have l15x11d1 := le_up 1 l15x11
            simp only [upN] at l15x11d0 l15x11d1
            have c15x12 := Own.cell O15 12 rfl
            have f15x12 := Own.free O15 12 rfl
            have l15x12 := Own.lt O15 12 rfl
            have l15x12d0 := le_up 0 l15x12
            have l15x12d1 := le_up 1 l15x12
            simp only [upN] at l15x12d0 l15x12d1
            have HO15 := Lib.hid O15
            clear O15 hb15
            go_wp2_with fail
            have hv15' := hwc15
            gi_wp2
            refine ⟨(Keep.setCell (Keep.setCell (Keep.setCell (Keep.setCell (Keep.setCell kk15 _ _ (.inl (by first | (intro h; dsimp only at h; omega) | (intro h; omega)))) _ _ (.inl (by first | (intro h; dsimp only at h; omega) | (intro h; omega)))) _ _ (.inl (by first | (intro h; dsimp only at h; omega) | (intro h; omega)))) _ _ (.inl (by first | (intro h; dsimp only at h; omega) | (intro h; omega)))) _ _ (.inl (by first | (intro h; dsimp only at h; omega) | (intro h; omega)))), ⟨?own1x1, ?bel1x1, ?dd1x1, ?ks1x1⟩⟩
            case own1x1 => dsimp only; rw [hn1]; refine Own.eqv (Own.tl (Own.tl (Own.set (Own.set (Own.set (Own.set (Own.set HO15.out 3 rfl (Ne1.cons (by first | omega | (simp; omega)) (Ne1.cons (by first | omega | (simp; omega)) (Ne1.cons (by first | omega | (simp; omega)) (Ne1.cons (by first | omega | (simp; omega)) (Ne1.cons (by first | omega | (simp; omega)) (Ne1.cons (by first | omega | (simp; omega)) (Ne1.cons (by first | omega | (simp; omega)) (Ne1.cons (by first | omega | (simp; omega)) (Ne1.cons (by first | omega | (simp; omega)) (Ne1.cons (by first | omega | (simp; omega)) (Ne1.cons (by first | omega | (simp; omega)) (Ne1.cons (by first | omega | (simp; omega)) Ne1.nil))))))))))))) 3 rfl (Ne1.cons (by first | omega | (simp; omega)) (Ne1.cons (by first | omega | (simp; omega)) (Ne1.cons (by first | omega | (simp; omega)) (Ne1.cons (by first | omega | (simp; omega)) (Ne1.cons (by first | omega | (simp; omega)) (Ne1.cons (by first | omega | (simp; omega)) (Ne1.cons (by first | omega | (simp; omega)) (Ne1.cons (by first | omega | (simp; omega)) (Ne1.cons (by first | omega | (simp; omega)) (Ne1.cons (by first | omega | (simp; omega)) (Ne1.cons (by first | omega | (simp; omega)) (Ne1.cons (by first | omega | (simp; omega)) Ne1.nil))))))))))))) 3 rfl (Ne1.cons (by first | omega | (simp; omega)) (Ne1.cons (by first | omega | (simp; omega)) (Ne1.cons (by first | omega | (simp; omega)) (Ne1.cons (by first | omega | (simp; omega)) (Ne1.cons (by first | omega | (simp; omega)) (Ne1.cons (by first | omega | (simp; omega)) (Ne1.cons (by first | omega | (simp; omega)) (Ne1.cons (by first | omega | (simp; omega)) (Ne1.cons (by first | omega | (simp; omega)) (Ne1.cons (by first | omega | (simp; omega)) (Ne1.cons (by first | omega | (simp; omega)) (Ne1.cons (by first | omega | (simp; omega)) Ne1.nil))))))))))))) 3 rfl (Ne1.cons (by first | omega | (simp; omega)) (Ne1.cons (by first | omega | (simp; omega)) (Ne1.cons (by first | omega | (simp; omega)) (Ne1.cons (by first | omega | (simp; omega)) (Ne1.cons (by first | omega | (simp; omega)) (Ne1.cons (by first | omega | (simp; omega)) (Ne1.cons (by first | omega | (simp; omega)) (Ne1.cons (by first | omega | (simp; omega)) (Ne1.cons (by first | omega | (simp; omega)) (Ne1.cons (by first | omega | (simp; omega)) (Ne1.cons (by first | omega | (simp; omega)) (Ne1.cons (by first | omega | (simp; omega)) Ne1.nil))))))))))))) 2 rfl (Ne1.cons (by first | omega | (simp; omega)) (Ne1.cons (by first | omega | (simp; omega)) (Ne1.cons (by first | omega | (simp; omega)) (Ne1.cons (by first | omega | (simp; omega)) (Ne1.cons (by first | omega | (simp; omega)) (Ne1.cons (by first | omega | (simp; omega)) (Ne1.cons (by first | omega | (simp; omega)) (Ne1.cons (by first | omega | (simp; omega)) (Ne1.cons (by first | omega | (simp; omega)) (Ne1.cons (by first | omega | (simp; omega)) (Ne1.cons (by first | omega | (simp; omega)) (Ne1.cons (by first | omega | (simp; omega)) Ne1.nil))))))))))))))) ?_; simp only [List.setIfInBounds_toArray, List.set_cons_zero, List.set_cons_succ]; rfl
            case bel1x1 => exact (Below.setCell (Below.setCell (Below.setCell (Below.setCell (Below.setCell (HVB.out.trans (hv15'.mono (by have := HVB.out.size; omega))) (p := ⟨_, _, none⟩) (by first | omega | (simp; omega)) _) (p := ⟨_, _, none⟩) (by first | omega | (simp; omega)) _) (p := ⟨_, _, none⟩) (by first | omega | (simp; omega)) _) (p := ⟨_, _, none⟩) (by first | omega | (simp; omega)) _) (p := ⟨_, _, none⟩) (by first | omega | (simp; omega)) _)
            case ks1x1 => exact HVK.out.trans (((Keep.setCell (Keep.setCell (Keep.setCell (Keep.setCell (Keep.setCell kk15 _ _ (.inl (by first | (intro h; dsimp only at h; omega) | (intro h; omega)))) _ _ (.inl (by first | (intro h; dsimp only at h; omega) | (intro h; omega)))) _ _ (.inl (by first | (intro h; dsimp only at h; omega) | (intro h; omega)))) _ _ (.inl (by first | (intro h; dsimp only at h; omega) | (intro h; omega)))) _ _ (.inl (by first | (intro h; dsimp only at h; omega) | (intro h; omega))))).mono (fun q hq => .inl hq))
            case dd1x1 => exact fun D h => ((((((KeepsOthers.below hv15').trans (KeepsOthers.setCell _ _ _)).trans (KeepsOthers.setCell _ _ _)).trans (KeepsOthers.setCell _ _ _)).trans (KeepsOthers.setCell _ _ _)).trans (KeepsOthers.setCell _ _ _)).same _ _ (HVD.out D h) rfl
        case hend1 =>
          intro k1 V1 hend hD1
          obtain ⟨hk, hO, hb0, hDD, hkV1⟩ : k1 = m ∧ EI (fun (k : Nat) => [(V0.heap.size + 1 + 1, #[.int .i64 (k : Nat)], 3), (V0.heap.size + 1, #[.int .u64 (gK g xs k).l, .int .u64 (gK g xs k).lo, .int .u64 (gK g xs k).hi, .int .u64 (gK g xs k).a], 25), (V0.heap.size, #[.int .i64 1], 3), (w9.heap.size + 1 + 1, #[.int .i64 (k0 : Nat)], 3), (w9.heap.size + 1, #[.int .u64 (gK g xs k0).l, .int .u64 (gK g xs k0).lo, .int .u64 (gK g xs k0).hi, .int .u64 (gK g xs k0).a], 25), (w9.heap.size, #[.int .i64 0], 3), (w1.heap.size, #[.bool true], 4), (w.heap.size + 1 + 1 + 1, #[.bool false], 4), (w.heap.size + 1 + 1, #[.int .i64 many], 3), (w.heap.size + 1, #[.slice A ln cap], 48), (w.heap.size, #[.int .u64 g.l, .int .u64 g.lo, .int .u64 g.hi, .int .u64 g.a], 25)]) w.heap.size w [WL0.heap.size] (fun k => k < w9.heap.size) w9 k1 V1 := by
            rw [zsG_len] at hend
            rcases hend with ⟨h1, h3⟩ | ⟨h1, h3⟩
            · exact ⟨by omega, h3⟩
            · exact h3.elim
          replace hD0 := hDD (WL0.heap.size) (by simp)
          clear hend hDD
          have O16 := hO
          have c16x0 := Own.cell O16 0 rfl
          have f16x0 := Own.free O16 0 rfl
          have l16x0 := Own.lt O16 0 rfl
          have l16x0d0 := le_up 0 l16x0
          have l16x0d1 := le_up 1 l16x0
          simp only [upN] at l16x0d0 l16x0d1
          have c16x1 := Own.cell O16 1 rfl
          have f16x1 := Own.free O16 1 rfl
          have l16x1 := Own.lt O16 1 rfl
          have l16x1d0 := le_up 0 l16x1
          have l16x1d1 := le_up 1 l16x1
          simp only [upN] at l16x1d0 l16x1d1
          have c16x2 := Own.cell O16 2 rfl
          have f16x2 := Own.free O16 2 rfl
          have l16x2 := Own.lt O16 2 rfl
          have l16x2d0 := le_up 0 l16x2
          have l16x2d1 := le_up 1 l16x2
          simp only [upN] at l16x2d0 l16x2d1
          have c16x3 := Own.cell O16 3 rfl
          have f16x3 := Own.free O16 3 rfl
          have l16x3 := Own.lt O16 3 rfl
          have l16x3d0 := le_up 0 l16x3
          have l16x3d1 := le_up 1 l16x3
          simp only [upN] at l16x3d0 l16x3d1
          have c16x4 := Own.cell O16 4 rfl
          have f16x4 := Own.free O16 4 rfl
          have l16x4 := Own.lt O16 4 rfl
          have l16x4d0 := le_up 0 l16x4
          have l16x4d1 := le_up 1 l16x4
          simp only [upN] at l16x4d0 l16x4d1
          have c16x5 := Own.cell O16 5 rfl
          have f16x5 := Own.free O16 5 rfl
          have l16x5 := Own.lt O16 5 rfl
          have l16x5d0 := le_up 0 l16x5
          have l16x5d1 := le_up 1 l16x5
          simp only [upN] at l16x5d0 l16x5d1
          have c16x6 := Own.cell O16 6 rfl
          have f16x6 := Own.free O16 6 rfl
          have l16x6 := Own.lt O16 6 rfl
          have l16x6d0 := le_up 0 l16x6
          have l16x6d1 := le_up 1 l16x6
          simp only [upN] at l16x6d0 l16x6d1
          have c16x7 := Own.cell O16 7 rfl
          have f16x7 := Own.free O16 7 rfl
          have l16x7 := Own.lt O16 7 rfl
          have l16x7d0 := le_up 0 l16x7
          have l16x7d1 := le_up 1 l16x7
          simp only [upN] at l16x7d0 l16x7d1
          have c16x8 := Own.cell O16 8 rfl
          have f16x8 := Own.free O16 8 rfl
          have l16x8 := Own.lt O16 8 rfl
          have l16x8d0 := le_up 0 l16x8
          have l16x8d1 := le_up 1 l16x8
          simp only [upN] at l16x8d0 l16x8d1
          have c16x9 := Own.cell O16 9 rfl
          have f16x9 := Own.free O16 9 rfl
          have l16x9 := Own.lt O16 9 rfl
          have l16x9d0 := le_up 0 l16x9
          have l16x9d1 := le_up 1 l16x9
          simp only [upN] at l16x9d0 l16x9d1
          have c16x10 := Own.cell O16 10 rfl
          have f16x10 := Own.free O16 10 rfl
          have l16x10 := Own.lt O16 10 rfl
          have l16x10d0 := le_up 0 l16x10
          have l16x10d1 := le_up 1 l16x10
          simp only [upN] at l16x10d0 l16x10d1
          have HO16 := Lib.hid O16
          clear O16
          have hbV1 := hb0
          clear hb0
          have zV1 : WL1.heap.size < V1.heap.size := (Array.getElem?_eq_some_iff.1 hD1).1
          subst hk
          have hk1b : k1 ≤ 20 := by omega
          have d4 : decide ((k1 : Int) < ln) = false := by simp; omega
          go_wp2_with fail
          rw [rounds_succ]
          go_wp2_with fail
          refine (works_any _).mono ?_
          rintro e w17 ⟨rfl, hb17⟩
          have O17 := Own.grow' hb17 (Own.new HO16.out (V1.heap.size) (by first | rfl | simp))
          try simp only [List.setIfInBounds_toArray, List.set_cons_zero, List.set_cons_succ] at O17
          have bw17 : Below w.heap.size w w17 := Below.trans (by go_grown) (Below.mono hb17 (by first | omega | (simp; done) | (simp; omega)))
          have zw17 := Below.size hb17
          try simp only [World.size_alloc, World.size_drew, World.size_setCell] at zw17
          replace hD0 := (((KeepsOthers.refl _).trans (KeepsOthers.alloc _ _)).trans (KeepsOthers.below hb17)).same _ _ hD0 rfl
          replace hD1 := (((KeepsOthers.refl _).trans (KeepsOthers.alloc _ _)).trans (KeepsOthers.below hb17)).same _ _ hD1 rfl
          have kk17 := Keep.below (Keep.alloc hkV1 _) hb17
          clear c16x0 f16x0 l16x0 l16x0d0 l16x0d1 c16x1 f16x1 l16x1 l16x1d0 l16x1d1 c16x2 f16x2 l16x2 l16x2d0 l16x2d1 c16x3 f16x3 l16x3 l16x3d0 l16x3d1 c16x4 f16x4 l16x4 l16x4d0 l16x4d1 c16x5 f16x5 l16x5 l16x5d0 l16x5d1 c16x6 f16x6 l16x6 l16x6d0 l16x6d1 c16x7 f16x7 l16x7 l16x7d0 l16x7d1 c16x8 f16x8 l16x8 l16x8d0 l16x8d1 c16x9 f16x9 l16x9 l16x9d0 l16x9d1 c16x10 f16x10 l16x10 l16x10d0 l16x10d1
          have c17x0 := Own.cell O17 0 rfl
          have f17x0 := Own.free O17 0 rfl
          have l17x0 := Own.lt O17 0 rfl
          have l17x0d0 := le_up 0 l17x0
          have l17x0d1 := le_up 1 l17x0
          simp only [upN] at l17x0d0 l17x0d1
          have c17x1 := Own.cell O17 1 rfl
          have f17x1 := Own.free O17 1 rfl
          have l17x1 := Own.lt O17 1 rfl
          have l17x1d0 := le_up 0 l17x1
          have l17x1d1 := le_up 1 l17x1
          simp only [upN] at l17x1d0 l17x1d1
          have c17x2 := Own.cell O17 2 rfl
          have f17x2 := Own.free O17 2 rfl
          have l17x2 := Own.lt O17 2 rfl
          have l17x2d0 := le_up 0 l17x2
          have l17x2d1 := le_up 1 l17x2
          simp only [upN] at l17x2d0 l17x2d1
          have c17x3 := Own.cell O17 3 rfl
          have f17x3 := Own.free O17 3 rfl
          have l17x3 := Own.lt O17 3 rfl
          have l17x3d0 := le_up 0 l17x3
          have l17x3d1 := le_up 1 l17x3
          simp only [upN] at l17x3d0 l17x3d1
          have c17x4 := Own.cell O17 4 rfl
          have f17x4 := Own.free O17 4 rfl
          have l17x4 := Own.lt O17 4 rfl
          have l17x4d0 := le_up 0 l17x4
          have l17x4d1 := le_up 1 l17x4
          simp only [upN] at l17x4d0 l17x4d1
          have c17x5 := Own.cell O17 5 rfl
          have f17x5 := Own.free O17 5 rfl
          have l17x5 := Own.lt O17 5 rfl
          have l17x5d0 := le_up 0 l17x5
          have l17x5d1 := le_up 1 l17x5
          simp only [upN] at l17x5d0 l17x5d1
          have c17x6 := Own.cell O17 6 rfl
          have f17x6 := Own.free O17 6 rfl
          have l17x6 := Own.lt O17 6 rfl
          have l17x6d0 := le_up 0 l17x6
          have l17x6d1 := le_up 1 l17x6
          simp only [upN] at l17x6d0 l17x6d1
          have c17x7 := Own.cell O17 7 rfl
          have f17x7 := Own.free O17 7 rfl
          have l17x7 := Own.lt O17 7 rfl
          have l17x7d0 := le_up 0 l17x7
          have l17x7d1 := le_up 1 l17x7
          simp only [upN] at l17x7d0 l17x7d1
          have c17x8 := Own.cell O17 8 rfl
          have f17x8 := Own.free O17 8 rfl
          have l17x8 := Own.lt O17 8 rfl
          have l17x8d0 := le_up 0 l17x8
          have l17x8d1 := le_up 1 l17x8
          simp only [upN] at l17x8d0 l17x8d1
          have c17x9 := Own.cell O17 9 rfl
          have f17x9 := Own.free O17 9 rfl
          have l17x9 := Own.lt O17 9 rfl
          have l17x9d0 := le_up 0 l17x9
          have l17x9d1 := le_up 1 l17x9
          simp only [upN] at l17x9d0 l17x9d1
          have c17x10 := Own.cell O17 10 rfl
          have f17x10 := Own.free O17 10 rfl
          have l17x10 := Own.lt O17 10 rfl
          have l17x10d0 := le_up 0 l17x10
          have l17x10d1 := le_up 1 l17x10
          simp only [upN] at l17x10d0 l17x10d1
          have c17x11 := Own.cell O17 11 rfl
          have f17x11 := Own.free O17 11 rfl
          have l17x11 := Own.lt O17 11 rfl
          have l17x11d0 := le_up 0 l17x11
          have l17x11d1 := le_up 1 l17x11
          simp only [upN] at l17x11d0 l17x11d1
          have HO17 := Lib.hid O17
          clear O17 hb17
          go_wp2_with fail
          try rw [zWL0] at hD0
          try rw [zWL1] at hD1
          refine ret_mark2 (D := w9.heap.size + 3) (E := V0.heap.size + 3) (v := .bool true) (((KeepsOthers.refl _).trans (KeepsOthers.setCell _ _ _)).same _ _ hD0 rfl) (((KeepsOthers.refl _).trans (KeepsOthers.setCell _ _ _)).same _ _ hD1 rfl) (by omega) ?_ ?_
          · have c6 : ((((w17).setCell ⟨w.heap.size + 1 + 1 + 1, 0, none⟩ (.bool true)).putObj (V0.heap.size + 3) (.deferred none)).putObj (w9.heap.size + 3) (.deferred none)).cell? ⟨w.heap.size + 1 + 1 + 1, 0, none⟩ = some (.bool true) := (((Own.get (Own.set HO17.out 8 rfl (Ne1.cons (by first | omega | (simp; omega)) (Ne1.cons (by first | omega | (simp; omega)) (Ne1.cons (by first | omega | (simp; omega)) (Ne1.cons (by first | omega | (simp; omega)) (Ne1.cons (by first | omega | (simp; omega)) (Ne1.cons (by first | omega | (simp; omega)) (Ne1.cons (by first | omega | (simp; omega)) (Ne1.cons (by first | omega | (simp; omega)) (Ne1.cons (by first | omega | (simp; omega)) (Ne1.cons (by first | omega | (simp; omega)) (Ne1.cons (by first | omega | (simp; omega)) Ne1.nil)))))))))))) 8 rfl).put (D := V0.heap.size + 3) (.deferred none) (by omega)).put (D := w9.heap.size + 3) (.deferred none) (by omega)).cell 0
            simp [results, Try.results5, go_sem, c6]
          · exact ⟨rfl, Below.put (Below.put (by go_grown) _ (by omega)) _ (by omega)⟩
end Go.Proofs.Ytjmplababaejaaa
