/- The law DigestBlocks: its walk. -/
import Derived.Test.YtojmifniidddpaaDigB1
import Derived.Test.YtojmifniidddpaaRngC
set_option linter.unusedVariables false
set_option linter.unusedSimpArgs false
namespace Go.Proofs.Ytojmifniidddpaa
open Go.RowKit

attribute [local go_sem] Oper.semAt_some

set_option maxHeartbeats 16000000 in
set_option maxRecDepth 100000 in
theorem blocks_s (A : Option Addr) (ln cap : Nat) (many : Int) (w : World) (h : 500 < ln) :
    Calls Try.prog 3 #[.slice A ln cap, .int .i64 many] w fun e w' => e = .returned (.bool true) ∧ Below w.heap.size w w' := by
  have d1 : decide ((500 : Int) < ln) = true := by simp <;> omega
  go_enter Try.func3, Try.ntmps3
  go_wp2_with fail
  refine (works_any _).mono ?_
  rintro e w1 ⟨rfl, hb1⟩
  have O1 := Own.grow' hb1 (Own.new (Own.new (Own.nil w) (w.heap.size) (by first | rfl | simp)) (w.heap.size + 1) (by simp))
  try simp only [List.setIfInBounds_toArray, List.set_cons_zero, List.set_cons_succ] at O1
  have bw1 : Below w.heap.size w w1 := Below.trans (by go_grown) (Below.mono hb1 (by first | omega | (simp; done) | (simp; omega)))
  have zw1 := Below.size hb1
  try simp only [World.size_alloc, World.size_drew, World.size_setCell] at zw1
  have c1x0 := Own.cell O1 0 rfl
  have f1x0 := Own.free O1 0 rfl
  have l1x0 := Own.lt O1 0 rfl
  have l1x0d0 := le_up 0 l1x0
  have l1x0d1 := le_up 1 l1x0
  simp only [upN] at l1x0d0 l1x0d1
  have c1x1 := Own.cell O1 1 rfl
  have f1x1 := Own.free O1 1 rfl
  have l1x1 := Own.lt O1 1 rfl
  have l1x1d0 := le_up 0 l1x1
  have l1x1d1 := le_up 1 l1x1
  simp only [upN] at l1x1d0 l1x1d1
  have HO1 := Lib.hid O1
  clear O1 hb1
  go_wp2_with fail
  refine bodyPost_ret (v := .bool true) (by simp [results, Try.results3, go_sem, *]) rfl ?_
  exact ⟨rfl, by go_grown⟩

set_option maxHeartbeats 16000000 in
set_option maxRecDepth 100000 in
theorem blocks_g (A : Option Addr) (xs : List Nat) (cap : Nat) (many : Int) (w : World) (hS : SlAt w A (natC xs)) (hcap : xs.length ≤ cap) (hn : xs.length ≤ 500) (hnil : A = none → xs.length = 0 ∧ cap = 0) (hb8 : ∀ x ∈ xs, x < 256) :
    Calls Try.prog 3 #[.slice A xs.length cap, .int .i64 many] w fun e w' => e = .returned (.bool true) ∧ Below w.heap.size w w' := by
  have qF := run_eql_func_nil Try.underlying26
  have hi29 : (Try.prog.info? 29).map (·.size) = some 17 := by kernel_rfl
  have hu29 : Try.prog.underlying 29 = some (.array 17 28) := by kernel_rfl
  have HU29 := Lib.hid hu29
  have HPD := Lib.hid (fun V (hb : Below w.heap.size w V) => padded_any A xs cap V (hS.grow hb) hcap (by omega) hnil)
  have HBI := Lib.hid (fun V (hb : Below w.heap.size w V) => blocksIt_any A xs cap V (hS.grow hb) hcap (by omega) (fun h => List.eq_nil_of_length_eq_zero (hnil h).1) hb8)
  have hbm := blkN_mul xs.length
  have hpn := padN_lt xs.length
  have hpl := padS_len xs
  have hp8 := padS_lt hb8
  have HRF' := Lib.hid (fun A2 c2 k V (hS2 : SlAt V A2 (natC (padS xs))) (hc2 : xs.length + 1 + padN xs.length ≤ c2) (hk : k < blkN xs.length) => refBlock_any A2 (padS xs) (xs.length + 1 + padN xs.length) (blkN xs.length) c2 k V hS2 hpl hbm hc2 hk (by omega) hp8)
  clear hS hb8 hp8 hpl hnil
  generalize hNN : xs.length + 1 + padN xs.length = N at *
  have hN1 : N ≤ 637 := by omega
  generalize hmm : blkN xs.length = m at *
  have hm1 : m ≤ 5 := by omega
  have hdv : (N : Int) / 136 = ((m : Nat) : Int) := by omega
  have hdv2 : N / 136 = m := by omega
  generalize hln : xs.length = ln at *
  have d101 : decide ((500 : Int) < ln) = false := by simp <;> omega
  clear hNN hmm hpn hbm
  refine calls_marks Try.func3 rfl ?_
  simp only [Try.ntmps3, List.size_toArray, List.length_cons, List.length_nil, Nat.reduceAdd, Nat.reduceSub, Array.replicate_succ, Array.replicate_zero, List.push_toArray, List.append_toArray, List.nil_append, List.cons_append]
  go_wp2_with fail
  refine (HPD.out _ (by go_grown)).mono ?_
  rintro e w1 ⟨A2, c2, rfl, hs1, hc2, hb1, _⟩
  have O1 := Own.grow' hb1 (Own.new (Own.new (Own.nil w) (w.heap.size) (by first | rfl | simp)) (w.heap.size + 1) (by simp))
  try simp only [List.setIfInBounds_toArray, List.set_cons_zero, List.set_cons_succ] at O1
  have bw1 : Below w.heap.size w w1 := Below.trans (by go_grown) (Below.mono hb1 (by first | omega | (simp; done) | (simp; omega)))
  have zw1 := Below.size hb1
  try simp only [World.size_alloc, World.size_drew, World.size_setCell] at zw1
  have c1x0 := Own.cell O1 0 rfl
  have f1x0 := Own.free O1 0 rfl
  have l1x0 := Own.lt O1 0 rfl
  have l1x0d0 := le_up 0 l1x0
  have l1x0d1 := le_up 1 l1x0
  simp only [upN] at l1x0d0 l1x0d1
  have c1x1 := Own.cell O1 1 rfl
  have f1x1 := Own.free O1 1 rfl
  have l1x1 := Own.lt O1 1 rfl
  have l1x1d0 := le_up 0 l1x1
  have l1x1d1 := le_up 1 l1x1
  simp only [upN] at l1x1d0 l1x1d1
  have HO1 := Lib.hid O1
  clear O1 hb1
  go_wp2_with fail
  refine (HBI.out _ (by go_grown)).mono ?_
  rintro e w2 ⟨bk, n0, rfl, hn0, hseq, hb2⟩
  have O2 := Own.grow' hb2 (Own.new (Own.new HO1.out (w1.heap.size) (by first | rfl | simp)) (w1.heap.size + 1) (by simp))
  try simp only [List.setIfInBounds_toArray, List.set_cons_zero, List.set_cons_succ] at O2
  have bw2 : Below w.heap.size w w2 := Below.trans (by go_grown) (Below.mono hb2 (by first | omega | (simp; done) | (simp; omega)))
  have zw2 := Below.size hb2
  try simp only [World.size_alloc, World.size_drew, World.size_setCell] at zw2
  have pw2 : Below w1.heap.size w1 w2 := Below.trans (by go_grown) (Below.mono hb2 (by first | omega | (simp; done) | (simp; omega)))
  replace hs1 := SlAt.grow hs1 pw2
  clear pw2
  clear c1x0 f1x0 l1x0 l1x0d0 l1x0d1 c1x1 f1x1 l1x1 l1x1d0 l1x1d1
  have c2x0 := Own.cell O2 0 rfl
  have f2x0 := Own.free O2 0 rfl
  have l2x0 := Own.lt O2 0 rfl
  have l2x0d0 := le_up 0 l2x0
  have l2x0d1 := le_up 1 l2x0
  simp only [upN] at l2x0d0 l2x0d1
  have c2x1 := Own.cell O2 1 rfl
  have f2x1 := Own.free O2 1 rfl
  have l2x1 := Own.lt O2 1 rfl
  have l2x1d0 := le_up 0 l2x1
  have l2x1d1 := le_up 1 l2x1
  simp only [upN] at l2x1d0 l2x1d1
  have c2x2 := Own.cell O2 2 rfl
  have f2x2 := Own.free O2 2 rfl
  have l2x2 := Own.lt O2 2 rfl
  have l2x2d0 := le_up 0 l2x2
  have l2x2d1 := le_up 1 l2x2
  simp only [upN] at l2x2d0 l2x2d1
  have c2x3 := Own.cell O2 3 rfl
  have f2x3 := Own.free O2 3 rfl
  have l2x3 := Own.lt O2 3 rfl
  have l2x3d0 := le_up 0 l2x3
  have l2x3d1 := le_up 1 l2x3
  simp only [upN] at l2x3d0 l2x3d1
  have HO2 := Lib.hid O2
  clear O2 hb2
  subst hn0
  have HSEQ := Lib.hid hseq
  clear hseq
  have hsk := hs1
  have hA2 := sl_lt hsk
  go_wp2_with fail
  refine wp_loop_rounds 3 ?_
  rw [rounds_succ]
  go_wp2_with fail
  refine wp_name fun WL0 hWL0 => ?_
  have zWL0 : WL0.heap.size = w2.heap.size + 2 := by rw [hWL0]; simp
  have hbWL0 : Below w.heap.size w WL0 := by rw [hWL0]; go_grown
  have hkS0 : Keep (fun k => k < w2.heap.size) w2 WL0 := by rw [hWL0]; exact (Keep.alloc (Keep.alloc (Keep.refl (fun k => k < w2.heap.size) w2) _) _)
  have hoL0 := Lib.hid (show Own _ WL0 by rw [hWL0]; exact (Own.new (Own.new HO2.out (w2.heap.size) (by first | rfl | simp)) (w2.heap.size + 1) (by simp)))
  clear hWL0
  have hI0 : AnyFrom WL0.heap.size (EI (fun (k : Nat) => [(w2.heap.size + 1, #[.int .i64 (k : Nat)], 3), (w2.heap.size, #[.int .i64 0], 3), (w1.heap.size + 1, #[.int .i64 (m : Nat)], 3), (w1.heap.size, #[.slice A2 N c2], 22), (w.heap.size + 1, #[.bool false], 4), (w.heap.size, #[.int .i64 many], 3)]) w.heap.size w [] (fun k => k < w2.heap.size) w2) := EI.any (by simp only [List.mem_cons, List.not_mem_nil, or_false, forall_eq, forall_eq_or_imp]; first | omega | exact fun _ h => h.elim | simp) (by simp only [List.mem_cons, List.not_mem_nil, or_false, forall_eq, forall_eq_or_imp]; first | omega | exact fun _ h => h.elim | simp) (Nat.le_refl _) (by have := hbWL0.size; omega) (fun k hk => by first | omega | (dsimp only at hk; omega))
  refine wp_each_block (w0 := w2) (S := (fun k => k < w2.heap.size)) (xs := units m) (encs := encB (padS xs)) rfl (enters_of Try.func22 (by kernel_rfl) rfl) HSEQ.out (fun k hk => by first | omega | (dsimp only at hk; omega)) hkS0 (fun _ _ => rfl) (fun k V => EI (fun (k : Nat) => [(w2.heap.size + 1, #[.int .i64 (k : Nat)], 3), (w2.heap.size, #[.int .i64 0], 3), (w1.heap.size + 1, #[.int .i64 (m : Nat)], 3), (w1.heap.size, #[.slice A2 N c2], 22), (w.heap.size + 1, #[.bool false], 4), (w.heap.size, #[.int .i64 many], 3)]) w.heap.size w [] (fun k => k < w2.heap.size) w2 k V ∧ (k = 0 ∨ (k : Int) < many)) (fun k V => EI (fun (k : Nat) => [(w2.heap.size + 1, #[.int .i64 (k : Nat)], 3), (w2.heap.size, #[.int .i64 0], 3), (w1.heap.size + 1, #[.int .i64 (m : Nat)], 3), (w1.heap.size, #[.slice A2 N c2], 22), (w.heap.size + 1, #[.bool false], 4), (w.heap.size, #[.int .i64 many], 3)]) w.heap.size w [] (fun k => k < w2.heap.size) w2 k V ∧ (1 ≤ k ∧ many ≤ (k : Int) ∧ (k = 1 ∨ (k : Int) - 1 < many))) ?hI0 ?hIx0 ?h00 ?round0 ?hend0
  case hI0 => exact hI0.and (any_pure (fun k : Nat => (k = 0 ∨ (k : Int) < many)))
  case hIx0 => exact hI0.and (any_pure (fun k : Nat => (1 ≤ k ∧ many ≤ (k : Int) ∧ (k = 1 ∨ (k : Int) - 1 < many))))
  case h00 => exact ⟨⟨hoL0.out, hbWL0, fun D h => (by cases h), hkS0⟩, by omega⟩
  case round0 =>
    rintro l' k x V hx ⟨hE, hpk⟩ hl'
    dsimp only [encB, lanes]
    gi_wp2
    refine ⟨(Keep.refl _ _).alloc _, fun V' => EI (fun (k : Nat) => [(w2.heap.size + 1, #[.int .i64 (k : Nat)], 3), (w2.heap.size, #[.int .i64 0], 3), (w1.heap.size + 1, #[.int .i64 (m : Nat)], 3), (w1.heap.size, #[.slice A2 N c2], 22), (w.heap.size + 1, #[.bool false], 4), (w.heap.size, #[.int .i64 many], 3)]) w.heap.size w [] (fun k => k < w2.heap.size) w2 k V' ∧ Blk V' V.heap.size (lanes (ob (blkF (padS xs) k))) 29, fun _ V' V2 row ⟨h, hx⟩ hg hr => ⟨hI0.from k V' V2 row h hg hr, ownFrom_blk (β := Unit) () V' V2 row hx hg hr⟩, ⟨AnyFrom.alloc hI0 _ hE, heap_alloc_new _ _⟩, ?body0⟩
    case body0 =>
      have hv0 := hE.1.lt 0 rfl
      have hv1 := hE.1.lt 1 rfl
      have hv2 := hE.1.lt 2 rfl
      have hv3 := hE.1.lt 3 rfl
      have hv4 := hE.1.lt 4 rfl
      have hv5 := hE.1.lt 5 rfl
      try dsimp only at hv0 hv1 hv2 hv3 hv4 hv5
      clear hE
      generalize V.heap.size = bx at *
      rintro V2 ⟨⟨hO2, hb2, hD2, hK2⟩, hbx⟩
      dsimp only at hO2
      replace hO2 := Own.cons hbx hO2
      have hkm : k < m := by have := (List.getElem?_eq_some_iff.1 hx).1; rw [units_len] at this; exact this
      clear hx
      have hs2 := hK2.slAt hsk (fun hne b off e => hA2 b off e hne)
      have HRB := Lib.hid (fun V hV => HRF'.out A2 c2 k V hV hc2 hkm)
      have hq29 := neq29 (ob (blkF (padS xs) k))
      have hg29 := guard29
      have d2 : decide ((m : Int) ≤ k) = false := by simp; omega
      have d2' : decide (m ≤ k) = false := by simp; omega
      generalize ob (blkF (padS xs) k) = x at *
      generalize hlx : lanes x = lx at *
      have HI29 := Lib.hid (hi29.trans (congrArg some (show 17 = lx.size by rw [← hlx]; rfl)))
      have HQ29 := Lib.hid hq29
      have HG29 := Lib.hid hg29
      clear hq29 hg29 hlx
      have HVB := Lib.hid hb2
      have HVD := Lib.hid hD2
      have HVK := Lib.hid hK2
      clear hD2 hK2 hbx
      have O3 := hO2
      have c3x0 := Own.cell O3 0 rfl
      have f3x0 := Own.free O3 0 rfl
      have l3x0 := Own.lt O3 0 rfl
      have l3x0d0 := le_up 0 l3x0
      have l3x0d1 := le_up 1 l3x0
      simp only [upN] at l3x0d0 l3x0d1
      have c3x1 := Own.cell O3 1 rfl
      have f3x1 := Own.free O3 1 rfl
      have l3x1 := Own.lt O3 1 rfl
      have l3x1d0 := le_up 0 l3x1
      have l3x1d1 := le_up 1 l3x1
      simp only [upN] at l3x1d0 l3x1d1
      have c3x2 := Own.cell O3 2 rfl
      have f3x2 := Own.free O3 2 rfl
      have l3x2 := Own.lt O3 2 rfl
      have l3x2d0 := le_up 0 l3x2
      have l3x2d1 := le_up 1 l3x2
      simp only [upN] at l3x2d0 l3x2d1
      have c3x3 := Own.cell O3 3 rfl
      have f3x3 := Own.free O3 3 rfl
      have l3x3 := Own.lt O3 3 rfl
      have l3x3d0 := le_up 0 l3x3
      have l3x3d1 := le_up 1 l3x3
      simp only [upN] at l3x3d0 l3x3d1
      have c3x4 := Own.cell O3 4 rfl
      have f3x4 := Own.free O3 4 rfl
      have l3x4 := Own.lt O3 4 rfl
      have l3x4d0 := le_up 0 l3x4
      have l3x4d1 := le_up 1 l3x4
      simp only [upN] at l3x4d0 l3x4d1
      have c3x5 := Own.cell O3 5 rfl
      have f3x5 := Own.free O3 5 rfl
      have l3x5 := Own.lt O3 5 rfl
      have l3x5d0 := le_up 0 l3x5
      have l3x5d1 := le_up 1 l3x5
      simp only [upN] at l3x5d0 l3x5d1
      have c3x6 := Own.cell O3 6 rfl
      have f3x6 := Own.free O3 6 rfl
      have l3x6 := Own.lt O3 6 rfl
      have l3x6d0 := le_up 0 l3x6
      have l3x6d1 := le_up 1 l3x6
      simp only [upN] at l3x6d0 l3x6d1
      have HO3 := Lib.hid O3
      clear O3
      have hz0 := l3x0
      have hz1 := l3x1
      have hz2 := l3x2
      have hz3 := l3x3
      have hz4 := l3x4
      have hz5 := l3x5
      have hz6 := l3x6
      by_cases hk2 : (k : Int) + 1 < many
      · have d3 : decide (many ≤ (k : Int) + 1) = false := by simp; omega
        gi_wp2
        refine regInG (by kernel_rfl) (fun ⟨_, _, h⟩ => h) V2.heap.size 15 0 0 [(0, 0, 4294967296, 512), (1, 0, 8589934592, 64), (2, 3, 17179869184, 12884901888), (3, 4, 34359738368, 17179869184), (4, 8, 68719476736, 34359739392), (5, 8, 137438953472, 34359738880), (6, 56, 274877906944, 240518168576), (7, 72, 549755813888, 309237645312), (8, 136, 1099511627776, 549755813888), (9, 256, 2199023255552, 1099511629824), (10, 256, 4398046511104, 1099511627808), (11, 256, 8796093022208, 1099511628288), (12, 3328, 17592186044416, 14293651161088), (13, 4864, 35184372088832, 20890720927744), (14, 8448, 70368744177664, 36283883716608)] [(.p 0, 1), (.p 1, 3), (.p 2, 7), (.p 3, 15), (.p 4, 31), (.p 5, 63), (.p 6, 127), (.p 7, 255), (.p 8, 511), (.p 9, 1023), (.p 10, 2047), (.p 11, 4095), (.p 12, 8191), (.p 13, 16383), (.p 14, 32767)] [] _ (fun p hp => hp) (by first | omega | (simp; done) | (simp; omega)) (by kernel_rfl) (by kernel_rfl) HO3.out ?_
        refine wpG_pure (i := 0) (v := ?v4x0) rfl rfl (by rfl) (fun w hB hG K hK => ?h4x0) ?_
        case h4x0 =>
          have cx := Own.cell hG 1 rfl
          go_wp2_with fail
          exact hK _ (Below.refl _ _)
        simp only [List.set_cons_zero, List.set_cons_succ]
        refine wpG_pure (i := 1) (v := ?v4x1) rfl rfl (by rfl) (fun w hB hG K hK => ?h4x1) ?_
        case h4x1 =>
          have cx := Own.cell hG 3 rfl
          go_wp2_with fail
          exact hK _ (Below.refl _ _)
        simp only [List.set_cons_zero, List.set_cons_succ]
        refine wpG_pure (i := 2) (v := ?v4x2) rfl rfl (by rfl) (fun w hB hG K hK => ?h4x2) ?_
        case h4x2 =>
          go_wp2_with fail
          exact hK _ (Below.refl _ _)
        simp only [List.set_cons_zero, List.set_cons_succ]
        refine wpG_move (i := 3) rfl rfl rfl (by rfl) rfl ?_
        simp only [List.set_cons_zero, List.set_cons_succ]
        refine wpG_move (i := 4) rfl rfl rfl (by rfl) rfl ?_
        simp only [List.set_cons_zero, List.set_cons_succ]
        refine wpG_pure (i := 5) (v := ?v4x5) rfl rfl (by rfl) (fun w hB hG K hK => ?h4x5) ?_
        case h4x5 =>
          have cx := Own.cell hG 1 rfl
          go_wp2_with fail
          exact hK _ (Below.refl _ _)
        simp only [List.set_cons_zero, List.set_cons_succ]
        refine wpG_pure (i := 6) (v := ?v4x6) rfl rfl (by rfl) (fun w hB hG K hK => ?h4x6) ?_
        case h4x6 =>
          go_wp2_with fail
          exact hK _ (Below.refl _ _)
        simp only [List.set_cons_zero, List.set_cons_succ]
        refine wpG_pure (i := 7) (v := ?v4x7) rfl rfl (by rfl) (fun w hB hG K hK => ?h4x7) ?_
        case h4x7 =>
          go_wp2_with fail
          exact hK _ (Below.refl _ _)
        simp only [List.set_cons_zero, List.set_cons_succ]
        refine wpG_move (i := 8) rfl rfl rfl (by rfl) rfl ?_
        simp only [List.set_cons_zero, List.set_cons_succ]
        refine wpG_pure (i := 9) (v := ?v4x9) rfl rfl (by rfl) (fun w hB hG K hK => ?h4x9) ?_
        case h4x9 =>
          refine wp_load_row 29 (.tmp 11) (by with_reducible rfl) _ rfl _ _ (0, 0) _ (Own.get hG 0 rfl) HU29.out rfl HI29.out ?_
          exact hK _ (Below.refl _ _)
        simp only [List.set_cons_zero, List.set_cons_succ]
        refine wpG_pure (i := 10) (v := ?v4x10) rfl rfl (by rfl) (fun w hB hG K hK => ?h4x10) ?_
        case h4x10 =>
          have cx := Own.cell hG 4 rfl
          go_wp2_with fail
          exact hK _ (Below.refl _ _)
        simp only [List.set_cons_zero, List.set_cons_succ]
        refine wpG_pure (i := 11) (v := ?v4x11) rfl rfl (by rfl) (fun w hB hG K hK => ?h4x11) ?_
        case h4x11 =>
          have cx := Own.cell hG 1 rfl
          go_wp2_with fail
          exact hK _ (Below.refl _ _)
        simp only [List.set_cons_zero, List.set_cons_succ]
        refine wpG_pure (i := 12) (v := ?v4x12) rfl rfl (by rfl) (fun w hB hG K hK => ?h4x12) ?_
        case h4x12 =>
          go_wp2_with fail
          have hsm := SlAt.below hs2 rfl (Below.trans (by go_grown) hB)
          refine (HRB.out _ hsm).mono ?_
          rintro e wx ⟨rfl, hbx⟩
          exact hK _ hbx
        simp only [List.set_cons_zero, List.set_cons_succ]
        refine wpG_pure (i := 13) (v := ?v4x13) rfl rfl (by rfl) (fun w hB hG K hK => ?h4x13) ?_
        case h4x13 =>
          have hq := HQ29.out
          have hg := HG29.out
          go_wp2_with fail
          exact hK _ (Below.refl _ _)
        simp only [List.set_cons_zero, List.set_cons_succ]
        refine wpG_pure (i := 14) (v := ?v4x14) rfl rfl (by rfl) (fun w hB hG K hK => ?h4x14) ?_
        case h4x14 =>
          go_wp2_with fail
          exact hK _ (Below.refl _ _)
        simp only [List.set_cons_zero, List.set_cons_succ]
        refine wpG_nil (fun w4 hb4 hG4 => ?_)
        simp only [List.append_eq, List.cons_append, List.nil_append, List.drop_succ_cons, List.drop_zero, List.drop_nil]
        have O4 := Own.of hG4
        try simp only [List.setIfInBounds_toArray, List.set_cons_zero, List.set_cons_succ] at O4
        have bw4 : Below w.heap.size w w4 := Below.trans (by go_grown) (Below.mono hb4 (by first | omega | (simp; done) | (simp; omega)))
        have zw4 := Below.size hb4
        try simp only [World.size_alloc, World.size_drew, World.size_setCell] at zw4
        have kk4 := Keep.below (Keep.refl (fun b => b < w2.heap.size ∨ WL0.heap.size ≤ b) V2) hb4
        have hwc4 : Below V2.heap.size V2 w4 := Below.trans (by go_grown) (Below.mono hb4 (by first | omega | (simp; done) | (simp; omega)))
        clear c3x0 f3x0 l3x0 l3x0d0 l3x0d1 c3x1 f3x1 l3x1 l3x1d0 l3x1d1 c3x2 f3x2 l3x2 l3x2d0 l3x2d1 c3x3 f3x3 l3x3 l3x3d0 l3x3d1 c3x4 f3x4 l3x4 l3x4d0 l3x4d1 c3x5 f3x5 l3x5 l3x5d0 l3x5d1 c3x6 f3x6 l3x6 l3x6d0 l3x6d1
        have c4x0 := Own.cell O4 0 rfl
        have f4x0 := Own.free O4 0 rfl
        have l4x0 := Own.lt O4 0 rfl
        have l4x0d0 := le_up 0 l4x0
        have l4x0d1 := le_up 1 l4x0
        simp only [upN] at l4x0d0 l4x0d1
        have c4x1 := Own.cell O4 1 rfl
        have f4x1 := Own.free O4 1 rfl
        have l4x1 := Own.lt O4 1 rfl
        have l4x1d0 := le_up 0 l4x1
        have l4x1d1 := le_up 1 l4x1
        simp only [upN] at l4x1d0 l4x1d1
        have c4x2 := Own.cell O4 2 rfl
        have f4x2 := Own.free O4 2 rfl
        have l4x2 := Own.lt O4 2 rfl
        have l4x2d0 := le_up 0 l4x2
        have l4x2d1 := le_up 1 l4x2
        simp only [upN] at l4x2d0 l4x2d1
        have c4x3 := Own.cell O4 3 rfl
        have f4x3 := Own.free O4 3 rfl
        have l4x3 := Own.lt O4 3 rfl
        have l4x3d0 := le_up 0 l4x3
        have l4x3d1 := le_up 1 l4x3
        simp only [upN] at l4x3d0 l4x3d1
        have c4x4 := Own.cell O4 4 rfl
        have f4x4 := Own.free O4 4 rfl
        have l4x4 := Own.lt O4 4 rfl
        have l4x4d0 := le_up 0 l4x4
        have l4x4d1 := le_up 1 l4x4
        simp only [upN] at l4x4d0 l4x4d1
        have c4x5 := Own.cell O4 5 rfl
        have f4x5 := Own.free O4 5 rfl
        have l4x5 := Own.lt O4 5 rfl
        have l4x5d0 := le_up 0 l4x5
        have l4x5d1 := le_up 1 l4x5
        simp only [upN] at l4x5d0 l4x5d1
        have c4x6 := Own.cell O4 6 rfl
        have f4x6 := Own.free O4 6 rfl
        have l4x6 := Own.lt O4 6 rfl
        have l4x6d0 := le_up 0 l4x6
        have l4x6d1 := le_up 1 l4x6
        simp only [upN] at l4x6d0 l4x6d1
        have HO4 := Lib.hid O4
        clear O4 hb4
        go_wp2_with fail
        have hv4' := hwc4
        gi_wp2
        refine ⟨(Keep.setCell kk4 _ _ (.inl (by first | (intro h; dsimp only at h; omega) | (intro h; omega)))), ⟨⟨?own0x1, ?bel0x1, ?dd0x1, ?ks0x1⟩, by omega⟩⟩
        case own0x1 => dsimp only; refine Own.eqv (Own.tl (Own.set HO4.out 1 rfl (Ne1.cons (by first | omega | (simp; omega)) (Ne1.cons (by first | omega | (simp; omega)) (Ne1.cons (by first | omega | (simp; omega)) (Ne1.cons (by first | omega | (simp; omega)) (Ne1.cons (by first | omega | (simp; omega)) (Ne1.cons (by first | omega | (simp; omega)) Ne1.nil)))))))) ?_; simp only [List.setIfInBounds_toArray, List.set_cons_zero, List.set_cons_succ]; rfl
        case bel0x1 => exact (Below.setCell (HVB.out.trans (hv4'.mono (by have := HVB.out.size; omega))) (p := ⟨_, _, none⟩) (by first | omega | (simp; omega)) _)
        case ks0x1 => exact HVK.out.trans (((Keep.setCell kk4 _ _ (.inl (by first | (intro h; dsimp only at h; omega) | (intro h; omega))))).mono (fun q hq => .inl hq))
        case dd0x1 => exact fun D h => ((KeepsOthers.below hv4').trans (KeepsOthers.setCell _ _ _)).same _ _ (HVD.out D h) rfl
      · have d3 : decide (many ≤ (k : Int) + 1) = true := by simp; omega
        gi_wp2
        refine regInG (by kernel_rfl) (fun ⟨_, _, h⟩ => h) V2.heap.size 15 0 0 [(0, 0, 4294967296, 512), (1, 0, 8589934592, 64), (2, 3, 17179869184, 12884901888), (3, 4, 34359738368, 17179869184), (4, 8, 68719476736, 34359739392), (5, 8, 137438953472, 34359738880), (6, 56, 274877906944, 240518168576), (7, 72, 549755813888, 309237645312), (8, 136, 1099511627776, 549755813888), (9, 256, 2199023255552, 1099511629824), (10, 256, 4398046511104, 1099511627808), (11, 256, 8796093022208, 1099511628288), (12, 3328, 17592186044416, 14293651161088), (13, 4864, 35184372088832, 20890720927744), (14, 8448, 70368744177664, 36283883716608)] [(.p 0, 1), (.p 1, 3), (.p 2, 7), (.p 3, 15), (.p 4, 31), (.p 5, 63), (.p 6, 127), (.p 7, 255), (.p 8, 511), (.p 9, 1023), (.p 10, 2047), (.p 11, 4095), (.p 12, 8191), (.p 13, 16383), (.p 14, 32767)] [] _ (fun p hp => hp) (by first | omega | (simp; done) | (simp; omega)) (by kernel_rfl) (by kernel_rfl) HO3.out ?_
        refine wpG_pure (i := 0) (v := ?v5x0) rfl rfl (by rfl) (fun w hB hG K hK => ?h5x0) ?_
        case h5x0 =>
          have cx := Own.cell hG 1 rfl
          go_wp2_with fail
          exact hK _ (Below.refl _ _)
        simp only [List.set_cons_zero, List.set_cons_succ]
        refine wpG_pure (i := 1) (v := ?v5x1) rfl rfl (by rfl) (fun w hB hG K hK => ?h5x1) ?_
        case h5x1 =>
          have cx := Own.cell hG 3 rfl
          go_wp2_with fail
          exact hK _ (Below.refl _ _)
        simp only [List.set_cons_zero, List.set_cons_succ]
        refine wpG_pure (i := 2) (v := ?v5x2) rfl rfl (by rfl) (fun w hB hG K hK => ?h5x2) ?_
        case h5x2 =>
          go_wp2_with fail
          exact hK _ (Below.refl _ _)
        simp only [List.set_cons_zero, List.set_cons_succ]
        refine wpG_move (i := 3) rfl rfl rfl (by rfl) rfl ?_
        simp only [List.set_cons_zero, List.set_cons_succ]
        refine wpG_move (i := 4) rfl rfl rfl (by rfl) rfl ?_
        simp only [List.set_cons_zero, List.set_cons_succ]
        refine wpG_pure (i := 5) (v := ?v5x5) rfl rfl (by rfl) (fun w hB hG K hK => ?h5x5) ?_
        case h5x5 =>
          have cx := Own.cell hG 1 rfl
          go_wp2_with fail
          exact hK _ (Below.refl _ _)
        simp only [List.set_cons_zero, List.set_cons_succ]
        refine wpG_pure (i := 6) (v := ?v5x6) rfl rfl (by rfl) (fun w hB hG K hK => ?h5x6) ?_
        case h5x6 =>
          go_wp2_with fail
          exact hK _ (Below.refl _ _)
        simp only [List.set_cons_zero, List.set_cons_succ]
        refine wpG_pure (i := 7) (v := ?v5x7) rfl rfl (by rfl) (fun w hB hG K hK => ?h5x7) ?_
        case h5x7 =>
          go_wp2_with fail
          exact hK _ (Below.refl _ _)
        simp only [List.set_cons_zero, List.set_cons_succ]
        refine wpG_move (i := 8) rfl rfl rfl (by rfl) rfl ?_
        simp only [List.set_cons_zero, List.set_cons_succ]
        refine wpG_pure (i := 9) (v := ?v5x9) rfl rfl (by rfl) (fun w hB hG K hK => ?h5x9) ?_
        case h5x9 =>
          refine wp_load_row 29 (.tmp 11) (by with_reducible rfl) _ rfl _ _ (0, 0) _ (Own.get hG 0 rfl) HU29.out rfl HI29.out ?_
          exact hK _ (Below.refl _ _)
        simp only [List.set_cons_zero, List.set_cons_succ]
        refine wpG_pure (i := 10) (v := ?v5x10) rfl rfl (by rfl) (fun w hB hG K hK => ?h5x10) ?_
        case h5x10 =>
          have cx := Own.cell hG 4 rfl
          go_wp2_with fail
          exact hK _ (Below.refl _ _)
        simp only [List.set_cons_zero, List.set_cons_succ]
        refine wpG_pure (i := 11) (v := ?v5x11) rfl rfl (by rfl) (fun w hB hG K hK => ?h5x11) ?_
        case h5x11 =>
          have cx := Own.cell hG 1 rfl
          go_wp2_with fail
          exact hK _ (Below.refl _ _)
        simp only [List.set_cons_zero, List.set_cons_succ]
        refine wpG_pure (i := 12) (v := ?v5x12) rfl rfl (by rfl) (fun w hB hG K hK => ?h5x12) ?_
        case h5x12 =>
          go_wp2_with fail
          have hsm := SlAt.below hs2 rfl (Below.trans (by go_grown) hB)
          refine (HRB.out _ hsm).mono ?_
          rintro e wx ⟨rfl, hbx⟩
          exact hK _ hbx
        simp only [List.set_cons_zero, List.set_cons_succ]
        refine wpG_pure (i := 13) (v := ?v5x13) rfl rfl (by rfl) (fun w hB hG K hK => ?h5x13) ?_
        case h5x13 =>
          have hq := HQ29.out
          have hg := HG29.out
          go_wp2_with fail
          exact hK _ (Below.refl _ _)
        simp only [List.set_cons_zero, List.set_cons_succ]
        refine wpG_pure (i := 14) (v := ?v5x14) rfl rfl (by rfl) (fun w hB hG K hK => ?h5x14) ?_
        case h5x14 =>
          go_wp2_with fail
          exact hK _ (Below.refl _ _)
        simp only [List.set_cons_zero, List.set_cons_succ]
        refine wpG_nil (fun w5 hb5 hG5 => ?_)
        simp only [List.append_eq, List.cons_append, List.nil_append, List.drop_succ_cons, List.drop_zero, List.drop_nil]
        have O5 := Own.of hG5
        try simp only [List.setIfInBounds_toArray, List.set_cons_zero, List.set_cons_succ] at O5
        have bw5 : Below w.heap.size w w5 := Below.trans (by go_grown) (Below.mono hb5 (by first | omega | (simp; done) | (simp; omega)))
        have zw5 := Below.size hb5
        try simp only [World.size_alloc, World.size_drew, World.size_setCell] at zw5
        have kk5 := Keep.below (Keep.refl (fun b => b < w2.heap.size ∨ WL0.heap.size ≤ b) V2) hb5
        have hwc5 : Below V2.heap.size V2 w5 := Below.trans (by go_grown) (Below.mono hb5 (by first | omega | (simp; done) | (simp; omega)))
        clear c3x0 f3x0 l3x0 l3x0d0 l3x0d1 c3x1 f3x1 l3x1 l3x1d0 l3x1d1 c3x2 f3x2 l3x2 l3x2d0 l3x2d1 c3x3 f3x3 l3x3 l3x3d0 l3x3d1 c3x4 f3x4 l3x4 l3x4d0 l3x4d1 c3x5 f3x5 l3x5 l3x5d0 l3x5d1 c3x6 f3x6 l3x6 l3x6d0 l3x6d1
        have c5x0 := Own.cell O5 0 rfl
        have f5x0 := Own.free O5 0 rfl
        have l5x0 := Own.lt O5 0 rfl
        have l5x0d0 := le_up 0 l5x0
        have l5x0d1 := le_up 1 l5x0
        simp only [upN] at l5x0d0 l5x0d1
        have c5x1 := Own.cell O5 1 rfl
        have f5x1 := Own.free O5 1 rfl
        have l5x1 := Own.lt O5 1 rfl
        have l5x1d0 := le_up 0 l5x1
        have l5x1d1 := le_up 1 l5x1
        simp only [upN] at l5x1d0 l5x1d1
        have c5x2 := Own.cell O5 2 rfl
        have f5x2 := Own.free O5 2 rfl
        have l5x2 := Own.lt O5 2 rfl
        have l5x2d0 := le_up 0 l5x2
        have l5x2d1 := le_up 1 l5x2
        simp only [upN] at l5x2d0 l5x2d1
        have c5x3 := Own.cell O5 3 rfl
        have f5x3 := Own.free O5 3 rfl
        have l5x3 := Own.lt O5 3 rfl
        have l5x3d0 := le_up 0 l5x3
        have l5x3d1 := le_up 1 l5x3
        simp only [upN] at l5x3d0 l5x3d1
        have c5x4 := Own.cell O5 4 rfl
        have f5x4 := Own.free O5 4 rfl
        have l5x4 := Own.lt O5 4 rfl
        have l5x4d0 := le_up 0 l5x4
        have l5x4d1 := le_up 1 l5x4
        simp only [upN] at l5x4d0 l5x4d1
        have c5x5 := Own.cell O5 5 rfl
        have f5x5 := Own.free O5 5 rfl
        have l5x5 := Own.lt O5 5 rfl
        have l5x5d0 := le_up 0 l5x5
        have l5x5d1 := le_up 1 l5x5
        simp only [upN] at l5x5d0 l5x5d1
        have c5x6 := Own.cell O5 6 rfl
        have f5x6 := Own.free O5 6 rfl
        have l5x6 := Own.lt O5 6 rfl
        have l5x6d0 := le_up 0 l5x6
        have l5x6d1 := le_up 1 l5x6
        simp only [upN] at l5x6d0 l5x6d1
        have HO5 := Lib.hid O5
        clear O5 hb5
        go_wp2_with fail
        have hv5' := hwc5
        gi_wp2
        refine ⟨((Keep.setCell kk5 _ _ (.inl (by first | (intro h; dsimp only at h; omega) | (intro h; omega))))).mono (fun q hq => .inr hq), rfl, ⟨⟨?own0x2, ?bel0x2, ?dd0x2, ?ks0x2⟩, by omega⟩⟩
        case own0x2 => dsimp only; refine Own.eqv (Own.tl (Own.set HO5.out 1 rfl (Ne1.cons (by first | omega | (simp; omega)) (Ne1.cons (by first | omega | (simp; omega)) (Ne1.cons (by first | omega | (simp; omega)) (Ne1.cons (by first | omega | (simp; omega)) (Ne1.cons (by first | omega | (simp; omega)) (Ne1.cons (by first | omega | (simp; omega)) Ne1.nil)))))))) ?_; simp only [List.setIfInBounds_toArray, List.set_cons_zero, List.set_cons_succ]; rfl
        case bel0x2 => exact (Below.setCell (HVB.out.trans (hv5'.mono (by have := HVB.out.size; omega))) (p := ⟨_, _, none⟩) (by first | omega | (simp; omega)) _)
        case ks0x2 => exact HVK.out.trans (((Keep.setCell kk5 _ _ (.inl (by first | (intro h; dsimp only at h; omega) | (intro h; omega))))).mono (fun q hq => .inl hq))
        case dd0x2 => exact fun D h => ((KeepsOthers.below hv5').trans (KeepsOthers.setCell _ _ _)).same _ _ (HVD.out D h) rfl
  case hend0 =>
    intro k0 V0 hend hD0
    obtain ⟨hk, ⟨hO, hb0, hDD, hkV0⟩, hq0⟩ : k0 ≤ m ∧ EI (fun (k : Nat) => [(w2.heap.size + 1, #[.int .i64 (k : Nat)], 3), (w2.heap.size, #[.int .i64 0], 3), (w1.heap.size + 1, #[.int .i64 (m : Nat)], 3), (w1.heap.size, #[.slice A2 N c2], 22), (w.heap.size + 1, #[.bool false], 4), (w.heap.size, #[.int .i64 many], 3)]) w.heap.size w [] (fun k => k < w2.heap.size) w2 k0 V0 ∧ ((k0 : Nat) : Int) = min (m : Int) (max 1 many) := by
      rw [units_len] at hend
      rcases hend with ⟨h1, h3⟩ | ⟨h1, h3⟩
      · exact ⟨by omega, h3.1, by have := h3.2; omega⟩
      · exact ⟨by omega, h3.1, by have := h3.2; omega⟩
    clear hend hDD
    have O6 := hO
    have c6x0 := Own.cell O6 0 rfl
    have f6x0 := Own.free O6 0 rfl
    have l6x0 := Own.lt O6 0 rfl
    have l6x0d0 := le_up 0 l6x0
    have l6x0d1 := le_up 1 l6x0
    simp only [upN] at l6x0d0 l6x0d1
    have c6x1 := Own.cell O6 1 rfl
    have f6x1 := Own.free O6 1 rfl
    have l6x1 := Own.lt O6 1 rfl
    have l6x1d0 := le_up 0 l6x1
    have l6x1d1 := le_up 1 l6x1
    simp only [upN] at l6x1d0 l6x1d1
    have c6x2 := Own.cell O6 2 rfl
    have f6x2 := Own.free O6 2 rfl
    have l6x2 := Own.lt O6 2 rfl
    have l6x2d0 := le_up 0 l6x2
    have l6x2d1 := le_up 1 l6x2
    simp only [upN] at l6x2d0 l6x2d1
    have c6x3 := Own.cell O6 3 rfl
    have f6x3 := Own.free O6 3 rfl
    have l6x3 := Own.lt O6 3 rfl
    have l6x3d0 := le_up 0 l6x3
    have l6x3d1 := le_up 1 l6x3
    simp only [upN] at l6x3d0 l6x3d1
    have c6x4 := Own.cell O6 4 rfl
    have f6x4 := Own.free O6 4 rfl
    have l6x4 := Own.lt O6 4 rfl
    have l6x4d0 := le_up 0 l6x4
    have l6x4d1 := le_up 1 l6x4
    simp only [upN] at l6x4d0 l6x4d1
    have c6x5 := Own.cell O6 5 rfl
    have f6x5 := Own.free O6 5 rfl
    have l6x5 := Own.lt O6 5 rfl
    have l6x5d0 := le_up 0 l6x5
    have l6x5d1 := le_up 1 l6x5
    simp only [upN] at l6x5d0 l6x5d1
    have HO6 := Lib.hid O6
    clear O6
    have hbV0 := hb0
    clear hb0
    have zV0 : WL0.heap.size < V0.heap.size := (Array.getElem?_eq_some_iff.1 hD0).1
    obtain ⟨M, hM⟩ : ∃ M : Int, (if 1 < many then many else 1) = M := ⟨_, rfl⟩
    have hmn : (if M < (m : Int) then M else (m : Int)) = (k0 : Int) := by rw [hq0, ← hM]; (repeat' split) <;> omega
    clear hq0
    go_wp2_with fail
    rw [rounds_succ]
    go_wp2_with fail
    refine wp_name fun WL1 hWL1 => ?_
    have zWL1 : WL1.heap.size = V0.heap.size + 2 := by rw [hWL1]; simp
    have hbWL1 : Below w.heap.size w WL1 := by rw [hWL1]; go_grown
    have hkS1 : Keep (fun k => k < w2.heap.size) w2 WL1 := by rw [hWL1]; exact (Keep.alloc (Keep.alloc hkV0 _) _)
    have hoL1 := Lib.hid (show Own _ WL1 by rw [hWL1]; exact (Own.new (Own.new HO6.out (V0.heap.size) (by first | rfl | simp)) (V0.heap.size + 1) (by simp)))
    have hD0L : WL1.heap[WL0.heap.size]? = some (.deferred (some [])) := by rw [hWL1]; exact (((KeepsOthers.refl _).trans (KeepsOthers.alloc _ _)).trans (KeepsOthers.alloc _ _)).same _ _ hD0 rfl
    clear hWL1
    have hI1 : AnyFrom WL1.heap.size (EI (fun (k : Nat) => [(V0.heap.size + 1, #[.int .i64 (k : Nat)], 3), (V0.heap.size, #[.int .i64 1], 3), (w2.heap.size + 1, #[.int .i64 (k0 : Nat)], 3), (w2.heap.size, #[.int .i64 0], 3), (w1.heap.size + 1, #[.int .i64 (m : Nat)], 3), (w1.heap.size, #[.slice A2 N c2], 22), (w.heap.size + 1, #[.bool false], 4), (w.heap.size, #[.int .i64 many], 3)]) w.heap.size w [WL0.heap.size] (fun k => k < w2.heap.size) w2) := EI.any (by simp only [List.mem_cons, List.not_mem_nil, or_false, forall_eq, forall_eq_or_imp]; first | omega | exact fun _ h => h.elim | simp) (by simp only [List.mem_cons, List.not_mem_nil, or_false, forall_eq, forall_eq_or_imp]; first | omega | exact fun _ h => h.elim | simp) (Nat.le_refl _) (by have := hbWL1.size; omega) (fun k hk => by first | omega | (dsimp only at hk; omega))
    refine wp_each_block (w0 := w2) (S := (fun k => k < w2.heap.size)) (xs := units m) (encs := encB (padS xs)) rfl (enters_of Try.func22 (by kernel_rfl) rfl) HSEQ.out (fun k hk => by first | omega | (dsimp only at hk; omega)) hkS1 (fun _ _ => rfl) (fun k V => EI (fun (k : Nat) => [(V0.heap.size + 1, #[.int .i64 (k : Nat)], 3), (V0.heap.size, #[.int .i64 1], 3), (w2.heap.size + 1, #[.int .i64 (k0 : Nat)], 3), (w2.heap.size, #[.int .i64 0], 3), (w1.heap.size + 1, #[.int .i64 (m : Nat)], 3), (w1.heap.size, #[.slice A2 N c2], 22), (w.heap.size + 1, #[.bool false], 4), (w.heap.size, #[.int .i64 many], 3)]) w.heap.size w [WL0.heap.size] (fun k => k < w2.heap.size) w2 k V) (fun k V => False) ?hI1 ?hIx1 ?h01 ?round1 ?hend1
    case hI1 => exact hI1
    case hIx1 => exact fun k V V2 row h hg hr => h
    case h01 => exact ⟨hoL1.out, hbWL1, fun D h => (by simp only [List.mem_cons, List.not_mem_nil, or_false] at h; subst h; exact hD0L), hkS1⟩
    case round1 =>
      rintro l' k x V hx hE hl'
      dsimp only [encB, lanes]
      gi_wp2
      refine ⟨(Keep.refl _ _).alloc _, fun V' => EI (fun (k : Nat) => [(V0.heap.size + 1, #[.int .i64 (k : Nat)], 3), (V0.heap.size, #[.int .i64 1], 3), (w2.heap.size + 1, #[.int .i64 (k0 : Nat)], 3), (w2.heap.size, #[.int .i64 0], 3), (w1.heap.size + 1, #[.int .i64 (m : Nat)], 3), (w1.heap.size, #[.slice A2 N c2], 22), (w.heap.size + 1, #[.bool false], 4), (w.heap.size, #[.int .i64 many], 3)]) w.heap.size w [WL0.heap.size] (fun k => k < w2.heap.size) w2 k V' ∧ Blk V' V.heap.size (lanes (ob (blkF (padS xs) k))) 29, fun _ V' V2 row ⟨h, hx⟩ hg hr => ⟨hI1.from k V' V2 row h hg hr, ownFrom_blk (β := Unit) () V' V2 row hx hg hr⟩, ⟨AnyFrom.alloc hI1 _ hE, heap_alloc_new _ _⟩, ?body1⟩
      case body1 =>
        have hv0 := hE.1.lt 0 rfl
        have hv1 := hE.1.lt 1 rfl
        have hv2 := hE.1.lt 2 rfl
        have hv3 := hE.1.lt 3 rfl
        have hv4 := hE.1.lt 4 rfl
        have hv5 := hE.1.lt 5 rfl
        have hv6 := hE.1.lt 6 rfl
        have hv7 := hE.1.lt 7 rfl
        try dsimp only at hv0 hv1 hv2 hv3 hv4 hv5 hv6 hv7
        clear hE
        generalize V.heap.size = bx at *
        rintro V2 ⟨⟨hO2, hb2, hD2, hK2⟩, hbx⟩
        dsimp only at hO2
        replace hO2 := Own.cons hbx hO2
        have hkm : k < m := by have := (List.getElem?_eq_some_iff.1 hx).1; rw [units_len] at this; exact this
        clear hx
        have hs2 := hK2.slAt hsk (fun hne b off e => hA2 b off e hne)
        have HRB := Lib.hid (fun V hV => HRF'.out A2 c2 k V hV hc2 hkm)
        have hq29 := neq29 (ob (blkF (padS xs) k))
        have hg29 := guard29
        have d2 : decide ((m : Int) ≤ k) = false := by simp; omega
        have d2' : decide (m ≤ k) = false := by simp; omega
        generalize ob (blkF (padS xs) k) = x at *
        generalize hlx : lanes x = lx at *
        have HI29 := Lib.hid (hi29.trans (congrArg some (show 17 = lx.size by rw [← hlx]; rfl)))
        have HQ29 := Lib.hid hq29
        have HG29 := Lib.hid hg29
        clear hq29 hg29 hlx
        have HVB := Lib.hid hb2
        have HVD := Lib.hid hD2
        have HVK := Lib.hid hK2
        clear hD2 hK2 hbx
        have O7 := hO2
        have c7x0 := Own.cell O7 0 rfl
        have f7x0 := Own.free O7 0 rfl
        have l7x0 := Own.lt O7 0 rfl
        have l7x0d0 := le_up 0 l7x0
        have l7x0d1 := le_up 1 l7x0
        simp only [upN] at l7x0d0 l7x0d1
        have c7x1 := Own.cell O7 1 rfl
        have f7x1 := Own.free O7 1 rfl
        have l7x1 := Own.lt O7 1 rfl
        have l7x1d0 := le_up 0 l7x1
        have l7x1d1 := le_up 1 l7x1
        simp only [upN] at l7x1d0 l7x1d1
        have c7x2 := Own.cell O7 2 rfl
        have f7x2 := Own.free O7 2 rfl
        have l7x2 := Own.lt O7 2 rfl
        have l7x2d0 := le_up 0 l7x2
        have l7x2d1 := le_up 1 l7x2
        simp only [upN] at l7x2d0 l7x2d1
        have c7x3 := Own.cell O7 3 rfl
        have f7x3 := Own.free O7 3 rfl
        have l7x3 := Own.lt O7 3 rfl
        have l7x3d0 := le_up 0 l7x3
        have l7x3d1 := le_up 1 l7x3
        simp only [upN] at l7x3d0 l7x3d1
        have c7x4 := Own.cell O7 4 rfl
        have f7x4 := Own.free O7 4 rfl
        have l7x4 := Own.lt O7 4 rfl
        have l7x4d0 := le_up 0 l7x4
        have l7x4d1 := le_up 1 l7x4
        simp only [upN] at l7x4d0 l7x4d1
        have c7x5 := Own.cell O7 5 rfl
        have f7x5 := Own.free O7 5 rfl
        have l7x5 := Own.lt O7 5 rfl
        have l7x5d0 := le_up 0 l7x5
        have l7x5d1 := le_up 1 l7x5
        simp only [upN] at l7x5d0 l7x5d1
        have c7x6 := Own.cell O7 6 rfl
        have f7x6 := Own.free O7 6 rfl
        have l7x6 := Own.lt O7 6 rfl
        have l7x6d0 := le_up 0 l7x6
        have l7x6d1 := le_up 1 l7x6
        simp only [upN] at l7x6d0 l7x6d1
        have c7x7 := Own.cell O7 7 rfl
        have f7x7 := Own.free O7 7 rfl
        have l7x7 := Own.lt O7 7 rfl
        have l7x7d0 := le_up 0 l7x7
        have l7x7d1 := le_up 1 l7x7
        simp only [upN] at l7x7d0 l7x7d1
        have c7x8 := Own.cell O7 8 rfl
        have f7x8 := Own.free O7 8 rfl
        have l7x8 := Own.lt O7 8 rfl
        have l7x8d0 := le_up 0 l7x8
        have l7x8d1 := le_up 1 l7x8
        simp only [upN] at l7x8d0 l7x8d1
        have HO7 := Lib.hid O7
        clear O7
        have hz0 := l7x0
        have hz1 := l7x1
        have hz2 := l7x2
        have hz3 := l7x3
        have hz4 := l7x4
        have hz5 := l7x5
        have hz6 := l7x6
        have hz7 := l7x7
        have hz8 := l7x8
        gi_wp2
        refine regInG (by kernel_rfl) (fun ⟨_, _, h⟩ => h) V2.heap.size 15 0 0 [(0, 0, 4294967296, 512), (1, 0, 8589934592, 64), (2, 3, 17179869184, 12884901888), (3, 4, 34359738368, 17179869184), (4, 8, 68719476736, 34359739392), (5, 8, 137438953472, 34359738880), (6, 56, 274877906944, 240518168576), (7, 72, 549755813888, 309237645312), (8, 136, 1099511627776, 549755813888), (9, 256, 2199023255552, 1099511629824), (10, 256, 4398046511104, 1099511627808), (11, 256, 8796093022208, 1099511628288), (12, 3328, 17592186044416, 14293651161088), (13, 4864, 35184372088832, 20890720927744), (14, 8448, 70368744177664, 36283883716608)] [(.p 0, 1), (.p 1, 3), (.p 2, 7), (.p 3, 15), (.p 4, 31), (.p 5, 63), (.p 6, 127), (.p 7, 255), (.p 8, 511), (.p 9, 1023), (.p 10, 2047), (.p 11, 4095), (.p 12, 8191), (.p 13, 16383), (.p 14, 32767)] [] _ (fun p hp => hp) (by first | omega | (simp; done) | (simp; omega)) (by kernel_rfl) (by kernel_rfl) HO7.out ?_
        refine wpG_pure (i := 0) (v := ?v8x0) rfl rfl (by rfl) (fun w hB hG K hK => ?h8x0) ?_
        case h8x0 =>
          have cx := Own.cell hG 1 rfl
          go_wp2_with fail
          exact hK _ (Below.refl _ _)
        simp only [List.set_cons_zero, List.set_cons_succ]
        refine wpG_pure (i := 1) (v := ?v8x1) rfl rfl (by rfl) (fun w hB hG K hK => ?h8x1) ?_
        case h8x1 =>
          have cx := Own.cell hG 5 rfl
          go_wp2_with fail
          exact hK _ (Below.refl _ _)
        simp only [List.set_cons_zero, List.set_cons_succ]
        refine wpG_pure (i := 2) (v := ?v8x2) rfl rfl (by rfl) (fun w hB hG K hK => ?h8x2) ?_
        case h8x2 =>
          go_wp2_with fail
          exact hK _ (Below.refl _ _)
        simp only [List.set_cons_zero, List.set_cons_succ]
        refine wpG_move (i := 3) rfl rfl rfl (by rfl) rfl ?_
        simp only [List.set_cons_zero, List.set_cons_succ]
        refine wpG_move (i := 4) rfl rfl rfl (by rfl) rfl ?_
        simp only [List.set_cons_zero, List.set_cons_succ]
        refine wpG_pure (i := 5) (v := ?v8x5) rfl rfl (by rfl) (fun w hB hG K hK => ?h8x5) ?_
        case h8x5 =>
          have cx := Own.cell hG 1 rfl
          go_wp2_with fail
          exact hK _ (Below.refl _ _)
        simp only [List.set_cons_zero, List.set_cons_succ]
        refine wpG_pure (i := 6) (v := ?v8x6) rfl rfl (by rfl) (fun w hB hG K hK => ?h8x6) ?_
        case h8x6 =>
          go_wp2_with fail
          exact hK _ (Below.refl _ _)
        simp only [List.set_cons_zero, List.set_cons_succ]
        refine wpG_pure (i := 7) (v := ?v8x7) rfl rfl (by rfl) (fun w hB hG K hK => ?h8x7) ?_
        case h8x7 =>
          go_wp2_with fail
          exact hK _ (Below.refl _ _)
        simp only [List.set_cons_zero, List.set_cons_succ]
        refine wpG_move (i := 8) rfl rfl rfl (by rfl) rfl ?_
        simp only [List.set_cons_zero, List.set_cons_succ]
        refine wpG_pure (i := 9) (v := ?v8x9) rfl rfl (by rfl) (fun w hB hG K hK => ?h8x9) ?_
        case h8x9 =>
          refine wp_load_row 29 (.tmp 11) (by with_reducible rfl) _ rfl _ _ (0, 0) _ (Own.get hG 0 rfl) HU29.out rfl HI29.out ?_
          exact hK _ (Below.refl _ _)
        simp only [List.set_cons_zero, List.set_cons_succ]
        refine wpG_pure (i := 10) (v := ?v8x10) rfl rfl (by rfl) (fun w hB hG K hK => ?h8x10) ?_
        case h8x10 =>
          have cx := Own.cell hG 6 rfl
          go_wp2_with fail
          exact hK _ (Below.refl _ _)
        simp only [List.set_cons_zero, List.set_cons_succ]
        refine wpG_pure (i := 11) (v := ?v8x11) rfl rfl (by rfl) (fun w hB hG K hK => ?h8x11) ?_
        case h8x11 =>
          have cx := Own.cell hG 1 rfl
          go_wp2_with fail
          exact hK _ (Below.refl _ _)
        simp only [List.set_cons_zero, List.set_cons_succ]
        refine wpG_pure (i := 12) (v := ?v8x12) rfl rfl (by rfl) (fun w hB hG K hK => ?h8x12) ?_
        case h8x12 =>
          go_wp2_with fail
          have hsm := SlAt.below hs2 rfl (Below.trans (by go_grown) hB)
          refine (HRB.out _ hsm).mono ?_
          rintro e wx ⟨rfl, hbx⟩
          exact hK _ hbx
        simp only [List.set_cons_zero, List.set_cons_succ]
        refine wpG_pure (i := 13) (v := ?v8x13) rfl rfl (by rfl) (fun w hB hG K hK => ?h8x13) ?_
        case h8x13 =>
          have hq := HQ29.out
          have hg := HG29.out
          go_wp2_with fail
          exact hK _ (Below.refl _ _)
        simp only [List.set_cons_zero, List.set_cons_succ]
        refine wpG_pure (i := 14) (v := ?v8x14) rfl rfl (by rfl) (fun w hB hG K hK => ?h8x14) ?_
        case h8x14 =>
          go_wp2_with fail
          exact hK _ (Below.refl _ _)
        simp only [List.set_cons_zero, List.set_cons_succ]
        refine wpG_nil (fun w8 hb8 hG8 => ?_)
        simp only [List.append_eq, List.cons_append, List.nil_append, List.drop_succ_cons, List.drop_zero, List.drop_nil]
        have O8 := Own.of hG8
        try simp only [List.setIfInBounds_toArray, List.set_cons_zero, List.set_cons_succ] at O8
        have bw8 : Below w.heap.size w w8 := Below.trans (by go_grown) (Below.mono hb8 (by first | omega | (simp; done) | (simp; omega)))
        have zw8 := Below.size hb8
        try simp only [World.size_alloc, World.size_drew, World.size_setCell] at zw8
        have kk8 := Keep.below (Keep.refl (fun b => b < w2.heap.size ∨ WL1.heap.size ≤ b) V2) hb8
        have hwc8 : Below V2.heap.size V2 w8 := Below.trans (by go_grown) (Below.mono hb8 (by first | omega | (simp; done) | (simp; omega)))
        clear c7x0 f7x0 l7x0 l7x0d0 l7x0d1 c7x1 f7x1 l7x1 l7x1d0 l7x1d1 c7x2 f7x2 l7x2 l7x2d0 l7x2d1 c7x3 f7x3 l7x3 l7x3d0 l7x3d1 c7x4 f7x4 l7x4 l7x4d0 l7x4d1 c7x5 f7x5 l7x5 l7x5d0 l7x5d1 c7x6 f7x6 l7x6 l7x6d0 l7x6d1 c7x7 f7x7 l7x7 l7x7d0 l7x7d1 c7x8 f7x8 l7x8 l7x8d0 l7x8d1
        have c8x0 := Own.cell O8 0 rfl
        have f8x0 := Own.free O8 0 rfl
        have l8x0 := Own.lt O8 0 rfl
        have l8x0d0 := le_up 0 l8x0
        have l8x0d1 := le_up 1 l8x0
        simp only [upN] at l8x0d0 l8x0d1
        have c8x1 := Own.cell O8 1 rfl
        have f8x1 := Own.free O8 1 rfl
        have l8x1 := Own.lt O8 1 rfl
        have l8x1d0 := le_up 0 l8x1
        have l8x1d1 := le_up 1 l8x1
        simp only [upN] at l8x1d0 l8x1d1
        have c8x2 := Own.cell O8 2 rfl
        have f8x2 := Own.free O8 2 rfl
        have l8x2 := Own.lt O8 2 rfl
        have l8x2d0 := le_up 0 l8x2
        have l8x2d1 := le_up 1 l8x2
        simp only [upN] at l8x2d0 l8x2d1
        have c8x3 := Own.cell O8 3 rfl
        have f8x3 := Own.free O8 3 rfl
        have l8x3 := Own.lt O8 3 rfl
        have l8x3d0 := le_up 0 l8x3
        have l8x3d1 := le_up 1 l8x3
        simp only [upN] at l8x3d0 l8x3d1
        have c8x4 := Own.cell O8 4 rfl
        have f8x4 := Own.free O8 4 rfl
        have l8x4 := Own.lt O8 4 rfl
        have l8x4d0 := le_up 0 l8x4
        have l8x4d1 := le_up 1 l8x4
        simp only [upN] at l8x4d0 l8x4d1
        have c8x5 := Own.cell O8 5 rfl
        have f8x5 := Own.free O8 5 rfl
        have l8x5 := Own.lt O8 5 rfl
        have l8x5d0 := le_up 0 l8x5
        have l8x5d1 := le_up 1 l8x5
        simp only [upN] at l8x5d0 l8x5d1
        have c8x6 := Own.cell O8 6 rfl
        have f8x6 := Own.free O8 6 rfl
        have l8x6 := Own.lt O8 6 rfl
        have l8x6d0 := le_up 0 l8x6
        have l8x6d1 := le_up 1 l8x6
        simp only [upN] at l8x6d0 l8x6d1
        have c8x7 := Own.cell O8 7 rfl
        have f8x7 := Own.free O8 7 rfl
        have l8x7 := Own.lt O8 7 rfl
        have l8x7d0 := le_up 0 l8x7
        have l8x7d1 := le_up 1 l8x7
        simp only [upN] at l8x7d0 l8x7d1
        have c8x8 := Own.cell O8 8 rfl
        have f8x8 := Own.free O8 8 rfl
        have l8x8 := Own.lt O8 8 rfl
        have l8x8d0 := le_up 0 l8x8
        have l8x8d1 := le_up 1 l8x8
        simp only [upN] at l8x8d0 l8x8d1
        have HO8 := Lib.hid O8
        clear O8 hb8
        go_wp2_with fail
        have hv8' := hwc8
        gi_wp2
        refine ⟨(Keep.setCell kk8 _ _ (.inl (by first | (intro h; dsimp only at h; omega) | (intro h; omega)))), ⟨?own1x1, ?bel1x1, ?dd1x1, ?ks1x1⟩⟩
        case own1x1 => dsimp only; refine Own.eqv (Own.tl (Own.set HO8.out 1 rfl (Ne1.cons (by first | omega | (simp; omega)) (Ne1.cons (by first | omega | (simp; omega)) (Ne1.cons (by first | omega | (simp; omega)) (Ne1.cons (by first | omega | (simp; omega)) (Ne1.cons (by first | omega | (simp; omega)) (Ne1.cons (by first | omega | (simp; omega)) (Ne1.cons (by first | omega | (simp; omega)) (Ne1.cons (by first | omega | (simp; omega)) Ne1.nil)))))))))) ?_; simp only [List.setIfInBounds_toArray, List.set_cons_zero, List.set_cons_succ]; rfl
        case bel1x1 => exact (Below.setCell (HVB.out.trans (hv8'.mono (by have := HVB.out.size; omega))) (p := ⟨_, _, none⟩) (by first | omega | (simp; omega)) _)
        case ks1x1 => exact HVK.out.trans (((Keep.setCell kk8 _ _ (.inl (by first | (intro h; dsimp only at h; omega) | (intro h; omega))))).mono (fun q hq => .inl hq))
        case dd1x1 => exact fun D h => ((KeepsOthers.below hv8').trans (KeepsOthers.setCell _ _ _)).same _ _ (HVD.out D h) rfl
    case hend1 =>
      intro k1 V1 hend hD1
      obtain ⟨hk, hO, hb0, hDD, hkV1⟩ : k1 = m ∧ EI (fun (k : Nat) => [(V0.heap.size + 1, #[.int .i64 (k : Nat)], 3), (V0.heap.size, #[.int .i64 1], 3), (w2.heap.size + 1, #[.int .i64 (k0 : Nat)], 3), (w2.heap.size, #[.int .i64 0], 3), (w1.heap.size + 1, #[.int .i64 (m : Nat)], 3), (w1.heap.size, #[.slice A2 N c2], 22), (w.heap.size + 1, #[.bool false], 4), (w.heap.size, #[.int .i64 many], 3)]) w.heap.size w [WL0.heap.size] (fun k => k < w2.heap.size) w2 k1 V1 := by
        rw [units_len] at hend
        rcases hend with ⟨h1, h3⟩ | ⟨h1, h3⟩
        · exact ⟨by omega, h3⟩
        · exact h3.elim
      replace hD0 := hDD (WL0.heap.size) (by simp)
      clear hend hDD
      have O9 := hO
      have c9x0 := Own.cell O9 0 rfl
      have f9x0 := Own.free O9 0 rfl
      have l9x0 := Own.lt O9 0 rfl
      have l9x0d0 := le_up 0 l9x0
      have l9x0d1 := le_up 1 l9x0
      simp only [upN] at l9x0d0 l9x0d1
      have c9x1 := Own.cell O9 1 rfl
      have f9x1 := Own.free O9 1 rfl
      have l9x1 := Own.lt O9 1 rfl
      have l9x1d0 := le_up 0 l9x1
      have l9x1d1 := le_up 1 l9x1
      simp only [upN] at l9x1d0 l9x1d1
      have c9x2 := Own.cell O9 2 rfl
      have f9x2 := Own.free O9 2 rfl
      have l9x2 := Own.lt O9 2 rfl
      have l9x2d0 := le_up 0 l9x2
      have l9x2d1 := le_up 1 l9x2
      simp only [upN] at l9x2d0 l9x2d1
      have c9x3 := Own.cell O9 3 rfl
      have f9x3 := Own.free O9 3 rfl
      have l9x3 := Own.lt O9 3 rfl
      have l9x3d0 := le_up 0 l9x3
      have l9x3d1 := le_up 1 l9x3
      simp only [upN] at l9x3d0 l9x3d1
      have c9x4 := Own.cell O9 4 rfl
      have f9x4 := Own.free O9 4 rfl
      have l9x4 := Own.lt O9 4 rfl
      have l9x4d0 := le_up 0 l9x4
      have l9x4d1 := le_up 1 l9x4
      simp only [upN] at l9x4d0 l9x4d1
      have c9x5 := Own.cell O9 5 rfl
      have f9x5 := Own.free O9 5 rfl
      have l9x5 := Own.lt O9 5 rfl
      have l9x5d0 := le_up 0 l9x5
      have l9x5d1 := le_up 1 l9x5
      simp only [upN] at l9x5d0 l9x5d1
      have c9x6 := Own.cell O9 6 rfl
      have f9x6 := Own.free O9 6 rfl
      have l9x6 := Own.lt O9 6 rfl
      have l9x6d0 := le_up 0 l9x6
      have l9x6d1 := le_up 1 l9x6
      simp only [upN] at l9x6d0 l9x6d1
      have c9x7 := Own.cell O9 7 rfl
      have f9x7 := Own.free O9 7 rfl
      have l9x7 := Own.lt O9 7 rfl
      have l9x7d0 := le_up 0 l9x7
      have l9x7d1 := le_up 1 l9x7
      simp only [upN] at l9x7d0 l9x7d1
      have HO9 := Lib.hid O9
      clear O9
      have hbV1 := hb0
      clear hb0
      have zV1 : WL1.heap.size < V1.heap.size := (Array.getElem?_eq_some_iff.1 hD1).1
      subst hk
      go_wp2_with fail
      rw [rounds_succ]
      go_wp2_with fail
      refine (works_any _).mono ?_
      rintro e w10 ⟨rfl, hb10⟩
      have O10 := Own.grow' hb10 (Own.new HO9.out (V1.heap.size) (by first | rfl | simp))
      try simp only [List.setIfInBounds_toArray, List.set_cons_zero, List.set_cons_succ] at O10
      have bw10 : Below w.heap.size w w10 := Below.trans (by go_grown) (Below.mono hb10 (by first | omega | (simp; done) | (simp; omega)))
      have zw10 := Below.size hb10
      try simp only [World.size_alloc, World.size_drew, World.size_setCell] at zw10
      replace hD0 := (((KeepsOthers.refl _).trans (KeepsOthers.alloc _ _)).trans (KeepsOthers.below hb10)).same _ _ hD0 rfl
      replace hD1 := (((KeepsOthers.refl _).trans (KeepsOthers.alloc _ _)).trans (KeepsOthers.below hb10)).same _ _ hD1 rfl
      have kk10 := Keep.below (Keep.alloc hkV1 _) hb10
      clear c9x0 f9x0 l9x0 l9x0d0 l9x0d1 c9x1 f9x1 l9x1 l9x1d0 l9x1d1 c9x2 f9x2 l9x2 l9x2d0 l9x2d1 c9x3 f9x3 l9x3 l9x3d0 l9x3d1 c9x4 f9x4 l9x4 l9x4d0 l9x4d1 c9x5 f9x5 l9x5 l9x5d0 l9x5d1 c9x6 f9x6 l9x6 l9x6d0 l9x6d1 c9x7 f9x7 l9x7 l9x7d0 l9x7d1
      have c10x0 := Own.cell O10 0 rfl
      have f10x0 := Own.free O10 0 rfl
      have l10x0 := Own.lt O10 0 rfl
      have l10x0d0 := le_up 0 l10x0
      have l10x0d1 := le_up 1 l10x0
      simp only [upN] at l10x0d0 l10x0d1
      have c10x1 := Own.cell O10 1 rfl
      have f10x1 := Own.free O10 1 rfl
      have l10x1 := Own.lt O10 1 rfl
      have l10x1d0 := le_up 0 l10x1
      have l10x1d1 := le_up 1 l10x1
      simp only [upN] at l10x1d0 l10x1d1
      have c10x2 := Own.cell O10 2 rfl
      have f10x2 := Own.free O10 2 rfl
      have l10x2 := Own.lt O10 2 rfl
      have l10x2d0 := le_up 0 l10x2
      have l10x2d1 := le_up 1 l10x2
      simp only [upN] at l10x2d0 l10x2d1
      have c10x3 := Own.cell O10 3 rfl
      have f10x3 := Own.free O10 3 rfl
      have l10x3 := Own.lt O10 3 rfl
      have l10x3d0 := le_up 0 l10x3
      have l10x3d1 := le_up 1 l10x3
      simp only [upN] at l10x3d0 l10x3d1
      have c10x4 := Own.cell O10 4 rfl
      have f10x4 := Own.free O10 4 rfl
      have l10x4 := Own.lt O10 4 rfl
      have l10x4d0 := le_up 0 l10x4
      have l10x4d1 := le_up 1 l10x4
      simp only [upN] at l10x4d0 l10x4d1
      have c10x5 := Own.cell O10 5 rfl
      have f10x5 := Own.free O10 5 rfl
      have l10x5 := Own.lt O10 5 rfl
      have l10x5d0 := le_up 0 l10x5
      have l10x5d1 := le_up 1 l10x5
      simp only [upN] at l10x5d0 l10x5d1
      have c10x6 := Own.cell O10 6 rfl
      have f10x6 := Own.free O10 6 rfl
      have l10x6 := Own.lt O10 6 rfl
      have l10x6d0 := le_up 0 l10x6
      have l10x6d1 := le_up 1 l10x6
      simp only [upN] at l10x6d0 l10x6d1
      have c10x7 := Own.cell O10 7 rfl
      have f10x7 := Own.free O10 7 rfl
      have l10x7 := Own.lt O10 7 rfl
      have l10x7d0 := le_up 0 l10x7
      have l10x7d1 := le_up 1 l10x7
      simp only [upN] at l10x7d0 l10x7d1
      have c10x8 := Own.cell O10 8 rfl
      have f10x8 := Own.free O10 8 rfl
      have l10x8 := Own.lt O10 8 rfl
      have l10x8d0 := le_up 0 l10x8
      have l10x8d1 := le_up 1 l10x8
      simp only [upN] at l10x8d0 l10x8d1
      have HO10 := Lib.hid O10
      clear O10 hb10
      go_wp2_with fail
      try rw [zWL0] at hD0
      try rw [zWL1] at hD1
      refine ret_mark2 (D := w2.heap.size + 2) (E := V0.heap.size + 2) (v := .bool true) (((KeepsOthers.refl _).trans (KeepsOthers.setCell _ _ _)).same _ _ hD0 rfl) (((KeepsOthers.refl _).trans (KeepsOthers.setCell _ _ _)).same _ _ hD1 rfl) (by omega) ?_ ?_
      · have c6 : ((((w10).setCell ⟨w.heap.size + 1, 0, none⟩ (.bool true)).putObj (V0.heap.size + 2) (.deferred none)).putObj (w2.heap.size + 2) (.deferred none)).cell? ⟨w.heap.size + 1, 0, none⟩ = some (.bool true) := (((Own.get (Own.set HO10.out 7 rfl (Ne1.cons (by first | omega | (simp; omega)) (Ne1.cons (by first | omega | (simp; omega)) (Ne1.cons (by first | omega | (simp; omega)) (Ne1.cons (by first | omega | (simp; omega)) (Ne1.cons (by first | omega | (simp; omega)) (Ne1.cons (by first | omega | (simp; omega)) (Ne1.cons (by first | omega | (simp; omega)) (Ne1.cons (by first | omega | (simp; omega)) Ne1.nil))))))))) 7 rfl).put (D := V0.heap.size + 2) (.deferred none) (by omega)).put (D := w2.heap.size + 2) (.deferred none) (by omega)).cell 0
        simp [results, Try.results3, go_sem, c6]
      · exact ⟨rfl, Below.put (Below.put (by go_grown) _ (by omega)) _ (by omega)⟩
end Go.Proofs.Ytojmifniidddpaa
