/- Words without their signs. No condition. -/
import Derived.Test.YtjmaigienigpnaaSpG
set_option linter.unusedVariables false
set_option linter.unusedSimpArgs false
namespace Go.Proofs.Ytjmaigienigpnaa
open Go.RowKit

def sgB (na nb : Bool) : Nat → Array Value
  | 0 => #[.bool false, .bool false]
  | 1 => #[.bool na, .bool false]
  | _ => #[.bool na, .bool nb]
def sgO (a b : BitVec 256) : Nat → Array Value
  | 0 => #[.int .u64 0, .int .u64 0, .int .u64 0, .int .u64 0, .int .u64 0, .int .u64 0, .int .u64 0, .int .u64 0]
  | 1 => #[.int .u64 (L a 0), .int .u64 (L a 1), .int .u64 (L a 2), .int .u64 (L a 3), .int .u64 0, .int .u64 0, .int .u64 0, .int .u64 0]
  | _ => #[.int .u64 (L a 0), .int .u64 (L a 1), .int .u64 (L a 2), .int .u64 (L a 3), .int .u64 (L b 0), .int .u64 (L b 1), .int .u64 (L b 2), .int .u64 (L b 3)]
def SgRel (O : Nat → World → Prop) (w : World) (i : Value) (wr : World) : Prop := ∃ j : Nat, j ≤ 2 ∧ i = .int .i64 (j : Int) ∧ O j wr ∧ Below w.heap.size w wr
set_option maxRecDepth 20000 in
set_option maxHeartbeats 8000000 in
theorem signedW (a b : BitVec 256) (bl : Nat) (t : TypeId) (w : World) (hl : Blk w bl #[.int .u64 (L a 0), .int .u64 (L a 1), .int .u64 (L a 2), .int .u64 (L a 3), .int .u64 (L b 0), .int .u64 (L b 1), .int .u64 (L b 2), .int .u64 (L b 3)] t) : Calls Try.prog 43 #[.slice (some ⟨bl, 0, none⟩) 2 2] w fun e w' => e = .returned (.tuple #[.agg #[.bool (a.getLsbD 255), .bool (b.getLsbD 255)], .agg #[.int .u64 (L (absW a) 0), .int .u64 (L (absW a) 1), .int .u64 (L (absW a) 2), .int .u64 (L (absW a) 3), .int .u64 (L (absW b) 0), .int .u64 (L (absW b) 1), .int .u64 (L (absW b) 2), .int .u64 (L (absW b) 3)]]) ∧ Below w.heap.size w w' := by
  have hlc := hl.cell
  have hlf := hl.free
  have hll := hl.lt
  have HNa := Lib.hid (fun V => negW a V)
  have HSa := Lib.hid (fun V => show Calls Try.prog 55 #[.agg #[.int .u64 0, .int .u64 0, .int .u64 0, .int .u64 0], W a] V fun e w' => e = .returned (W (0#256 - a)) ∧ Below V.heap.size V w' by rw [← W_zero]; exact subW_any 0#256 a V)
  have HXa := Lib.hid (show (a.getLsbD 255 = false → absW a = a) ∧ (a.getLsbD 255 = true → absW a = 0#256 - a) from ⟨fun h => by unfold absW; rw [h]; rfl, fun h => by unfold absW; rw [h]; rfl⟩)
  have HNb := Lib.hid (fun V => negW b V)
  have HSb := Lib.hid (fun V => show Calls Try.prog 55 #[.agg #[.int .u64 0, .int .u64 0, .int .u64 0, .int .u64 0], W b] V fun e w' => e = .returned (W (0#256 - b)) ∧ Below V.heap.size V w' by rw [← W_zero]; exact subW_any 0#256 b V)
  have HXb := Lib.hid (show (b.getLsbD 255 = false → absW b = b) ∧ (b.getLsbD 255 = true → absW b = 0#256 - b) from ⟨fun h => by unfold absW; rw [h]; rfl, fun h => by unfold absW; rw [h]; rfl⟩)
  generalize a.getLsbD 255 = na at *
  generalize b.getLsbD 255 = nb at *
  generalize absW a = xa at *
  generalize absW b = xb at *
  go_enter Try.func43, Try.ntmps43
  go_wp2_with fail
  go_loopw [8] (fun i wr => SgRel (fun j => Own [(w.heap.size + 1, sgO xa xb j, 62), (w.heap.size, sgB na nb j, 61), (bl, #[.int .u64 (L a 0), .int .u64 (L a 1), .int .u64 (L a 2), .int .u64 (L a 3), .int .u64 (L b 0), .int .u64 (L b 1), .int .u64 (L b 2), .int .u64 (L b 3)], t)]) w i wr) (fun i _ => 2 - (intOf i).toNat)
  case atStart => exact ⟨0, by omega, rfl, (Own.new (Own.new (own1 hl) (w.heap.size) (by first | rfl | simp)) (w.heap.size + 1) (by simp)), by go_grown⟩
  case round =>
    obtain ⟨j, hj, rfl, hO, hb⟩ := hrel
    try dsimp only at hO
    rcases (show j = 2 ∨ j = 0 ∨ j = 1 by omega) with rfl | rfl | rfl
    · dsimp only [sgB, sgO] at hO
      have O1 := hO
      have c1x0 := Own.cell O1 0 rfl
      have f1x0 := Own.free O1 0 rfl
      have l1x0 := Own.lt O1 0 rfl
      have l1x0d0 := le_up 0 l1x0
      have l1x0d1 := le_up 1 l1x0
      simp only [upN] at l1x0d0 l1x0d1
      have c1x1 := Own.cell O1 1 rfl
      have f1x1 := Own.free O1 1 rfl
      have l1x1 := Own.lt O1 1 rfl
      have l1x1d0 := le_up 0 l1x1
      have l1x1d1 := le_up 1 l1x1
      simp only [upN] at l1x1d0 l1x1d1
      have c1x2 := Own.cell O1 2 rfl
      have f1x2 := Own.free O1 2 rfl
      have l1x2 := Own.lt O1 2 rfl
      have l1x2d0 := le_up 0 l1x2
      have l1x2d1 := le_up 1 l1x2
      simp only [upN] at l1x2d0 l1x2d1
      have HO1 := Lib.hid O1
      clear O1
      go_wp2_with fail
      go_region
      all_goals (go_wp2_with fail)
      all_goals (refine bodyPost_ret (v := .tuple #[.agg #[.bool na, .bool nb], .agg #[.int .u64 (L xa 0), .int .u64 (L xa 1), .int .u64 (L xa 2), .int .u64 (L xa 3), .int .u64 (L xb 0), .int .u64 (L xb 1), .int .u64 (L xb 2), .int .u64 (L xb 3)]]) (by simp [results, Try.results43, go_sem, *]) rfl ?_)
      all_goals (exact ⟨rfl, by go_grown⟩)
    · dsimp only [sgB, sgO] at hO
      cases na
      · obtain rfl := HXa.out.1 rfl
        have O2 := hO
        have c2x0 := Own.cell O2 0 rfl
        have f2x0 := Own.free O2 0 rfl
        have l2x0 := Own.lt O2 0 rfl
        have l2x0d0 := le_up 0 l2x0
        have l2x0d1 := le_up 1 l2x0
        simp only [upN] at l2x0d0 l2x0d1
        have c2x1 := Own.cell O2 1 rfl
        have f2x1 := Own.free O2 1 rfl
        have l2x1 := Own.lt O2 1 rfl
        have l2x1d0 := le_up 0 l2x1
        have l2x1d1 := le_up 1 l2x1
        simp only [upN] at l2x1d0 l2x1d1
        have c2x2 := Own.cell O2 2 rfl
        have f2x2 := Own.free O2 2 rfl
        have l2x2 := Own.lt O2 2 rfl
        have l2x2d0 := le_up 0 l2x2
        have l2x2d1 := le_up 1 l2x2
        simp only [upN] at l2x2d0 l2x2d1
        have HO2 := Lib.hid O2
        clear O2
        have hz0 := l2x0
        have hz1 := l2x1
        have hz2 := l2x2
        go_wp2_with fail
        refine wp_region_grow w.heap.size 8 64 0 [(0, 0, 8192, 16), (1, 0, 16384, 16), (2, 0, 32768, 32), (3, 4, 65536, 32768), (4, 0, 131072, 32), (5, 13, 262144, 8196), (6, 45, 0, 327680), (7, 127, 524288, 16392), (8, 255, 0, 655360)] [(.p 0, 1), (.p 1, 3), (.p 2, 7), (.p 3, 15), (.p 4, 31), (.p 5, 63), (.c 6, 127), (.p 7, 255)] [(8, 511)] (List.eraseIdx _ 2) (fun p hp => List.mem_of_mem_eraseIdx hp) (by first | omega | (simp; done) | (simp; omega)) (by kernel_rfl) (by kernel_rfl) (Own.new HO2.out (wr.heap.size) (by first | rfl | simp)) ?_
        refine wpG_move (i := 0) rfl rfl rfl (by rfl) rfl ?_
        simp only [List.set_cons_zero, List.set_cons_succ]
        refine wpG_move (i := 1) rfl rfl rfl (by rfl) rfl ?_
        simp only [List.set_cons_zero, List.set_cons_succ]
        refine wpG_pure (i := 2) (v := ?v3x2) rfl rfl (by rfl) (fun w hB hG K hK => ?h3x2) ?_
        case h3x2 =>
          have cx := Own.cell hG 0 rfl
          go_wp2_with fail
          exact hK _ (Below.refl _ _)
        simp only [List.set_cons_zero, List.set_cons_succ]
        refine wpG_pure (i := 3) (v := ?v3x3) rfl rfl (by rfl) (fun w hB hG K hK => ?h3x3) ?_
        case h3x3 =>
          go_wp2_with fail
          refine (HNa.out _).mono ?_
          rintro e wx ⟨rfl, hbx⟩
          exact hK _ hbx
        simp only [List.set_cons_zero, List.set_cons_succ]
        refine wpG_pure (i := 4) (v := ?v3x4) rfl rfl (by rfl) (fun w hB hG K hK => ?h3x4) ?_
        case h3x4 =>
          have cx := Own.cell hG 0 rfl
          go_wp2_with fail
          exact hK _ (Below.refl _ _)
        simp only [List.set_cons_zero, List.set_cons_succ]
        refine wpG_pure (i := 5) (v := ?v3x5) rfl rfl (by rfl) (fun w hB hG K hK => ?h3x5) ?_
        case h3x5 =>
          go_wp2_with fail
          exact hK _ (Below.refl _ _)
        simp only [List.set_cons_zero, List.set_cons_succ]
        refine wpG_store (i := 6) (c' := ?c3x6) 2 rfl (Ne1.cons (by first | omega | (simp; omega)) (Ne1.cons (by first | omega | (simp; omega)) (Ne1.cons (by first | omega | (simp; omega)) Ne1.nil))) (by first | omega | (simp; omega)) (fun p hp => mem_set_erase hp) rfl rfl (by rfl) (fun w hB hF hG K hK => ?h3x6) ?_
        case h3x6 =>
          have cx := hF.cell
          have fx := hF.free
          go_wp2_with fail
          refine hK _ (Same.set (Same.refl _ _) _ _) ?_
          exact (Blk.set hF _ _)
        simp only [List.set_cons_zero, List.set_cons_succ, List.setIfInBounds_toArray]
        refine wpG_pure (i := 7) (v := ?v3x7) rfl rfl (by rfl) (fun w hB hG K hK => ?h3x7) ?_
        case h3x7 =>
          go_wp2_with fail
          exact hK _ (Below.refl _ _)
        simp only [List.set_cons_zero, List.set_cons_succ]
        refine wpG_nil (fun w3 hb3 hG3 => ?_)
        simp only [List.append_eq, List.cons_append, List.nil_append, List.drop_succ_cons, List.drop_zero, List.drop_nil]
        have O3 := Own.of hG3
        try simp only [List.setIfInBounds_toArray, List.set_cons_zero, List.set_cons_succ] at O3
        have bw3 : Below w.heap.size w w3 := Below.trans (by go_grown) (Below.mono hb3 (by first | omega | (simp; done) | (simp; omega)))
        have zw3 := Below.size hb3
        try simp only [World.size_alloc, World.size_drew, World.size_setCell] at zw3
        clear c2x0 f2x0 l2x0 l2x0d0 l2x0d1 c2x1 f2x1 l2x1 l2x1d0 l2x1d1 c2x2 f2x2 l2x2 l2x2d0 l2x2d1
        have c3x0 := Own.cell O3 0 rfl
        have f3x0 := Own.free O3 0 rfl
        have l3x0 := Own.lt O3 0 rfl
        have l3x0d0 := le_up 0 l3x0
        have l3x0d1 := le_up 1 l3x0
        simp only [upN] at l3x0d0 l3x0d1
        have c3x1 := Own.cell O3 1 rfl
        have f3x1 := Own.free O3 1 rfl
        have l3x1 := Own.lt O3 1 rfl
        have l3x1d0 := le_up 0 l3x1
        have l3x1d1 := le_up 1 l3x1
        simp only [upN] at l3x1d0 l3x1d1
        have c3x2 := Own.cell O3 2 rfl
        have f3x2 := Own.free O3 2 rfl
        have l3x2 := Own.lt O3 2 rfl
        have l3x2d0 := le_up 0 l3x2
        have l3x2d1 := le_up 1 l3x2
        simp only [upN] at l3x2d0 l3x2d1
        have c3x3 := Own.cell O3 3 rfl
        have f3x3 := Own.free O3 3 rfl
        have l3x3 := Own.lt O3 3 rfl
        have l3x3d0 := le_up 0 l3x3
        have l3x3d1 := le_up 1 l3x3
        simp only [upN] at l3x3d0 l3x3d1
        have HO3 := Lib.hid O3
        clear O3 hb3
        go_upto_region 5 with (fail)
        refine wp_name fun wn5x hwn5x => ?_
        have hOwn5x := (show Own _ wn5x by rw [hwn5x]; exact (Own.set (Own.set (Own.set (Own.set HO3.out 1 rfl (Ne1.cons (by first | omega | (simp; omega)) (Ne1.cons (by first | omega | (simp; omega)) (Ne1.cons (by first | omega | (simp; omega)) Ne1.nil)))) 1 rfl (Ne1.cons (by first | omega | (simp; omega)) (Ne1.cons (by first | omega | (simp; omega)) (Ne1.cons (by first | omega | (simp; omega)) Ne1.nil)))) 1 rfl (Ne1.cons (by first | omega | (simp; omega)) (Ne1.cons (by first | omega | (simp; omega)) (Ne1.cons (by first | omega | (simp; omega)) Ne1.nil)))) 1 rfl (Ne1.cons (by first | omega | (simp; omega)) (Ne1.cons (by first | omega | (simp; omega)) (Ne1.cons (by first | omega | (simp; omega)) Ne1.nil)))))
        try simp only [List.setIfInBounds_toArray, List.set_cons_zero, List.set_cons_succ] at hOwn5x
        have hBwn5x : Below w.heap.size w wn5x := by rw [hwn5x]; go_grown
        clear hwn5x
        have bw4 := hBwn5x
        clear c3x0 f3x0 l3x0 l3x0d0 l3x0d1 c3x1 f3x1 l3x1 l3x1d0 l3x1d1 c3x2 f3x2 l3x2 l3x2d0 l3x2d1 c3x3 f3x3 l3x3 l3x3d0 l3x3d1
        have O4 := hOwn5x
        have c4x0 := Own.cell O4 0 rfl
        have f4x0 := Own.free O4 0 rfl
        have l4x0 := Own.lt O4 0 rfl
        have l4x0d0 := le_up 0 l4x0
        have l4x0d1 := le_up 1 l4x0
        simp only [upN] at l4x0d0 l4x0d1
        have c4x1 := Own.cell O4 1 rfl
        have f4x1 := Own.free O4 1 rfl
        have l4x1 := Own.lt O4 1 rfl
        have l4x1d0 := le_up 0 l4x1
        have l4x1d1 := le_up 1 l4x1
        simp only [upN] at l4x1d0 l4x1d1
        have c4x2 := Own.cell O4 2 rfl
        have f4x2 := Own.free O4 2 rfl
        have l4x2 := Own.lt O4 2 rfl
        have l4x2d0 := le_up 0 l4x2
        have l4x2d1 := le_up 1 l4x2
        simp only [upN] at l4x2d0 l4x2d1
        have c4x3 := Own.cell O4 3 rfl
        have f4x3 := Own.free O4 3 rfl
        have l4x3 := Own.lt O4 3 rfl
        have l4x3d0 := le_up 0 l4x3
        have l4x3d1 := le_up 1 l4x3
        simp only [upN] at l4x3d0 l4x3d1
        have HO4 := Lib.hid O4
        clear O4
        go_wp2_with fail
        refine ⟨⟨1, by omega, rfl, ?_, by go_grown⟩, by simp [intOf]⟩
        dsimp only [sgB, sgO]; exact Own.eqv (Own.tl HO4.out) (by first | rfl | simp only [List.setIfInBounds_toArray, List.set_cons_zero, List.set_cons_succ])
      · obtain rfl := HXa.out.2 rfl
        have O5 := hO
        have c5x0 := Own.cell O5 0 rfl
        have f5x0 := Own.free O5 0 rfl
        have l5x0 := Own.lt O5 0 rfl
        have l5x0d0 := le_up 0 l5x0
        have l5x0d1 := le_up 1 l5x0
        simp only [upN] at l5x0d0 l5x0d1
        have c5x1 := Own.cell O5 1 rfl
        have f5x1 := Own.free O5 1 rfl
        have l5x1 := Own.lt O5 1 rfl
        have l5x1d0 := le_up 0 l5x1
        have l5x1d1 := le_up 1 l5x1
        simp only [upN] at l5x1d0 l5x1d1
        have c5x2 := Own.cell O5 2 rfl
        have f5x2 := Own.free O5 2 rfl
        have l5x2 := Own.lt O5 2 rfl
        have l5x2d0 := le_up 0 l5x2
        have l5x2d1 := le_up 1 l5x2
        simp only [upN] at l5x2d0 l5x2d1
        have HO5 := Lib.hid O5
        clear O5
        have hz0 := l5x0
        have hz1 := l5x1
        have hz2 := l5x2
        go_wp2_with fail
        refine wp_region_grow w.heap.size 8 64 0 [(0, 0, 8192, 16), (1, 0, 16384, 16), (2, 0, 32768, 32), (3, 4, 65536, 32768), (4, 0, 131072, 32), (5, 13, 262144, 8196), (6, 45, 0, 327680), (7, 127, 524288, 16392), (8, 255, 0, 655360)] [(.p 0, 1), (.p 1, 3), (.p 2, 7), (.p 3, 15), (.p 4, 31), (.p 5, 63), (.c 6, 127), (.p 7, 255)] [(8, 511)] (List.eraseIdx _ 2) (fun p hp => List.mem_of_mem_eraseIdx hp) (by first | omega | (simp; done) | (simp; omega)) (by kernel_rfl) (by kernel_rfl) (Own.new HO5.out (wr.heap.size) (by first | rfl | simp)) ?_
        refine wpG_move (i := 0) rfl rfl rfl (by rfl) rfl ?_
        simp only [List.set_cons_zero, List.set_cons_succ]
        refine wpG_move (i := 1) rfl rfl rfl (by rfl) rfl ?_
        simp only [List.set_cons_zero, List.set_cons_succ]
        refine wpG_pure (i := 2) (v := ?v6x2) rfl rfl (by rfl) (fun w hB hG K hK => ?h6x2) ?_
        case h6x2 =>
          have cx := Own.cell hG 0 rfl
          go_wp2_with fail
          exact hK _ (Below.refl _ _)
        simp only [List.set_cons_zero, List.set_cons_succ]
        refine wpG_pure (i := 3) (v := ?v6x3) rfl rfl (by rfl) (fun w hB hG K hK => ?h6x3) ?_
        case h6x3 =>
          go_wp2_with fail
          refine (HNa.out _).mono ?_
          rintro e wx ⟨rfl, hbx⟩
          exact hK _ hbx
        simp only [List.set_cons_zero, List.set_cons_succ]
        refine wpG_pure (i := 4) (v := ?v6x4) rfl rfl (by rfl) (fun w hB hG K hK => ?h6x4) ?_
        case h6x4 =>
          have cx := Own.cell hG 0 rfl
          go_wp2_with fail
          exact hK _ (Below.refl _ _)
        simp only [List.set_cons_zero, List.set_cons_succ]
        refine wpG_pure (i := 5) (v := ?v6x5) rfl rfl (by rfl) (fun w hB hG K hK => ?h6x5) ?_
        case h6x5 =>
          go_wp2_with fail
          exact hK _ (Below.refl _ _)
        simp only [List.set_cons_zero, List.set_cons_succ]
        refine wpG_store (i := 6) (c' := ?c6x6) 2 rfl (Ne1.cons (by first | omega | (simp; omega)) (Ne1.cons (by first | omega | (simp; omega)) (Ne1.cons (by first | omega | (simp; omega)) Ne1.nil))) (by first | omega | (simp; omega)) (fun p hp => mem_set_erase hp) rfl rfl (by rfl) (fun w hB hF hG K hK => ?h6x6) ?_
        case h6x6 =>
          have cx := hF.cell
          have fx := hF.free
          go_wp2_with fail
          refine hK _ (Same.set (Same.refl _ _) _ _) ?_
          exact (Blk.set hF _ _)
        simp only [List.set_cons_zero, List.set_cons_succ, List.setIfInBounds_toArray]
        refine wpG_pure (i := 7) (v := ?v6x7) rfl rfl (by rfl) (fun w hB hG K hK => ?h6x7) ?_
        case h6x7 =>
          go_wp2_with fail
          exact hK _ (Below.refl _ _)
        simp only [List.set_cons_zero, List.set_cons_succ]
        refine wpG_nil (fun w6 hb6 hG6 => ?_)
        simp only [List.append_eq, List.cons_append, List.nil_append, List.drop_succ_cons, List.drop_zero, List.drop_nil]
        have O6 := Own.of hG6
        try simp only [List.setIfInBounds_toArray, List.set_cons_zero, List.set_cons_succ] at O6
        have bw6 : Below w.heap.size w w6 := Below.trans (by go_grown) (Below.mono hb6 (by first | omega | (simp; done) | (simp; omega)))
        have zw6 := Below.size hb6
        try simp only [World.size_alloc, World.size_drew, World.size_setCell] at zw6
        clear c5x0 f5x0 l5x0 l5x0d0 l5x0d1 c5x1 f5x1 l5x1 l5x1d0 l5x1d1 c5x2 f5x2 l5x2 l5x2d0 l5x2d1
        have c6x0 := Own.cell O6 0 rfl
        have f6x0 := Own.free O6 0 rfl
        have l6x0 := Own.lt O6 0 rfl
        have l6x0d0 := le_up 0 l6x0
        have l6x0d1 := le_up 1 l6x0
        simp only [upN] at l6x0d0 l6x0d1
        have c6x1 := Own.cell O6 1 rfl
        have f6x1 := Own.free O6 1 rfl
        have l6x1 := Own.lt O6 1 rfl
        have l6x1d0 := le_up 0 l6x1
        have l6x1d1 := le_up 1 l6x1
        simp only [upN] at l6x1d0 l6x1d1
        have c6x2 := Own.cell O6 2 rfl
        have f6x2 := Own.free O6 2 rfl
        have l6x2 := Own.lt O6 2 rfl
        have l6x2d0 := le_up 0 l6x2
        have l6x2d1 := le_up 1 l6x2
        simp only [upN] at l6x2d0 l6x2d1
        have c6x3 := Own.cell O6 3 rfl
        have f6x3 := Own.free O6 3 rfl
        have l6x3 := Own.lt O6 3 rfl
        have l6x3d0 := le_up 0 l6x3
        have l6x3d1 := le_up 1 l6x3
        simp only [upN] at l6x3d0 l6x3d1
        have HO6 := Lib.hid O6
        clear O6 hb6
        go_upto_region 5 with (fail)
        refine wp_name fun wn5y hwn5y => ?_
        have hOwn5y := (show Own _ wn5y by rw [hwn5y]; exact (Own.set (Own.set (Own.set (Own.set HO6.out 1 rfl (Ne1.cons (by first | omega | (simp; omega)) (Ne1.cons (by first | omega | (simp; omega)) (Ne1.cons (by first | omega | (simp; omega)) Ne1.nil)))) 1 rfl (Ne1.cons (by first | omega | (simp; omega)) (Ne1.cons (by first | omega | (simp; omega)) (Ne1.cons (by first | omega | (simp; omega)) Ne1.nil)))) 1 rfl (Ne1.cons (by first | omega | (simp; omega)) (Ne1.cons (by first | omega | (simp; omega)) (Ne1.cons (by first | omega | (simp; omega)) Ne1.nil)))) 1 rfl (Ne1.cons (by first | omega | (simp; omega)) (Ne1.cons (by first | omega | (simp; omega)) (Ne1.cons (by first | omega | (simp; omega)) Ne1.nil)))))
        try simp only [List.setIfInBounds_toArray, List.set_cons_zero, List.set_cons_succ] at hOwn5y
        have hBwn5y : Below w.heap.size w wn5y := by rw [hwn5y]; go_grown
        clear hwn5y
        have bw7 := hBwn5y
        clear c6x0 f6x0 l6x0 l6x0d0 l6x0d1 c6x1 f6x1 l6x1 l6x1d0 l6x1d1 c6x2 f6x2 l6x2 l6x2d0 l6x2d1 c6x3 f6x3 l6x3 l6x3d0 l6x3d1
        have O7 := hOwn5y
        have c7x0 := Own.cell O7 0 rfl
        have f7x0 := Own.free O7 0 rfl
        have l7x0 := Own.lt O7 0 rfl
        have l7x0d0 := le_up 0 l7x0
        have l7x0d1 := le_up 1 l7x0
        simp only [upN] at l7x0d0 l7x0d1
        have c7x1 := Own.cell O7 1 rfl
        have f7x1 := Own.free O7 1 rfl
        have l7x1 := Own.lt O7 1 rfl
        have l7x1d0 := le_up 0 l7x1
        have l7x1d1 := le_up 1 l7x1
        simp only [upN] at l7x1d0 l7x1d1
        have c7x2 := Own.cell O7 2 rfl
        have f7x2 := Own.free O7 2 rfl
        have l7x2 := Own.lt O7 2 rfl
        have l7x2d0 := le_up 0 l7x2
        have l7x2d1 := le_up 1 l7x2
        simp only [upN] at l7x2d0 l7x2d1
        have c7x3 := Own.cell O7 3 rfl
        have f7x3 := Own.free O7 3 rfl
        have l7x3 := Own.lt O7 3 rfl
        have l7x3d0 := le_up 0 l7x3
        have l7x3d1 := le_up 1 l7x3
        simp only [upN] at l7x3d0 l7x3d1
        have HO7 := Lib.hid O7
        clear O7
        go_wp2_with fail
        refine (HSa.out _).mono ?_
        rintro e w8 ⟨rfl, hb8⟩
        have O8 := Own.grow' hb8 HO7.out
        try simp only [List.setIfInBounds_toArray, List.set_cons_zero, List.set_cons_succ] at O8
        have bw8 : Below w.heap.size w w8 := Below.trans (by go_grown) (Below.mono hb8 (by first | omega | (simp; done) | (simp; omega)))
        have zw8 := Below.size hb8
        try simp only [World.size_alloc, World.size_drew, World.size_setCell] at zw8
        clear c7x0 f7x0 l7x0 l7x0d0 l7x0d1 c7x1 f7x1 l7x1 l7x1d0 l7x1d1 c7x2 f7x2 l7x2 l7x2d0 l7x2d1 c7x3 f7x3 l7x3 l7x3d0 l7x3d1
        have c8x0 := Own.cell O8 0 rfl
        have f8x0 := Own.free O8 0 rfl
        have l8x0 := Own.lt O8 0 rfl
        have l8x0d0 := le_up 0 l8x0
        have l8x0d1 := le_up 1 l8x0
        simp only [upN] at l8x0d0 l8x0d1
        have c8x1 := Own.cell O8 1 rfl
        have f8x1 := Own.free O8 1 rfl
        have l8x1 := Own.lt O8 1 rfl
        have l8x1d0 := le_up 0 l8x1
        have l8x1d1 := le_up 1 l8x1
        simp only [upN] at l8x1d0 l8x1d1
        have c8x2 := Own.cell O8 2 rfl
        have f8x2 := Own.free O8 2 rfl
        have l8x2 := Own.lt O8 2 rfl
        have l8x2d0 := le_up 0 l8x2
        have l8x2d1 := le_up 1 l8x2
        simp only [upN] at l8x2d0 l8x2d1
        have c8x3 := Own.cell O8 3 rfl
        have f8x3 := Own.free O8 3 rfl
        have l8x3 := Own.lt O8 3 rfl
        have l8x3d0 := le_up 0 l8x3
        have l8x3d1 := le_up 1 l8x3
        simp only [upN] at l8x3d0 l8x3d1
        have HO8 := Lib.hid O8
        clear O8 hb8
        go_upto_region 7 with (fail)
        refine wp_name fun wn7y hwn7y => ?_
        have hOwn7y := (show Own _ wn7y by rw [hwn7y]; exact (Own.set (Own.set (Own.set (Own.set HO8.out 1 rfl (Ne1.cons (by first | omega | (simp; omega)) (Ne1.cons (by first | omega | (simp; omega)) (Ne1.cons (by first | omega | (simp; omega)) Ne1.nil)))) 1 rfl (Ne1.cons (by first | omega | (simp; omega)) (Ne1.cons (by first | omega | (simp; omega)) (Ne1.cons (by first | omega | (simp; omega)) Ne1.nil)))) 1 rfl (Ne1.cons (by first | omega | (simp; omega)) (Ne1.cons (by first | omega | (simp; omega)) (Ne1.cons (by first | omega | (simp; omega)) Ne1.nil)))) 1 rfl (Ne1.cons (by first | omega | (simp; omega)) (Ne1.cons (by first | omega | (simp; omega)) (Ne1.cons (by first | omega | (simp; omega)) Ne1.nil)))))
        try simp only [List.setIfInBounds_toArray, List.set_cons_zero, List.set_cons_succ] at hOwn7y
        have hBwn7y : Below w.heap.size w wn7y := by rw [hwn7y]; go_grown
        clear hwn7y
        have bw9 := hBwn7y
        clear c8x0 f8x0 l8x0 l8x0d0 l8x0d1 c8x1 f8x1 l8x1 l8x1d0 l8x1d1 c8x2 f8x2 l8x2 l8x2d0 l8x2d1 c8x3 f8x3 l8x3 l8x3d0 l8x3d1
        have O9 := hOwn7y
        have c9x0 := Own.cell O9 0 rfl
        have f9x0 := Own.free O9 0 rfl
        have l9x0 := Own.lt O9 0 rfl
        have l9x0d0 := le_up 0 l9x0
        have l9x0d1 := le_up 1 l9x0
        simp only [upN] at l9x0d0 l9x0d1
        have c9x1 := Own.cell O9 1 rfl
        have f9x1 := Own.free O9 1 rfl
        have l9x1 := Own.lt O9 1 rfl
        have l9x1d0 := le_up 0 l9x1
        have l9x1d1 := le_up 1 l9x1
        simp only [upN] at l9x1d0 l9x1d1
        have c9x2 := Own.cell O9 2 rfl
        have f9x2 := Own.free O9 2 rfl
        have l9x2 := Own.lt O9 2 rfl
        have l9x2d0 := le_up 0 l9x2
        have l9x2d1 := le_up 1 l9x2
        simp only [upN] at l9x2d0 l9x2d1
        have c9x3 := Own.cell O9 3 rfl
        have f9x3 := Own.free O9 3 rfl
        have l9x3 := Own.lt O9 3 rfl
        have l9x3d0 := le_up 0 l9x3
        have l9x3d1 := le_up 1 l9x3
        simp only [upN] at l9x3d0 l9x3d1
        have HO9 := Lib.hid O9
        clear O9
        go_wp2_with fail
        refine ⟨⟨1, by omega, rfl, ?_, by go_grown⟩, by simp [intOf]⟩
        dsimp only [sgB, sgO]; exact Own.eqv (Own.tl HO9.out) (by first | rfl | simp only [List.setIfInBounds_toArray, List.set_cons_zero, List.set_cons_succ])
    · dsimp only [sgB, sgO] at hO
      cases nb
      · obtain rfl := HXb.out.1 rfl
        have O10 := hO
        have c10x0 := Own.cell O10 0 rfl
        have f10x0 := Own.free O10 0 rfl
        have l10x0 := Own.lt O10 0 rfl
        have l10x0d0 := le_up 0 l10x0
        have l10x0d1 := le_up 1 l10x0
        simp only [upN] at l10x0d0 l10x0d1
        have c10x1 := Own.cell O10 1 rfl
        have f10x1 := Own.free O10 1 rfl
        have l10x1 := Own.lt O10 1 rfl
        have l10x1d0 := le_up 0 l10x1
        have l10x1d1 := le_up 1 l10x1
        simp only [upN] at l10x1d0 l10x1d1
        have c10x2 := Own.cell O10 2 rfl
        have f10x2 := Own.free O10 2 rfl
        have l10x2 := Own.lt O10 2 rfl
        have l10x2d0 := le_up 0 l10x2
        have l10x2d1 := le_up 1 l10x2
        simp only [upN] at l10x2d0 l10x2d1
        have HO10 := Lib.hid O10
        clear O10
        have hz0 := l10x0
        have hz1 := l10x1
        have hz2 := l10x2
        go_wp2_with fail
        refine wp_region_grow w.heap.size 8 64 0 [(0, 0, 8192, 16), (1, 0, 16384, 16), (2, 0, 32768, 32), (3, 4, 65536, 32768), (4, 0, 131072, 32), (5, 13, 262144, 8196), (6, 45, 0, 327680), (7, 127, 524288, 16392), (8, 255, 0, 655360)] [(.p 0, 1), (.p 1, 3), (.p 2, 7), (.p 3, 15), (.p 4, 31), (.p 5, 63), (.c 6, 127), (.p 7, 255)] [(8, 511)] (List.eraseIdx _ 2) (fun p hp => List.mem_of_mem_eraseIdx hp) (by first | omega | (simp; done) | (simp; omega)) (by kernel_rfl) (by kernel_rfl) (Own.new HO10.out (wr.heap.size) (by first | rfl | simp)) ?_
        refine wpG_move (i := 0) rfl rfl rfl (by rfl) rfl ?_
        simp only [List.set_cons_zero, List.set_cons_succ]
        refine wpG_move (i := 1) rfl rfl rfl (by rfl) rfl ?_
        simp only [List.set_cons_zero, List.set_cons_succ]
        refine wpG_pure (i := 2) (v := ?v11x2) rfl rfl (by rfl) (fun w hB hG K hK => ?h11x2) ?_
        case h11x2 =>
          have cx := Own.cell hG 0 rfl
          go_wp2_with fail
          exact hK _ (Below.refl _ _)
        simp only [List.set_cons_zero, List.set_cons_succ]
        refine wpG_pure (i := 3) (v := ?v11x3) rfl rfl (by rfl) (fun w hB hG K hK => ?h11x3) ?_
        case h11x3 =>
          go_wp2_with fail
          refine (HNb.out _).mono ?_
          rintro e wx ⟨rfl, hbx⟩
          exact hK _ hbx
        simp only [List.set_cons_zero, List.set_cons_succ]
        refine wpG_pure (i := 4) (v := ?v11x4) rfl rfl (by rfl) (fun w hB hG K hK => ?h11x4) ?_
        case h11x4 =>
          have cx := Own.cell hG 0 rfl
          go_wp2_with fail
          exact hK _ (Below.refl _ _)
        simp only [List.set_cons_zero, List.set_cons_succ]
        refine wpG_pure (i := 5) (v := ?v11x5) rfl rfl (by rfl) (fun w hB hG K hK => ?h11x5) ?_
        case h11x5 =>
          go_wp2_with fail
          exact hK _ (Below.refl _ _)
        simp only [List.set_cons_zero, List.set_cons_succ]
        refine wpG_store (i := 6) (c' := ?c11x6) 2 rfl (Ne1.cons (by first | omega | (simp; omega)) (Ne1.cons (by first | omega | (simp; omega)) (Ne1.cons (by first | omega | (simp; omega)) Ne1.nil))) (by first | omega | (simp; omega)) (fun p hp => mem_set_erase hp) rfl rfl (by rfl) (fun w hB hF hG K hK => ?h11x6) ?_
        case h11x6 =>
          have cx := hF.cell
          have fx := hF.free
          go_wp2_with fail
          refine hK _ (Same.set (Same.refl _ _) _ _) ?_
          exact (Blk.set hF _ _)
        simp only [List.set_cons_zero, List.set_cons_succ, List.setIfInBounds_toArray]
        refine wpG_pure (i := 7) (v := ?v11x7) rfl rfl (by rfl) (fun w hB hG K hK => ?h11x7) ?_
        case h11x7 =>
          go_wp2_with fail
          exact hK _ (Below.refl _ _)
        simp only [List.set_cons_zero, List.set_cons_succ]
        refine wpG_nil (fun w11 hb11 hG11 => ?_)
        simp only [List.append_eq, List.cons_append, List.nil_append, List.drop_succ_cons, List.drop_zero, List.drop_nil]
        have O11 := Own.of hG11
        try simp only [List.setIfInBounds_toArray, List.set_cons_zero, List.set_cons_succ] at O11
        have bw11 : Below w.heap.size w w11 := Below.trans (by go_grown) (Below.mono hb11 (by first | omega | (simp; done) | (simp; omega)))
        have zw11 := Below.size hb11
        try simp only [World.size_alloc, World.size_drew, World.size_setCell] at zw11
        clear c10x0 f10x0 l10x0 l10x0d0 l10x0d1 c10x1 f10x1 l10x1 l10x1d0 l10x1d1 c10x2 f10x2 l10x2 l10x2d0 l10x2d1
        have c11x0 := Own.cell O11 0 rfl
        have f11x0 := Own.free O11 0 rfl
        have l11x0 := Own.lt O11 0 rfl
        have l11x0d0 := le_up 0 l11x0
        have l11x0d1 := le_up 1 l11x0
        simp only [upN] at l11x0d0 l11x0d1
        have c11x1 := Own.cell O11 1 rfl
        have f11x1 := Own.free O11 1 rfl
        have l11x1 := Own.lt O11 1 rfl
        have l11x1d0 := le_up 0 l11x1
        have l11x1d1 := le_up 1 l11x1
        simp only [upN] at l11x1d0 l11x1d1
        have c11x2 := Own.cell O11 2 rfl
        have f11x2 := Own.free O11 2 rfl
        have l11x2 := Own.lt O11 2 rfl
        have l11x2d0 := le_up 0 l11x2
        have l11x2d1 := le_up 1 l11x2
        simp only [upN] at l11x2d0 l11x2d1
        have c11x3 := Own.cell O11 3 rfl
        have f11x3 := Own.free O11 3 rfl
        have l11x3 := Own.lt O11 3 rfl
        have l11x3d0 := le_up 0 l11x3
        have l11x3d1 := le_up 1 l11x3
        simp only [upN] at l11x3d0 l11x3d1
        have HO11 := Lib.hid O11
        clear O11 hb11
        go_upto_region 5 with (fail)
        refine wp_name fun wn5z hwn5z => ?_
        have hOwn5z := (show Own _ wn5z by rw [hwn5z]; exact (Own.set (Own.set (Own.set (Own.set HO11.out 1 rfl (Ne1.cons (by first | omega | (simp; omega)) (Ne1.cons (by first | omega | (simp; omega)) (Ne1.cons (by first | omega | (simp; omega)) Ne1.nil)))) 1 rfl (Ne1.cons (by first | omega | (simp; omega)) (Ne1.cons (by first | omega | (simp; omega)) (Ne1.cons (by first | omega | (simp; omega)) Ne1.nil)))) 1 rfl (Ne1.cons (by first | omega | (simp; omega)) (Ne1.cons (by first | omega | (simp; omega)) (Ne1.cons (by first | omega | (simp; omega)) Ne1.nil)))) 1 rfl (Ne1.cons (by first | omega | (simp; omega)) (Ne1.cons (by first | omega | (simp; omega)) (Ne1.cons (by first | omega | (simp; omega)) Ne1.nil)))))
        try simp only [List.setIfInBounds_toArray, List.set_cons_zero, List.set_cons_succ] at hOwn5z
        have hBwn5z : Below w.heap.size w wn5z := by rw [hwn5z]; go_grown
        clear hwn5z
        have bw12 := hBwn5z
        clear c11x0 f11x0 l11x0 l11x0d0 l11x0d1 c11x1 f11x1 l11x1 l11x1d0 l11x1d1 c11x2 f11x2 l11x2 l11x2d0 l11x2d1 c11x3 f11x3 l11x3 l11x3d0 l11x3d1
        have O12 := hOwn5z
        have c12x0 := Own.cell O12 0 rfl
        have f12x0 := Own.free O12 0 rfl
        have l12x0 := Own.lt O12 0 rfl
        have l12x0d0 := le_up 0 l12x0
        have l12x0d1 := le_up 1 l12x0
        simp only [upN] at l12x0d0 l12x0d1
        have c12x1 := Own.cell O12 1 rfl
        have f12x1 := Own.free O12 1 rfl
        have l12x1 := Own.lt O12 1 rfl
        have l12x1d0 := le_up 0 l12x1
        have l12x1d1 := le_up 1 l12x1
        simp only [upN] at l12x1d0 l12x1d1
        have c12x2 := Own.cell O12 2 rfl
        have f12x2 := Own.free O12 2 rfl
        have l12x2 := Own.lt O12 2 rfl
        have l12x2d0 := le_up 0 l12x2
        have l12x2d1 := le_up 1 l12x2
        simp only [upN] at l12x2d0 l12x2d1
        have c12x3 := Own.cell O12 3 rfl
        have f12x3 := Own.free O12 3 rfl
        have l12x3 := Own.lt O12 3 rfl
        have l12x3d0 := le_up 0 l12x3
        have l12x3d1 := le_up 1 l12x3
        simp only [upN] at l12x3d0 l12x3d1
        have HO12 := Lib.hid O12
        clear O12
        go_wp2_with fail
        refine ⟨⟨2, by omega, rfl, ?_, by go_grown⟩, by simp [intOf]⟩
        dsimp only [sgB, sgO]; exact Own.eqv (Own.tl HO12.out) (by first | rfl | simp only [List.setIfInBounds_toArray, List.set_cons_zero, List.set_cons_succ])
      · obtain rfl := HXb.out.2 rfl
        have O13 := hO
        have c13x0 := Own.cell O13 0 rfl
        have f13x0 := Own.free O13 0 rfl
        have l13x0 := Own.lt O13 0 rfl
        have l13x0d0 := le_up 0 l13x0
        have l13x0d1 := le_up 1 l13x0
        simp only [upN] at l13x0d0 l13x0d1
        have c13x1 := Own.cell O13 1 rfl
        have f13x1 := Own.free O13 1 rfl
        have l13x1 := Own.lt O13 1 rfl
        have l13x1d0 := le_up 0 l13x1
        have l13x1d1 := le_up 1 l13x1
        simp only [upN] at l13x1d0 l13x1d1
        have c13x2 := Own.cell O13 2 rfl
        have f13x2 := Own.free O13 2 rfl
        have l13x2 := Own.lt O13 2 rfl
        have l13x2d0 := le_up 0 l13x2
        have l13x2d1 := le_up 1 l13x2
        simp only [upN] at l13x2d0 l13x2d1
        have HO13 := Lib.hid O13
        clear O13
        have hz0 := l13x0
        have hz1 := l13x1
        have hz2 := l13x2
        go_wp2_with fail
        refine wp_region_grow w.heap.size 8 64 0 [(0, 0, 8192, 16), (1, 0, 16384, 16), (2, 0, 32768, 32), (3, 4, 65536, 32768), (4, 0, 131072, 32), (5, 13, 262144, 8196), (6, 45, 0, 327680), (7, 127, 524288, 16392), (8, 255, 0, 655360)] [(.p 0, 1), (.p 1, 3), (.p 2, 7), (.p 3, 15), (.p 4, 31), (.p 5, 63), (.c 6, 127), (.p 7, 255)] [(8, 511)] (List.eraseIdx _ 2) (fun p hp => List.mem_of_mem_eraseIdx hp) (by first | omega | (simp; done) | (simp; omega)) (by kernel_rfl) (by kernel_rfl) (Own.new HO13.out (wr.heap.size) (by first | rfl | simp)) ?_
        refine wpG_move (i := 0) rfl rfl rfl (by rfl) rfl ?_
        simp only [List.set_cons_zero, List.set_cons_succ]
        refine wpG_move (i := 1) rfl rfl rfl (by rfl) rfl ?_
        simp only [List.set_cons_zero, List.set_cons_succ]
        refine wpG_pure (i := 2) (v := ?v14x2) rfl rfl (by rfl) (fun w hB hG K hK => ?h14x2) ?_
        case h14x2 =>
          have cx := Own.cell hG 0 rfl
          go_wp2_with fail
          exact hK _ (Below.refl _ _)
        simp only [List.set_cons_zero, List.set_cons_succ]
        refine wpG_pure (i := 3) (v := ?v14x3) rfl rfl (by rfl) (fun w hB hG K hK => ?h14x3) ?_
        case h14x3 =>
          go_wp2_with fail
          refine (HNb.out _).mono ?_
          rintro e wx ⟨rfl, hbx⟩
          exact hK _ hbx
        simp only [List.set_cons_zero, List.set_cons_succ]
        refine wpG_pure (i := 4) (v := ?v14x4) rfl rfl (by rfl) (fun w hB hG K hK => ?h14x4) ?_
        case h14x4 =>
          have cx := Own.cell hG 0 rfl
          go_wp2_with fail
          exact hK _ (Below.refl _ _)
        simp only [List.set_cons_zero, List.set_cons_succ]
        refine wpG_pure (i := 5) (v := ?v14x5) rfl rfl (by rfl) (fun w hB hG K hK => ?h14x5) ?_
        case h14x5 =>
          go_wp2_with fail
          exact hK _ (Below.refl _ _)
        simp only [List.set_cons_zero, List.set_cons_succ]
        refine wpG_store (i := 6) (c' := ?c14x6) 2 rfl (Ne1.cons (by first | omega | (simp; omega)) (Ne1.cons (by first | omega | (simp; omega)) (Ne1.cons (by first | omega | (simp; omega)) Ne1.nil))) (by first | omega | (simp; omega)) (fun p hp => mem_set_erase hp) rfl rfl (by rfl) (fun w hB hF hG K hK => ?h14x6) ?_
        case h14x6 =>
          have cx := hF.cell
          have fx := hF.free
          go_wp2_with fail
          refine hK _ (Same.set (Same.refl _ _) _ _) ?_
          exact (Blk.set hF _ _)
        simp only [List.set_cons_zero, List.set_cons_succ, List.setIfInBounds_toArray]
        refine wpG_pure (i := 7) (v := ?v14x7) rfl rfl (by rfl) (fun w hB hG K hK => ?h14x7) ?_
        case h14x7 =>
          go_wp2_with fail
          exact hK _ (Below.refl _ _)
        simp only [List.set_cons_zero, List.set_cons_succ]
        refine wpG_nil (fun w14 hb14 hG14 => ?_)
        simp only [List.append_eq, List.cons_append, List.nil_append, List.drop_succ_cons, List.drop_zero, List.drop_nil]
        have O14 := Own.of hG14
        try simp only [List.setIfInBounds_toArray, List.set_cons_zero, List.set_cons_succ] at O14
        have bw14 : Below w.heap.size w w14 := Below.trans (by go_grown) (Below.mono hb14 (by first | omega | (simp; done) | (simp; omega)))
        have zw14 := Below.size hb14
        try simp only [World.size_alloc, World.size_drew, World.size_setCell] at zw14
        clear c13x0 f13x0 l13x0 l13x0d0 l13x0d1 c13x1 f13x1 l13x1 l13x1d0 l13x1d1 c13x2 f13x2 l13x2 l13x2d0 l13x2d1
        have c14x0 := Own.cell O14 0 rfl
        have f14x0 := Own.free O14 0 rfl
        have l14x0 := Own.lt O14 0 rfl
        have l14x0d0 := le_up 0 l14x0
        have l14x0d1 := le_up 1 l14x0
        simp only [upN] at l14x0d0 l14x0d1
        have c14x1 := Own.cell O14 1 rfl
        have f14x1 := Own.free O14 1 rfl
        have l14x1 := Own.lt O14 1 rfl
        have l14x1d0 := le_up 0 l14x1
        have l14x1d1 := le_up 1 l14x1
        simp only [upN] at l14x1d0 l14x1d1
        have c14x2 := Own.cell O14 2 rfl
        have f14x2 := Own.free O14 2 rfl
        have l14x2 := Own.lt O14 2 rfl
        have l14x2d0 := le_up 0 l14x2
        have l14x2d1 := le_up 1 l14x2
        simp only [upN] at l14x2d0 l14x2d1
        have c14x3 := Own.cell O14 3 rfl
        have f14x3 := Own.free O14 3 rfl
        have l14x3 := Own.lt O14 3 rfl
        have l14x3d0 := le_up 0 l14x3
        have l14x3d1 := le_up 1 l14x3
        simp only [upN] at l14x3d0 l14x3d1
        have HO14 := Lib.hid O14
        clear O14 hb14
        go_upto_region 5 with (fail)
        refine wp_name fun wn5t hwn5t => ?_
        have hOwn5t := (show Own _ wn5t by rw [hwn5t]; exact (Own.set (Own.set (Own.set (Own.set HO14.out 1 rfl (Ne1.cons (by first | omega | (simp; omega)) (Ne1.cons (by first | omega | (simp; omega)) (Ne1.cons (by first | omega | (simp; omega)) Ne1.nil)))) 1 rfl (Ne1.cons (by first | omega | (simp; omega)) (Ne1.cons (by first | omega | (simp; omega)) (Ne1.cons (by first | omega | (simp; omega)) Ne1.nil)))) 1 rfl (Ne1.cons (by first | omega | (simp; omega)) (Ne1.cons (by first | omega | (simp; omega)) (Ne1.cons (by first | omega | (simp; omega)) Ne1.nil)))) 1 rfl (Ne1.cons (by first | omega | (simp; omega)) (Ne1.cons (by first | omega | (simp; omega)) (Ne1.cons (by first | omega | (simp; omega)) Ne1.nil)))))
        try simp only [List.setIfInBounds_toArray, List.set_cons_zero, List.set_cons_succ] at hOwn5t
        have hBwn5t : Below w.heap.size w wn5t := by rw [hwn5t]; go_grown
        clear hwn5t
        have bw15 := hBwn5t
        clear c14x0 f14x0 l14x0 l14x0d0 l14x0d1 c14x1 f14x1 l14x1 l14x1d0 l14x1d1 c14x2 f14x2 l14x2 l14x2d0 l14x2d1 c14x3 f14x3 l14x3 l14x3d0 l14x3d1
        have O15 := hOwn5t
        have c15x0 := Own.cell O15 0 rfl
        have f15x0 := Own.free O15 0 rfl
        have l15x0 := Own.lt O15 0 rfl
        have l15x0d0 := le_up 0 l15x0
        have l15x0d1 := le_up 1 l15x0
        simp only [upN] at l15x0d0 l15x0d1
        have c15x1 := Own.cell O15 1 rfl
        have f15x1 := Own.free O15 1 rfl
        have l15x1 := Own.lt O15 1 rfl
        have l15x1d0 := le_up 0 l15x1
        have l15x1d1 := le_up 1 l15x1
        simp only [upN] at l15x1d0 l15x1d1
        have c15x2 := Own.cell O15 2 rfl
        have f15x2 := Own.free O15 2 rfl
        have l15x2 := Own.lt O15 2 rfl
        have l15x2d0 := le_up 0 l15x2
        have l15x2d1 := le_up 1 l15x2
        simp only [upN] at l15x2d0 l15x2d1
        have c15x3 := Own.cell O15 3 rfl
        have f15x3 := Own.free O15 3 rfl
        have l15x3 := Own.lt O15 3 rfl
        have l15x3d0 := le_up 0 l15x3
        have l15x3d1 := le_up 1 l15x3
        simp only [upN] at l15x3d0 l15x3d1
        have HO15 := Lib.hid O15
        clear O15
        go_wp2_with fail
        refine (HSb.out _).mono ?_
        rintro e w16 ⟨rfl, hb16⟩
        have O16 := Own.grow' hb16 HO15.out
        try simp only [List.setIfInBounds_toArray, List.set_cons_zero, List.set_cons_succ] at O16
        have bw16 : Below w.heap.size w w16 := Below.trans (by go_grown) (Below.mono hb16 (by first | omega | (simp; done) | (simp; omega)))
        have zw16 := Below.size hb16
        try simp only [World.size_alloc, World.size_drew, World.size_setCell] at zw16
        clear c15x0 f15x0 l15x0 l15x0d0 l15x0d1 c15x1 f15x1 l15x1 l15x1d0 l15x1d1 c15x2 f15x2 l15x2 l15x2d0 l15x2d1 c15x3 f15x3 l15x3 l15x3d0 l15x3d1
        have c16x0 := Own.cell O16 0 rfl
        have f16x0 := Own.free O16 0 rfl
        have l16x0 := Own.lt O16 0 rfl
        have l16x0d0 := le_up 0 l16x0
        have l16x0d1 := le_up 1 l16x0
        simp only [upN] at l16x0d0 l16x0d1
        have c16x1 := Own.cell O16 1 rfl
        have f16x1 := Own.free O16 1 rfl
        have l16x1 := Own.lt O16 1 rfl
        have l16x1d0 := le_up 0 l16x1
        have l16x1d1 := le_up 1 l16x1
        simp only [upN] at l16x1d0 l16x1d1
        have c16x2 := Own.cell O16 2 rfl
        have f16x2 := Own.free O16 2 rfl
        have l16x2 := Own.lt O16 2 rfl
        have l16x2d0 := le_up 0 l16x2
        have l16x2d1 := le_up 1 l16x2
        simp only [upN] at l16x2d0 l16x2d1
        have c16x3 := Own.cell O16 3 rfl
        have f16x3 := Own.free O16 3 rfl
        have l16x3 := Own.lt O16 3 rfl
        have l16x3d0 := le_up 0 l16x3
        have l16x3d1 := le_up 1 l16x3
        simp only [upN] at l16x3d0 l16x3d1
        have HO16 := Lib.hid O16
        clear O16 hb16
        go_upto_region 7 with (fail)
        refine wp_name fun wn7t hwn7t => ?_
        have hOwn7t := (show Own _ wn7t by rw [hwn7t]; exact (Own.set (Own.set (Own.set (Own.set HO16.out 1 rfl (Ne1.cons (by first | omega | (simp; omega)) (Ne1.cons (by first | omega | (simp; omega)) (Ne1.cons (by first | omega | (simp; omega)) Ne1.nil)))) 1 rfl (Ne1.cons (by first | omega | (simp; omega)) (Ne1.cons (by first | omega | (simp; omega)) (Ne1.cons (by first | omega | (simp; omega)) Ne1.nil)))) 1 rfl (Ne1.cons (by first | omega | (simp; omega)) (Ne1.cons (by first | omega | (simp; omega)) (Ne1.cons (by first | omega | (simp; omega)) Ne1.nil)))) 1 rfl (Ne1.cons (by first | omega | (simp; omega)) (Ne1.cons (by first | omega | (simp; omega)) (Ne1.cons (by first | omega | (simp; omega)) Ne1.nil)))))
        try simp only [List.setIfInBounds_toArray, List.set_cons_zero, List.set_cons_succ] at hOwn7t
        have hBwn7t : Below w.heap.size w wn7t := by rw [hwn7t]; go_grown
        clear hwn7t
        have bw17 := hBwn7t
        clear c16x0 f16x0 l16x0 l16x0d0 l16x0d1 c16x1 f16x1 l16x1 l16x1d0 l16x1d1 c16x2 f16x2 l16x2 l16x2d0 l16x2d1 c16x3 f16x3 l16x3 l16x3d0 l16x3d1
        have O17 := hOwn7t
        have c17x0 := Own.cell O17 0 rfl
        have f17x0 := Own.free O17 0 rfl
        have l17x0 := Own.lt O17 0 rfl
        have l17x0d0 := le_up 0 l17x0
        have l17x0d1 := le_up 1 l17x0
        simp only [upN] at l17x0d0 l17x0d1
        have c17x1 := Own.cell O17 1 rfl
        have f17x1 := Own.free O17 1 rfl
        have l17x1 := Own.lt O17 1 rfl
        have l17x1d0 := le_up 0 l17x1
        have l17x1d1 := le_up 1 l17x1
        simp only [upN] at l17x1d0 l17x1d1
        have c17x2 := Own.cell O17 2 rfl
        have f17x2 := Own.free O17 2 rfl
        have l17x2 := Own.lt O17 2 rfl
        have l17x2d0 := le_up 0 l17x2
        have l17x2d1 := le_up 1 l17x2
        simp only [upN] at l17x2d0 l17x2d1
        have c17x3 := Own.cell O17 3 rfl
        have f17x3 := Own.free O17 3 rfl
        have l17x3 := Own.lt O17 3 rfl
        have l17x3d0 := le_up 0 l17x3
        have l17x3d1 := le_up 1 l17x3
        simp only [upN] at l17x3d0 l17x3d1
        have HO17 := Lib.hid O17
        clear O17
        go_wp2_with fail
        refine ⟨⟨2, by omega, rfl, ?_, by go_grown⟩, by simp [intOf]⟩
        dsimp only [sgB, sgO]; exact Own.eqv (Own.tl HO17.out) (by first | rfl | simp only [List.setIfInBounds_toArray, List.set_cons_zero, List.set_cons_succ])
end Go.Proofs.Ytjmaigienigpnaa
