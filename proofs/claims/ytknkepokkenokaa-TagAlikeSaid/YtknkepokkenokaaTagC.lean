/- Walks of package tag: Join. -/
import Derived.Test.YtknkepokkenokaaTagB
import Derived.Test.YtknkepokkenokaaReg
set_option linter.unusedVariables false
set_option linter.unusedSimpArgs false
namespace Go.Proofs.Ytknkepokkenokaa
open Go.RowKit

theorem join_blk {w : World} {b : Nat} {t : TypeId} (x y : Int) (hb : Blk w b #[.int .u64 x, .int .u64 y] t) :
    Calls Try.prog 40 #[.slice (some ⟨b, 0, none⟩) 2 2] w fun e w' => e = .returned (.int .u64 (orI (orI 0 x) y)) ∧ Below w.heap.size w w' :=
  (joinL_any (some ⟨b, 0, none⟩) [x, y] 2 w (SlAt.of_blk hb) (by simp) (by simp)).mono fun e w' he => ⟨he.1, he.2 ▸ Below.refl _ _⟩
set_option maxHeartbeats 1000000 in
set_option maxRecDepth 20000 in
theorem join1c_any (b : Nat) (x y a : Int) (w : World) (hc : w.cell? ⟨b, 0, none⟩ = some (.int .u64 a)) :
    Calls Try.prog 39 #[.agg #[.int .u8 x, .int .u64 y], .pointer (some ⟨b, 0, none⟩)] w fun e w' => e = .returned (.agg #[.int .u8 x, .int .u64 (orI (orI 0 y) a)]) ∧ Below w.heap.size w w' := by
  have hlt : b < w.heap.size := World.block_lt_of_cell? w ⟨b, 0, none⟩ hc
  go_enter Try.func39, Try.ntmps39
  go_wp2_with fail
  refine wp_region_grow w.heap.size 8 0 32 [(0, 0, 16, 4), (1, 1, 32, 16), (2, 0, 64, 4), (3, 4, 128, 64), (4, 0, 256, 2), (5, 24, 512, 384), (6, 32, 1024, 512), (7, 66, 2048, 1056), (8, 255, 0, 2056)] [(.p 0, 1), (.p 1, 3), (.p 2, 7), (.p 3, 15), (.q 4, 31), (.g 5, 63), (.q 6, 127), (.p 7, 255)] [(8, 511)] _ (fun p hp => hp) (by first | omega | (simp; done) | (simp; omega)) (by kernel_rfl) (by kernel_rfl) (Own.new (Own.new (Own.nil w) (w.heap.size) rfl) (w.heap.size + 1) (by simp)) ?_
  refine wpG_pure (i := 0) (v := ?v1x0) rfl rfl (by rfl) (fun w hB hG K hK => ?h1x0) ?_
  case h1x0 =>
    go_wp2_with fail
    exact hK _ (Below.refl _ _)
  simp only [List.set_cons_zero, List.set_cons_succ]
  refine wpG_pure (i := 1) (v := ?v1x1) rfl rfl (by rfl) (fun w hB hG K hK => ?h1x1) ?_
  case h1x1 =>
    have cx := hG.cell 1 rfl
    go_wp2_with fail
    exact hK _ (Below.refl _ _)
  simp only [List.set_cons_zero, List.set_cons_succ]
  refine wpG_pure (i := 2) (v := ?v1x2) rfl rfl (by rfl) (fun w hB hG K hK => ?h1x2) ?_
  case h1x2 =>
    go_wp2_with fail
    exact hK _ (Below.refl _ _)
  simp only [List.set_cons_zero, List.set_cons_succ]
  refine wpG_pure (i := 3) (v := ?v1x3) rfl rfl (by rfl) (fun w hB hG K hK => ?h1x3) ?_
  case h1x3 =>
    have cx := hG.cell 1 rfl
    go_wp2_with fail
    exact hK _ (Below.refl _ _)
  simp only [List.set_cons_zero, List.set_cons_succ]
  refine wpG_op (i := 4) (v := ?v1x4) rfl rfl (by rfl) (fun w hB hG K hK => ?h1x4) ?_
  case h1x4 =>
    have hcx := (hB.cell (p := ⟨b, 0, none⟩) hlt).trans (drewc (kept (World.below_alloc _ _) (kept (World.below_alloc _ _) hc)))
    go_wp2_with fail
    exact hK _ (Below.refl _ _)
  simp only [List.set_cons_zero, List.set_cons_succ]
  refine wpG_make (i := 5) (c := ?c1x5) (t := ?t1x5) (fun b => .slice (some ⟨b, 0, none⟩) 2 2) rfl rfl (by rfl) (fun w hB hG K hK => ?h1x5) (fun v1g1 l1g1 n1g1 => ?_)
  case h1x5 =>
    go_wp2_with fail
    exact hK
  simp only [List.set_cons_zero, List.set_cons_succ]
  try simp only [World.size_alloc, World.size_drew, World.size_setCell] at l1g1
  clear n1g1
  refine wpG_op (i := 6) (v := ?v1x6) rfl rfl (by rfl) (fun w hB hG K hK => ?h1x6) ?_
  case h1x6 =>
    go_wp2_with fail
    refine (join_blk _ _ (hG.get 0 rfl)).mono ?_
    rintro e wx ⟨rfl, hbx⟩
    exact hK _ hbx
  simp only [List.set_cons_zero, List.set_cons_succ]
  refine wpG_pure (i := 7) (v := ?v1x7) rfl rfl (by rfl) (fun w hB hG K hK => ?h1x7) ?_
  case h1x7 =>
    go_wp2_with fail
    exact hK _ (Below.refl _ _)
  simp only [List.set_cons_zero, List.set_cons_succ]
  refine wpG_nil (fun w1 hb1 hG1 => ?_)
  simp only [List.append_eq, List.cons_append, List.nil_append, List.drop_succ_cons, List.drop_zero, List.drop_nil]
  have u1g1 := Own.lt hG1 0 rfl
  have O1 := Own.of hG1
  try simp only [List.setIfInBounds_toArray, List.set_cons_zero, List.set_cons_succ] at O1
  have bw1 : Below w.heap.size w w1 := Below.trans (by go_grown) (Below.mono hb1 (by first | omega | (simp; done) | (simp; omega)))
  have zw1 := Below.size hb1
  try simp only [World.size_alloc, World.size_drew, World.size_setCell] at zw1
  have c1x0 := O1.cell 0 rfl
  have f1x0 := O1.free 0 rfl
  have l1x0 := O1.lt 0 rfl
  have l1x0d0 := le_up 0 l1x0
  have l1x0d1 := le_up 1 l1x0
  simp only [upN] at l1x0d0 l1x0d1
  have c1x1 := O1.cell 1 rfl
  have f1x1 := O1.free 1 rfl
  have l1x1 := O1.lt 1 rfl
  have l1x1d0 := le_up 0 l1x1
  have l1x1d1 := le_up 1 l1x1
  simp only [upN] at l1x1d0 l1x1d1
  have c1x2 := O1.cell 2 rfl
  have f1x2 := O1.free 2 rfl
  have l1x2 := O1.lt 2 rfl
  have l1x2d0 := le_up 0 l1x2
  have l1x2d1 := le_up 1 l1x2
  simp only [upN] at l1x2d0 l1x2d1
  have HO1 := Lib.hid O1
  clear O1 hb1
  go_wp2_with fail
  refine bodyPost_ret (v := .agg #[.int .u8 x, .int .u64 (orI (orI 0 y) a)]) (by simp [results, Try.results39, go_sem, *]) rfl ?_
  exact ⟨rfl, by go_grown⟩

end Go.Proofs.Ytknkepokkenokaa
