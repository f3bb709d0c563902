/- Signed quotients, and what is left. No condition. -/
import Derived.Test.YtjmaigienigpnaaSpH
set_option linter.unusedVariables false
set_option linter.unusedSimpArgs false
namespace Go.Proofs.Ytjmaigienigpnaa
open Go.RowKit

def sdivW (a b : BitVec 256) : BitVec 256 := if (a.getLsbD 255 != b.getLsbD 255) then 0#256 - divW (absW a) (absW b) else divW (absW a) (absW b)
def smodW (a b : BitVec 256) : BitVec 256 := if a.getLsbD 255 then 0#256 - modW (absW a) (absW b) else modW (absW a) (absW b)
theorem eqSigns (na nb : Bool) (V : World) : (Op.equalIn 10000 61 (.agg #[.bool na, .bool nb]) (.agg #[.bool na, .bool na])).run Try.prog V = .ok (na == nb) V := by
  cases na <;> cases nb <;> kernel_rfl
set_option maxRecDepth 20000 in
set_option maxHeartbeats 2000000 in
theorem sdiv_any (a b : BitVec 256) (w : World)  : Calls Try.prog 21 #[W a, W b] w fun e w' => e = .returned (W (sdivW a b)) ∧ Below w.heap.size w w' := by
  have HSG := Lib.hid (fun bl t V hl => signedW a b bl t V hl)
  have HD := Lib.hid (fun V => divW_any (absW a) (absW b) V)
  unfold sdivW
  generalize a.getLsbD 255 = na at *
  generalize b.getLsbD 255 = nb at *
  generalize divW (absW a) (absW b) = q at *
  generalize absW a = xa at *
  generalize absW b = xb at *
  have heq := eqSigns na nb
  have ht := fun V => turnedW q (na != nb) V
  generalize (if (na != nb) then 0#256 - q else q) = r at *
  have HT := Lib.hid ht
  clear ht
  go_enter Try.func21, Try.ntmps21
  go_wp2_with fail
  refine (HSG.out _ _ _ (Own.get (Own.new (Own.new (Own.new (Own.new (Own.nil w) (w.heap.size) (by first | rfl | simp)) (w.heap.size + 1) (by simp)) (w.heap.size + 1 + 1) (by simp)) (w.heap.size + 1 + 1 + 1) (by simp)) 0 rfl)).mono ?_
  rintro e w1 ⟨rfl, hb1⟩
  have O1 := Own.grow' hb1 (Own.new (Own.new (Own.new (Own.new (Own.nil w) (w.heap.size) (by first | rfl | simp)) (w.heap.size + 1) (by simp)) (w.heap.size + 1 + 1) (by simp)) (w.heap.size + 1 + 1 + 1) (by simp))
  try simp only [List.setIfInBounds_toArray, List.set_cons_zero, List.set_cons_succ] at O1
  have bw1 : Below w.heap.size w w1 := Below.trans (by go_grown) (Below.mono hb1 (by first | omega | (simp; done) | (simp; omega)))
  have zw1 := Below.size hb1
  try simp only [World.size_alloc, World.size_drew, World.size_setCell] at zw1
  have c1x0 := Own.cell O1 0 rfl
  have f1x0 := Own.free O1 0 rfl
  have l1x0 := Own.lt O1 0 rfl
  have l1x0d0 := le_up 0 l1x0
  have l1x0d1 := le_up 1 l1x0
  simp only [upN] at l1x0d0 l1x0d1
  have c1x1 := Own.cell O1 1 rfl
  have f1x1 := Own.free O1 1 rfl
  have l1x1 := Own.lt O1 1 rfl
  have l1x1d0 := le_up 0 l1x1
  have l1x1d1 := le_up 1 l1x1
  simp only [upN] at l1x1d0 l1x1d1
  have c1x2 := Own.cell O1 2 rfl
  have f1x2 := Own.free O1 2 rfl
  have l1x2 := Own.lt O1 2 rfl
  have l1x2d0 := le_up 0 l1x2
  have l1x2d1 := le_up 1 l1x2
  simp only [upN] at l1x2d0 l1x2d1
  have c1x3 := Own.cell O1 3 rfl
  have f1x3 := Own.free O1 3 rfl
  have l1x3 := Own.lt O1 3 rfl
  have l1x3d0 := le_up 0 l1x3
  have l1x3d1 := le_up 1 l1x3
  simp only [upN] at l1x3d0 l1x3d1
  have HO1 := Lib.hid O1
  clear O1 hb1
  go_wp2_with fail
  refine wp_region_grow w.heap.size 13 0 0 [(0, 0, 16384, 64), (1, 1, 32768, 16384), (2, 0, 65536, 64), (3, 4, 131072, 65536), (4, 10, 262144, 163840), (5, 0, 524288, 32), (6, 0, 1048576, 32), (7, 64, 2097152, 1048576), (8, 0, 4194304, 32), (9, 256, 8388608, 4194304), (10, 640, 16777216, 10485760), (11, 1056, 33554432, 17301504), (12, 2064, 67108864, 33816576), (13, 8191, 0, 67108880)] [(.p 0, 1), (.p 1, 3), (.p 2, 7), (.p 3, 15), (.p 4, 31), (.p 5, 63), (.p 6, 127), (.p 7, 255), (.p 8, 511), (.p 9, 1023), (.p 10, 2047), (.p 11, 4095), (.p 12, 8191)] [(13, 16383)] _ (fun p hp => hp) (by first | omega | (simp; done) | (simp; omega)) (by kernel_rfl) (by kernel_rfl) (Own.new (Own.new HO1.out (w1.heap.size) (by first | rfl | simp)) (w1.heap.size + 1) (by simp)) ?_
  refine wpG_pure (i := 0) (v := ?v2x0) rfl rfl (by rfl) (fun w hB hG K hK => ?h2x0) ?_
  case h2x0 =>
    go_wp2_with fail
    exact hK _ (Below.refl _ _)
  simp only [List.set_cons_zero, List.set_cons_succ]
  refine wpG_pure (i := 1) (v := ?v2x1) rfl rfl (by rfl) (fun w hB hG K hK => ?h2x1) ?_
  case h2x1 =>
    have cx := Own.cell hG 0 rfl
    go_wp2_with fail
    exact hK _ (Below.refl _ _)
  simp only [List.set_cons_zero, List.set_cons_succ]
  refine wpG_pure (i := 2) (v := ?v2x2) rfl rfl (by rfl) (fun w hB hG K hK => ?h2x2) ?_
  case h2x2 =>
    go_wp2_with fail
    exact hK _ (Below.refl _ _)
  simp only [List.set_cons_zero, List.set_cons_succ]
  refine wpG_pure (i := 3) (v := ?v2x3) rfl rfl (by rfl) (fun w hB hG K hK => ?h2x3) ?_
  case h2x3 =>
    have cx := Own.cell hG 0 rfl
    go_wp2_with fail
    exact hK _ (Below.refl _ _)
  simp only [List.set_cons_zero, List.set_cons_succ]
  refine wpG_pure (i := 4) (v := ?v2x4) rfl rfl (by rfl) (fun w hB hG K hK => ?h2x4) ?_
  case h2x4 =>
    go_wp2_with fail
    refine (HD.out _).mono ?_
    rintro e wx ⟨rfl, hbx⟩
    exact hK _ hbx
  simp only [List.set_cons_zero, List.set_cons_succ]
  refine wpG_pure (i := 5) (v := ?v2x5) rfl rfl (by rfl) (fun w hB hG K hK => ?h2x5) ?_
  case h2x5 =>
    have cx := Own.cell hG 1 rfl
    go_wp2_with fail
    exact hK _ (Below.refl _ _)
  simp only [List.set_cons_zero, List.set_cons_succ]
  refine wpG_pure (i := 6) (v := ?v2x6) rfl rfl (by rfl) (fun w hB hG K hK => ?h2x6) ?_
  case h2x6 =>
    go_wp2_with fail
    exact hK _ (Below.refl _ _)
  simp only [List.set_cons_zero, List.set_cons_succ]
  refine wpG_pure (i := 7) (v := ?v2x7) rfl rfl (by rfl) (fun w hB hG K hK => ?h2x7) ?_
  case h2x7 =>
    have cx := Own.cell hG 1 rfl
    go_wp2_with fail
    exact hK _ (Below.refl _ _)
  simp only [List.set_cons_zero, List.set_cons_succ]
  refine wpG_pure (i := 8) (v := ?v2x8) rfl rfl (by rfl) (fun w hB hG K hK => ?h2x8) ?_
  case h2x8 =>
    go_wp2_with fail
    exact hK _ (Below.refl _ _)
  simp only [List.set_cons_zero, List.set_cons_succ]
  refine wpG_pure (i := 9) (v := ?v2x9) rfl rfl (by rfl) (fun w hB hG K hK => ?h2x9) ?_
  case h2x9 =>
    have cx := Own.cell hG 1 rfl
    go_wp2_with fail
    exact hK _ (Below.refl _ _)
  simp only [List.set_cons_zero, List.set_cons_succ]
  refine wpG_pure (i := 10) (v := ?v2x10) rfl rfl (by rfl) (fun w hB hG K hK => ?h2x10) ?_
  case h2x10 =>
    go_wp2_with fail
    exact hK _ (Below.refl _ _)
  simp only [List.set_cons_zero, List.set_cons_succ]
  refine wpG_pure (i := 11) (v := ?v2x11) rfl rfl (by rfl) (fun w hB hG K hK => ?h2x11) ?_
  case h2x11 =>
    go_wp2_with fail
    exact hK _ (Below.refl _ _)
  simp only [List.set_cons_zero, List.set_cons_succ]
  refine wpG_pure (i := 12) (v := ?v2x12) rfl rfl (by rfl) (fun w hB hG K hK => ?h2x12) ?_
  case h2x12 =>
    go_wp2_with fail
    refine (HT.out _).mono ?_
    rintro e wx ⟨rfl, hbx⟩
    exact hK _ hbx
  simp only [List.set_cons_zero, List.set_cons_succ]
  refine wpG_nil (fun w2 hb2 hG2 => ?_)
  simp only [List.append_eq, List.cons_append, List.nil_append, List.drop_succ_cons, List.drop_zero, List.drop_nil]
  have O2 := Own.of hG2
  try simp only [List.setIfInBounds_toArray, List.set_cons_zero, List.set_cons_succ] at O2
  have bw2 : Below w.heap.size w w2 := Below.trans (by go_grown) (Below.mono hb2 (by first | omega | (simp; done) | (simp; omega)))
  have zw2 := Below.size hb2
  try simp only [World.size_alloc, World.size_drew, World.size_setCell] at zw2
  clear c1x0 f1x0 l1x0 l1x0d0 l1x0d1 c1x1 f1x1 l1x1 l1x1d0 l1x1d1 c1x2 f1x2 l1x2 l1x2d0 l1x2d1 c1x3 f1x3 l1x3 l1x3d0 l1x3d1
  have c2x0 := Own.cell O2 0 rfl
  have f2x0 := Own.free O2 0 rfl
  have l2x0 := Own.lt O2 0 rfl
  have l2x0d0 := le_up 0 l2x0
  have l2x0d1 := le_up 1 l2x0
  simp only [upN] at l2x0d0 l2x0d1
  have c2x1 := Own.cell O2 1 rfl
  have f2x1 := Own.free O2 1 rfl
  have l2x1 := Own.lt O2 1 rfl
  have l2x1d0 := le_up 0 l2x1
  have l2x1d1 := le_up 1 l2x1
  simp only [upN] at l2x1d0 l2x1d1
  have c2x2 := Own.cell O2 2 rfl
  have f2x2 := Own.free O2 2 rfl
  have l2x2 := Own.lt O2 2 rfl
  have l2x2d0 := le_up 0 l2x2
  have l2x2d1 := le_up 1 l2x2
  simp only [upN] at l2x2d0 l2x2d1
  have c2x3 := Own.cell O2 3 rfl
  have f2x3 := Own.free O2 3 rfl
  have l2x3 := Own.lt O2 3 rfl
  have l2x3d0 := le_up 0 l2x3
  have l2x3d1 := le_up 1 l2x3
  simp only [upN] at l2x3d0 l2x3d1
  have c2x4 := Own.cell O2 4 rfl
  have f2x4 := Own.free O2 4 rfl
  have l2x4 := Own.lt O2 4 rfl
  have l2x4d0 := le_up 0 l2x4
  have l2x4d1 := le_up 1 l2x4
  simp only [upN] at l2x4d0 l2x4d1
  have c2x5 := Own.cell O2 5 rfl
  have f2x5 := Own.free O2 5 rfl
  have l2x5 := Own.lt O2 5 rfl
  have l2x5d0 := le_up 0 l2x5
  have l2x5d1 := le_up 1 l2x5
  simp only [upN] at l2x5d0 l2x5d1
  have HO2 := Lib.hid O2
  clear O2 hb2
  go_wp2_with fail
  refine bodyPost_ret (v := W r) (by simp [results, Try.results21, go_sem, *]) rfl ?_
  exact ⟨rfl, by go_grown⟩
set_option maxRecDepth 20000 in
set_option maxHeartbeats 2000000 in
theorem smod_any (a b : BitVec 256) (w : World)  : Calls Try.prog 22 #[W a, W b] w fun e w' => e = .returned (W (smodW a b)) ∧ Below w.heap.size w w' := by
  have HSG := Lib.hid (fun bl t V hl => signedW a b bl t V hl)
  have HD := Lib.hid (fun V => modW_any (absW a) (absW b) V)
  unfold smodW
  generalize a.getLsbD 255 = na at *
  generalize b.getLsbD 255 = nb at *
  generalize modW (absW a) (absW b) = q at *
  generalize absW a = xa at *
  generalize absW b = xb at *
  have ht := fun V => turnedW q na V
  generalize (if na then 0#256 - q else q) = r at *
  have HT := Lib.hid ht
  clear ht
  go_enter Try.func22, Try.ntmps22
  go_wp2_with fail
  refine (HSG.out _ _ _ (Own.get (Own.new (Own.new (Own.new (Own.new (Own.nil w) (w.heap.size) (by first | rfl | simp)) (w.heap.size + 1) (by simp)) (w.heap.size + 1 + 1) (by simp)) (w.heap.size + 1 + 1 + 1) (by simp)) 0 rfl)).mono ?_
  rintro e w1 ⟨rfl, hb1⟩
  have O1 := Own.grow' hb1 (Own.new (Own.new (Own.new (Own.new (Own.nil w) (w.heap.size) (by first | rfl | simp)) (w.heap.size + 1) (by simp)) (w.heap.size + 1 + 1) (by simp)) (w.heap.size + 1 + 1 + 1) (by simp))
  try simp only [List.setIfInBounds_toArray, List.set_cons_zero, List.set_cons_succ] at O1
  have bw1 : Below w.heap.size w w1 := Below.trans (by go_grown) (Below.mono hb1 (by first | omega | (simp; done) | (simp; omega)))
  have zw1 := Below.size hb1
  try simp only [World.size_alloc, World.size_drew, World.size_setCell] at zw1
  have c1x0 := Own.cell O1 0 rfl
  have f1x0 := Own.free O1 0 rfl
  have l1x0 := Own.lt O1 0 rfl
  have l1x0d0 := le_up 0 l1x0
  have l1x0d1 := le_up 1 l1x0
  simp only [upN] at l1x0d0 l1x0d1
  have c1x1 := Own.cell O1 1 rfl
  have f1x1 := Own.free O1 1 rfl
  have l1x1 := Own.lt O1 1 rfl
  have l1x1d0 := le_up 0 l1x1
  have l1x1d1 := le_up 1 l1x1
  simp only [upN] at l1x1d0 l1x1d1
  have c1x2 := Own.cell O1 2 rfl
  have f1x2 := Own.free O1 2 rfl
  have l1x2 := Own.lt O1 2 rfl
  have l1x2d0 := le_up 0 l1x2
  have l1x2d1 := le_up 1 l1x2
  simp only [upN] at l1x2d0 l1x2d1
  have c1x3 := Own.cell O1 3 rfl
  have f1x3 := Own.free O1 3 rfl
  have l1x3 := Own.lt O1 3 rfl
  have l1x3d0 := le_up 0 l1x3
  have l1x3d1 := le_up 1 l1x3
  simp only [upN] at l1x3d0 l1x3d1
  have HO1 := Lib.hid O1
  clear O1 hb1
  go_wp2_with fail
  refine wp_region_grow w.heap.size 8 0 0 [(0, 0, 16384, 64), (1, 1, 32768, 16384), (2, 0, 65536, 64), (3, 4, 131072, 65536), (4, 10, 262144, 163840), (5, 0, 524288, 32), (6, 32, 1048576, 524288), (7, 80, 2097152, 1310720), (8, 255, 0, 2097168)] [(.p 0, 1), (.p 1, 3), (.p 2, 7), (.p 3, 15), (.p 4, 31), (.p 5, 63), (.p 6, 127), (.p 7, 255)] [(8, 511)] _ (fun p hp => hp) (by first | omega | (simp; done) | (simp; omega)) (by kernel_rfl) (by kernel_rfl) (Own.new (Own.new HO1.out (w1.heap.size) (by first | rfl | simp)) (w1.heap.size + 1) (by simp)) ?_
  refine wpG_pure (i := 0) (v := ?v2x0) rfl rfl (by rfl) (fun w hB hG K hK => ?h2x0) ?_
  case h2x0 =>
    go_wp2_with fail
    exact hK _ (Below.refl _ _)
  simp only [List.set_cons_zero, List.set_cons_succ]
  refine wpG_pure (i := 1) (v := ?v2x1) rfl rfl (by rfl) (fun w hB hG K hK => ?h2x1) ?_
  case h2x1 =>
    have cx := Own.cell hG 0 rfl
    go_wp2_with fail
    exact hK _ (Below.refl _ _)
  simp only [List.set_cons_zero, List.set_cons_succ]
  refine wpG_pure (i := 2) (v := ?v2x2) rfl rfl (by rfl) (fun w hB hG K hK => ?h2x2) ?_
  case h2x2 =>
    go_wp2_with fail
    exact hK _ (Below.refl _ _)
  simp only [List.set_cons_zero, List.set_cons_succ]
  refine wpG_pure (i := 3) (v := ?v2x3) rfl rfl (by rfl) (fun w hB hG K hK => ?h2x3) ?_
  case h2x3 =>
    have cx := Own.cell hG 0 rfl
    go_wp2_with fail
    exact hK _ (Below.refl _ _)
  simp only [List.set_cons_zero, List.set_cons_succ]
  refine wpG_pure (i := 4) (v := ?v2x4) rfl rfl (by rfl) (fun w hB hG K hK => ?h2x4) ?_
  case h2x4 =>
    go_wp2_with fail
    refine (HD.out _).mono ?_
    rintro e wx ⟨rfl, hbx⟩
    exact hK _ hbx
  simp only [List.set_cons_zero, List.set_cons_succ]
  refine wpG_pure (i := 5) (v := ?v2x5) rfl rfl (by rfl) (fun w hB hG K hK => ?h2x5) ?_
  case h2x5 =>
    go_wp2_with fail
    exact hK _ (Below.refl _ _)
  simp only [List.set_cons_zero, List.set_cons_succ]
  refine wpG_pure (i := 6) (v := ?v2x6) rfl rfl (by rfl) (fun w hB hG K hK => ?h2x6) ?_
  case h2x6 =>
    have cx := Own.cell hG 1 rfl
    go_wp2_with fail
    exact hK _ (Below.refl _ _)
  simp only [List.set_cons_zero, List.set_cons_succ]
  refine wpG_pure (i := 7) (v := ?v2x7) rfl rfl (by rfl) (fun w hB hG K hK => ?h2x7) ?_
  case h2x7 =>
    go_wp2_with fail
    refine (HT.out _).mono ?_
    rintro e wx ⟨rfl, hbx⟩
    exact hK _ hbx
  simp only [List.set_cons_zero, List.set_cons_succ]
  refine wpG_nil (fun w2 hb2 hG2 => ?_)
  simp only [List.append_eq, List.cons_append, List.nil_append, List.drop_succ_cons, List.drop_zero, List.drop_nil]
  have O2 := Own.of hG2
  try simp only [List.setIfInBounds_toArray, List.set_cons_zero, List.set_cons_succ] at O2
  have bw2 : Below w.heap.size w w2 := Below.trans (by go_grown) (Below.mono hb2 (by first | omega | (simp; done) | (simp; omega)))
  have zw2 := Below.size hb2
  try simp only [World.size_alloc, World.size_drew, World.size_setCell] at zw2
  clear c1x0 f1x0 l1x0 l1x0d0 l1x0d1 c1x1 f1x1 l1x1 l1x1d0 l1x1d1 c1x2 f1x2 l1x2 l1x2d0 l1x2d1 c1x3 f1x3 l1x3 l1x3d0 l1x3d1
  have c2x0 := Own.cell O2 0 rfl
  have f2x0 := Own.free O2 0 rfl
  have l2x0 := Own.lt O2 0 rfl
  have l2x0d0 := le_up 0 l2x0
  have l2x0d1 := le_up 1 l2x0
  simp only [upN] at l2x0d0 l2x0d1
  have c2x1 := Own.cell O2 1 rfl
  have f2x1 := Own.free O2 1 rfl
  have l2x1 := Own.lt O2 1 rfl
  have l2x1d0 := le_up 0 l2x1
  have l2x1d1 := le_up 1 l2x1
  simp only [upN] at l2x1d0 l2x1d1
  have c2x2 := Own.cell O2 2 rfl
  have f2x2 := Own.free O2 2 rfl
  have l2x2 := Own.lt O2 2 rfl
  have l2x2d0 := le_up 0 l2x2
  have l2x2d1 := le_up 1 l2x2
  simp only [upN] at l2x2d0 l2x2d1
  have c2x3 := Own.cell O2 3 rfl
  have f2x3 := Own.free O2 3 rfl
  have l2x3 := Own.lt O2 3 rfl
  have l2x3d0 := le_up 0 l2x3
  have l2x3d1 := le_up 1 l2x3
  simp only [upN] at l2x3d0 l2x3d1
  have c2x4 := Own.cell O2 4 rfl
  have f2x4 := Own.free O2 4 rfl
  have l2x4 := Own.lt O2 4 rfl
  have l2x4d0 := le_up 0 l2x4
  have l2x4d1 := le_up 1 l2x4
  simp only [upN] at l2x4d0 l2x4d1
  have c2x5 := Own.cell O2 5 rfl
  have f2x5 := Own.free O2 5 rfl
  have l2x5 := Own.lt O2 5 rfl
  have l2x5d0 := le_up 0 l2x5
  have l2x5d1 := le_up 1 l2x5
  simp only [upN] at l2x5d0 l2x5d1
  have HO2 := Lib.hid O2
  clear O2 hb2
  go_wp2_with fail
  refine bodyPost_ret (v := W r) (by simp [results, Try.results22, go_sem, *]) rfl ?_
  exact ⟨rfl, by go_grown⟩
set_option maxRecDepth 20000 in
set_option maxHeartbeats 2000000 in
theorem refsdiv_n (a b : BitVec 256) (w : World) (h : (a.getLsbD 255 != b.getLsbD 255) = true) : Calls Try.prog 24 #[W a, W b] w fun e w' => e = .returned (W (sdivW a b)) ∧ Below w.heap.size w w' := by
  have HA := Lib.hid (fun V => refAbsW a V)
  have HB := Lib.hid (fun V => refAbsW b V)
  have HD := Lib.hid (fun V => refDivideW (absW a) (absW b) V)
  have HNa := Lib.hid (fun V => refNegW a V)
  have HNb := Lib.hid (fun V => refNegW b V)
  unfold sdivW
  generalize a.getLsbD 255 = na at *
  generalize b.getLsbD 255 = nb at *
  generalize divW (absW a) (absW b) = q at *
  generalize modW (absW a) (absW b) = q' at *
  generalize absW a = xa at *
  generalize absW b = xb at *
  have HS := Lib.hid (fun V => refSubZ q V)
  rw [h]
  have hx : (na != nb) = true := h
  have hx2 : (!na == nb) = true := by revert h; cases na <;> cases nb <;> decide
  go_enter Try.func24, Try.ntmps24
  go_wp2_with fail
  refine wp_region_grow w.heap.size 12 3072 768 [(0, 0, 256, 4), (1, 1, 512, 256), (2, 0, 1024, 8), (3, 6, 2048, 1024), (4, 10, 4096, 2560), (5, 16, 128, 4096), (6, 32, 8192, 128), (7, 32, 16384, 128), (8, 0, 32, 0), (9, 0, 64, 0), (10, 895, 0, 8224), (11, 2047, 0, 16448)] [(.p 0, 1), (.p 1, 3), (.p 2, 7), (.p 3, 15), (.p 4, 31), (.p 5, 63), (.p 6, 127), (.p 7, 255), (.gg 8 9, 1023), (.c 10, 2047), (.c 11, 4095)] [] _ (fun p hp => hp) (by first | omega | (simp; done) | (simp; omega)) (by kernel_rfl) (by kernel_rfl) (Own.new (Own.new (Own.new (Own.nil w) (w.heap.size) (by first | rfl | simp)) (w.heap.size + 1) (by simp)) (w.heap.size + 1 + 1) (by simp)) ?_
  refine wpG_pure (i := 0) (v := ?v1x0) rfl rfl (by rfl) (fun w hB hG K hK => ?h1x0) ?_
  case h1x0 =>
    have cx := Own.cell hG 2 rfl
    go_wp2_with fail
    exact hK _ (Below.refl _ _)
  simp only [List.set_cons_zero, List.set_cons_succ]
  refine wpG_pure (i := 1) (v := ?v1x1) rfl rfl (by rfl) (fun w hB hG K hK => ?h1x1) ?_
  case h1x1 =>
    go_wp2_with fail
    refine (HA.out _).mono ?_
    rintro e wx ⟨rfl, hbx⟩
    exact hK _ hbx
  simp only [List.set_cons_zero, List.set_cons_succ]
  refine wpG_pure (i := 2) (v := ?v1x2) rfl rfl (by rfl) (fun w hB hG K hK => ?h1x2) ?_
  case h1x2 =>
    have cx := Own.cell hG 1 rfl
    go_wp2_with fail
    exact hK _ (Below.refl _ _)
  simp only [List.set_cons_zero, List.set_cons_succ]
  refine wpG_pure (i := 3) (v := ?v1x3) rfl rfl (by rfl) (fun w hB hG K hK => ?h1x3) ?_
  case h1x3 =>
    go_wp2_with fail
    refine (HB.out _).mono ?_
    rintro e wx ⟨rfl, hbx⟩
    exact hK _ hbx
  simp only [List.set_cons_zero, List.set_cons_succ]
  refine wpG_pure (i := 4) (v := ?v1x4) rfl rfl (by rfl) (fun w hB hG K hK => ?h1x4) ?_
  case h1x4 =>
    go_wp2_with fail
    refine (HD.out _).mono ?_
    rintro e wx ⟨rfl, hbx⟩
    exact hK _ hbx
  simp only [List.set_cons_zero, List.set_cons_succ]
  refine wpG_move (i := 5) rfl rfl rfl (by rfl) rfl ?_
  simp only [List.set_cons_zero, List.set_cons_succ]
  refine wpG_pure (i := 6) (v := ?v1x6) rfl rfl (by rfl) (fun w hB hG K hK => ?h1x6) ?_
  case h1x6 =>
    go_wp2_with fail
    exact hK _ (Below.refl _ _)
  simp only [List.set_cons_zero, List.set_cons_succ]
  refine wpG_pure (i := 7) (v := ?v1x7) rfl rfl (by rfl) (fun w hB hG K hK => ?h1x7) ?_
  case h1x7 =>
    go_wp2_with fail
    exact hK _ (Below.refl _ _)
  simp only [List.set_cons_zero, List.set_cons_succ]
  refine wpG_pair (i := 8) (j := 9) (c := ?c1x8) (t := ?t1x8) (c2 := ?c1x9) (t2 := ?t1x9) (fun b => .pointer (some ⟨b, 0, none⟩)) (fun b => .pointer (some ⟨b, 0, none⟩)) rfl rfl rfl rfl (by rfl) (by rfl) (fun w hB hG K hK => ?h1x8) (fun w hB hG K hK => ?h1x9) (fun v1g1 v1g2 l1g1 l1g2 n1g1 _ _ => ?_)
  case h1x8 =>
    go_wp2_with fail
    exact hK
  case h1x9 =>
    go_wp2_with fail
    exact hK
  simp only [List.set_cons_zero, List.set_cons_succ]
  try simp only [World.size_alloc, World.size_drew, World.size_setCell] at l1g1
  try simp only [World.size_alloc, World.size_drew, World.size_setCell] at l1g2
  refine wpG_store (i := 10) (c' := ?c1x10) 1 rfl (Ne1.cons (by first | omega | (simp; omega)) (Ne1.cons (by first | omega | (simp; omega)) (Ne1.cons (by first | omega | (simp; omega)) (Ne1.cons (by first | omega | (simp; omega)) Ne1.nil)))) (by first | omega | (simp; omega)) (fun p hp => List.mem_cons_of_mem _ (List.mem_cons_of_mem _ (hp))) rfl rfl (by rfl) (fun w hB hF hG K hK => ?h1x10) ?_
  case h1x10 =>
    have cx := hF.cell
    have fx := hF.free
    go_wp2_with fail
    refine hK _ (Same.set (Same.set (Same.set (Same.set (Same.refl _ _) _ _) _ _) _ _) _ _) ?_
    exact (Blk.set (Blk.set (Blk.set (Blk.set hF _ _) _ _) _ _) _ _)
  simp only [List.set_cons_zero, List.set_cons_succ, List.setIfInBounds_toArray]
  refine wpG_store (i := 11) (c' := ?c1x11) 0 rfl (Ne1.cons (by first | omega | (simp; omega)) (Ne1.cons (by first | omega | (simp; omega)) (Ne1.cons (by first | omega | (simp; omega)) (Ne1.cons (by first | omega | (simp; omega)) Ne1.nil)))) (by first | omega | (simp; omega)) (fun p hp => List.mem_cons_of_mem _ (List.mem_cons_of_mem _ (hp))) rfl rfl (by rfl) (fun w hB hF hG K hK => ?h1x11) ?_
  case h1x11 =>
    have cx := hF.cell
    have fx := hF.free
    go_wp2_with fail
    refine hK _ (Same.set (Same.set (Same.set (Same.set (Same.refl _ _) _ _) _ _) _ _) _ _) ?_
    exact (Blk.set (Blk.set (Blk.set (Blk.set hF _ _) _ _) _ _) _ _)
  simp only [List.set_cons_zero, List.set_cons_succ, List.setIfInBounds_toArray]
  refine wpG_nil (fun w1 hb1 hG1 => ?_)
  simp only [List.append_eq, List.cons_append, List.nil_append, List.drop_succ_cons, List.drop_zero, List.drop_nil]
  have u1g1 := Own.lt hG1 1 rfl
  have u1g2 := Own.lt hG1 0 rfl
  have O1 := Own.of hG1
  try simp only [List.setIfInBounds_toArray, List.set_cons_zero, List.set_cons_succ] at O1
  have bw1 : Below w.heap.size w w1 := Below.trans (by go_grown) (Below.mono hb1 (by first | omega | (simp; done) | (simp; omega)))
  have zw1 := Below.size hb1
  try simp only [World.size_alloc, World.size_drew, World.size_setCell] at zw1
  have c1x0 := Own.cell O1 0 rfl
  have f1x0 := Own.free O1 0 rfl
  have l1x0 := Own.lt O1 0 rfl
  have l1x0d0 := le_up 0 l1x0
  have l1x0d1 := le_up 1 l1x0
  simp only [upN] at l1x0d0 l1x0d1
  have c1x1 := Own.cell O1 1 rfl
  have f1x1 := Own.free O1 1 rfl
  have l1x1 := Own.lt O1 1 rfl
  have l1x1d0 := le_up 0 l1x1
  have l1x1d1 := le_up 1 l1x1
  simp only [upN] at l1x1d0 l1x1d1
  have c1x2 := Own.cell O1 2 rfl
  have f1x2 := Own.free O1 2 rfl
  have l1x2 := Own.lt O1 2 rfl
  have l1x2d0 := le_up 0 l1x2
  have l1x2d1 := le_up 1 l1x2
  simp only [upN] at l1x2d0 l1x2d1
  have c1x3 := Own.cell O1 3 rfl
  have f1x3 := Own.free O1 3 rfl
  have l1x3 := Own.lt O1 3 rfl
  have l1x3d0 := le_up 0 l1x3
  have l1x3d1 := le_up 1 l1x3
  simp only [upN] at l1x3d0 l1x3d1
  have c1x4 := Own.cell O1 4 rfl
  have f1x4 := Own.free O1 4 rfl
  have l1x4 := Own.lt O1 4 rfl
  have l1x4d0 := le_up 0 l1x4
  have l1x4d1 := le_up 1 l1x4
  simp only [upN] at l1x4d0 l1x4d1
  have HO1 := Lib.hid O1
  clear O1 hb1
  go_wp2_with fail
  refine wp_region_grow w.heap.size 5 0 0 [(0, 0, 32768, 4), (1, 1, 65536, 32768), (2, 0, 131072, 8), (3, 6, 262144, 131072), (4, 10, 524288, 327680)] [(.p 0, 1), (.p 1, 3), (.p 2, 7), (.p 3, 15), (.p 4, 31)] [] _ (fun p hp => hp) (by first | omega | (simp; done) | (simp; omega)) (by kernel_rfl) (by kernel_rfl) HO1.out ?_
  refine wpG_pure (i := 0) (v := ?v2x0) rfl rfl (by rfl) (fun w hB hG K hK => ?h2x0) ?_
  case h2x0 =>
    have cx := Own.cell hG 4 rfl
    go_wp2_with fail
    exact hK _ (Below.refl _ _)
  simp only [List.set_cons_zero, List.set_cons_succ]
  refine wpG_pure (i := 1) (v := ?v2x1) rfl rfl (by rfl) (fun w hB hG K hK => ?h2x1) ?_
  case h2x1 =>
    go_wp2_with fail
    refine (HNa.out _).mono ?_
    rintro e wx ⟨rfl, hbx⟩
    exact hK _ hbx
  simp only [List.set_cons_zero, List.set_cons_succ]
  refine wpG_pure (i := 2) (v := ?v2x2) rfl rfl (by rfl) (fun w hB hG K hK => ?h2x2) ?_
  case h2x2 =>
    have cx := Own.cell hG 3 rfl
    go_wp2_with fail
    exact hK _ (Below.refl _ _)
  simp only [List.set_cons_zero, List.set_cons_succ]
  refine wpG_pure (i := 3) (v := ?v2x3) rfl rfl (by rfl) (fun w hB hG K hK => ?h2x3) ?_
  case h2x3 =>
    go_wp2_with fail
    refine (HNb.out _).mono ?_
    rintro e wx ⟨rfl, hbx⟩
    exact hK _ hbx
  simp only [List.set_cons_zero, List.set_cons_succ]
  refine wpG_pure (i := 4) (v := ?v2x4) rfl rfl (by rfl) (fun w hB hG K hK => ?h2x4) ?_
  case h2x4 =>
    go_wp2_with fail
    exact hK _ (Below.refl _ _)
  simp only [List.set_cons_zero, List.set_cons_succ]
  refine wpG_nil (fun w2 hb2 hG2 => ?_)
  simp only [List.append_eq, List.cons_append, List.nil_append, List.drop_succ_cons, List.drop_zero, List.drop_nil]
  have O2 := Own.of hG2
  try simp only [List.setIfInBounds_toArray, List.set_cons_zero, List.set_cons_succ] at O2
  have bw2 : Below w.heap.size w w2 := Below.trans (by go_grown) (Below.mono hb2 (by first | omega | (simp; done) | (simp; omega)))
  have zw2 := Below.size hb2
  try simp only [World.size_alloc, World.size_drew, World.size_setCell] at zw2
  clear c1x0 f1x0 l1x0 l1x0d0 l1x0d1 c1x1 f1x1 l1x1 l1x1d0 l1x1d1 c1x2 f1x2 l1x2 l1x2d0 l1x2d1 c1x3 f1x3 l1x3 l1x3d0 l1x3d1 c1x4 f1x4 l1x4 l1x4d0 l1x4d1
  have c2x0 := Own.cell O2 0 rfl
  have f2x0 := Own.free O2 0 rfl
  have l2x0 := Own.lt O2 0 rfl
  have l2x0d0 := le_up 0 l2x0
  have l2x0d1 := le_up 1 l2x0
  simp only [upN] at l2x0d0 l2x0d1
  have c2x1 := Own.cell O2 1 rfl
  have f2x1 := Own.free O2 1 rfl
  have l2x1 := Own.lt O2 1 rfl
  have l2x1d0 := le_up 0 l2x1
  have l2x1d1 := le_up 1 l2x1
  simp only [upN] at l2x1d0 l2x1d1
  have c2x2 := Own.cell O2 2 rfl
  have f2x2 := Own.free O2 2 rfl
  have l2x2 := Own.lt O2 2 rfl
  have l2x2d0 := le_up 0 l2x2
  have l2x2d1 := le_up 1 l2x2
  simp only [upN] at l2x2d0 l2x2d1
  have c2x3 := Own.cell O2 3 rfl
  have f2x3 := Own.free O2 3 rfl
  have l2x3 := Own.lt O2 3 rfl
  have l2x3d0 := le_up 0 l2x3
  have l2x3d1 := le_up 1 l2x3
  simp only [upN] at l2x3d0 l2x3d1
  have c2x4 := Own.cell O2 4 rfl
  have f2x4 := Own.free O2 4 rfl
  have l2x4 := Own.lt O2 4 rfl
  have l2x4d0 := le_up 0 l2x4
  have l2x4d1 := le_up 1 l2x4
  simp only [upN] at l2x4d0 l2x4d1
  have HO2 := Lib.hid O2
  clear O2 hb2
  go_wp2_with fail
  refine (HS.out _).mono ?_
  rintro e w3 ⟨rfl, hb3⟩
  have O3 := Own.grow' hb3 HO2.out
  try simp only [List.setIfInBounds_toArray, List.set_cons_zero, List.set_cons_succ] at O3
  have bw3 : Below w.heap.size w w3 := Below.trans (by go_grown) (Below.mono hb3 (by first | omega | (simp; done) | (simp; omega)))
  have zw3 := Below.size hb3
  try simp only [World.size_alloc, World.size_drew, World.size_setCell] at zw3
  clear c2x0 f2x0 l2x0 l2x0d0 l2x0d1 c2x1 f2x1 l2x1 l2x1d0 l2x1d1 c2x2 f2x2 l2x2 l2x2d0 l2x2d1 c2x3 f2x3 l2x3 l2x3d0 l2x3d1 c2x4 f2x4 l2x4 l2x4d0 l2x4d1
  have c3x0 := Own.cell O3 0 rfl
  have f3x0 := Own.free O3 0 rfl
  have l3x0 := Own.lt O3 0 rfl
  have l3x0d0 := le_up 0 l3x0
  have l3x0d1 := le_up 1 l3x0
  simp only [upN] at l3x0d0 l3x0d1
  have c3x1 := Own.cell O3 1 rfl
  have f3x1 := Own.free O3 1 rfl
  have l3x1 := Own.lt O3 1 rfl
  have l3x1d0 := le_up 0 l3x1
  have l3x1d1 := le_up 1 l3x1
  simp only [upN] at l3x1d0 l3x1d1
  have c3x2 := Own.cell O3 2 rfl
  have f3x2 := Own.free O3 2 rfl
  have l3x2 := Own.lt O3 2 rfl
  have l3x2d0 := le_up 0 l3x2
  have l3x2d1 := le_up 1 l3x2
  simp only [upN] at l3x2d0 l3x2d1
  have c3x3 := Own.cell O3 3 rfl
  have f3x3 := Own.free O3 3 rfl
  have l3x3 := Own.lt O3 3 rfl
  have l3x3d0 := le_up 0 l3x3
  have l3x3d1 := le_up 1 l3x3
  simp only [upN] at l3x3d0 l3x3d1
  have c3x4 := Own.cell O3 4 rfl
  have f3x4 := Own.free O3 4 rfl
  have l3x4 := Own.lt O3 4 rfl
  have l3x4d0 := le_up 0 l3x4
  have l3x4d1 := le_up 1 l3x4
  simp only [upN] at l3x4d0 l3x4d1
  have HO3 := Lib.hid O3
  clear O3 hb3
  go_wp2_with fail
  refine bodyPost_ret (v := W (0#256 - q)) (by simp [results, Try.results24, go_sem, *]) rfl ?_
  exact ⟨rfl, by go_grown⟩
set_option maxRecDepth 20000 in
set_option maxHeartbeats 2000000 in
theorem refsdiv_p (a b : BitVec 256) (w : World) (h : (a.getLsbD 255 != b.getLsbD 255) = false) : Calls Try.prog 24 #[W a, W b] w fun e w' => e = .returned (W (sdivW a b)) ∧ Below w.heap.size w w' := by
  have HA := Lib.hid (fun V => refAbsW a V)
  have HB := Lib.hid (fun V => refAbsW b V)
  have HD := Lib.hid (fun V => refDivideW (absW a) (absW b) V)
  have HNa := Lib.hid (fun V => refNegW a V)
  have HNb := Lib.hid (fun V => refNegW b V)
  unfold sdivW
  generalize a.getLsbD 255 = na at *
  generalize b.getLsbD 255 = nb at *
  generalize divW (absW a) (absW b) = q at *
  generalize modW (absW a) (absW b) = q' at *
  generalize absW a = xa at *
  generalize absW b = xb at *
  rw [h]
  have hx : (na != nb) = false := h
  have hx2 : (!na == nb) = false := by revert h; cases na <;> cases nb <;> decide
  go_enter Try.func24, Try.ntmps24
  go_wp2_with fail
  refine wp_region_grow w.heap.size 12 3072 768 [(0, 0, 256, 4), (1, 1, 512, 256), (2, 0, 1024, 8), (3, 6, 2048, 1024), (4, 10, 4096, 2560), (5, 16, 128, 4096), (6, 32, 8192, 128), (7, 32, 16384, 128), (8, 0, 32, 0), (9, 0, 64, 0), (10, 895, 0, 8224), (11, 2047, 0, 16448)] [(.p 0, 1), (.p 1, 3), (.p 2, 7), (.p 3, 15), (.p 4, 31), (.p 5, 63), (.p 6, 127), (.p 7, 255), (.gg 8 9, 1023), (.c 10, 2047), (.c 11, 4095)] [] _ (fun p hp => hp) (by first | omega | (simp; done) | (simp; omega)) (by kernel_rfl) (by kernel_rfl) (Own.new (Own.new (Own.new (Own.nil w) (w.heap.size) (by first | rfl | simp)) (w.heap.size + 1) (by simp)) (w.heap.size + 1 + 1) (by simp)) ?_
  refine wpG_pure (i := 0) (v := ?v1x0) rfl rfl (by rfl) (fun w hB hG K hK => ?h1x0) ?_
  case h1x0 =>
    have cx := Own.cell hG 2 rfl
    go_wp2_with fail
    exact hK _ (Below.refl _ _)
  simp only [List.set_cons_zero, List.set_cons_succ]
  refine wpG_pure (i := 1) (v := ?v1x1) rfl rfl (by rfl) (fun w hB hG K hK => ?h1x1) ?_
  case h1x1 =>
    go_wp2_with fail
    refine (HA.out _).mono ?_
    rintro e wx ⟨rfl, hbx⟩
    exact hK _ hbx
  simp only [List.set_cons_zero, List.set_cons_succ]
  refine wpG_pure (i := 2) (v := ?v1x2) rfl rfl (by rfl) (fun w hB hG K hK => ?h1x2) ?_
  case h1x2 =>
    have cx := Own.cell hG 1 rfl
    go_wp2_with fail
    exact hK _ (Below.refl _ _)
  simp only [List.set_cons_zero, List.set_cons_succ]
  refine wpG_pure (i := 3) (v := ?v1x3) rfl rfl (by rfl) (fun w hB hG K hK => ?h1x3) ?_
  case h1x3 =>
    go_wp2_with fail
    refine (HB.out _).mono ?_
    rintro e wx ⟨rfl, hbx⟩
    exact hK _ hbx
  simp only [List.set_cons_zero, List.set_cons_succ]
  refine wpG_pure (i := 4) (v := ?v1x4) rfl rfl (by rfl) (fun w hB hG K hK => ?h1x4) ?_
  case h1x4 =>
    go_wp2_with fail
    refine (HD.out _).mono ?_
    rintro e wx ⟨rfl, hbx⟩
    exact hK _ hbx
  simp only [List.set_cons_zero, List.set_cons_succ]
  refine wpG_move (i := 5) rfl rfl rfl (by rfl) rfl ?_
  simp only [List.set_cons_zero, List.set_cons_succ]
  refine wpG_pure (i := 6) (v := ?v1x6) rfl rfl (by rfl) (fun w hB hG K hK => ?h1x6) ?_
  case h1x6 =>
    go_wp2_with fail
    exact hK _ (Below.refl _ _)
  simp only [List.set_cons_zero, List.set_cons_succ]
  refine wpG_pure (i := 7) (v := ?v1x7) rfl rfl (by rfl) (fun w hB hG K hK => ?h1x7) ?_
  case h1x7 =>
    go_wp2_with fail
    exact hK _ (Below.refl _ _)
  simp only [List.set_cons_zero, List.set_cons_succ]
  refine wpG_pair (i := 8) (j := 9) (c := ?c1x8) (t := ?t1x8) (c2 := ?c1x9) (t2 := ?t1x9) (fun b => .pointer (some ⟨b, 0, none⟩)) (fun b => .pointer (some ⟨b, 0, none⟩)) rfl rfl rfl rfl (by rfl) (by rfl) (fun w hB hG K hK => ?h1x8) (fun w hB hG K hK => ?h1x9) (fun v1g1 v1g2 l1g1 l1g2 n1g1 _ _ => ?_)
  case h1x8 =>
    go_wp2_with fail
    exact hK
  case h1x9 =>
    go_wp2_with fail
    exact hK
  simp only [List.set_cons_zero, List.set_cons_succ]
  try simp only [World.size_alloc, World.size_drew, World.size_setCell] at l1g1
  try simp only [World.size_alloc, World.size_drew, World.size_setCell] at l1g2
  refine wpG_store (i := 10) (c' := ?c1x10) 1 rfl (Ne1.cons (by first | omega | (simp; omega)) (Ne1.cons (by first | omega | (simp; omega)) (Ne1.cons (by first | omega | (simp; omega)) (Ne1.cons (by first | omega | (simp; omega)) Ne1.nil)))) (by first | omega | (simp; omega)) (fun p hp => List.mem_cons_of_mem _ (List.mem_cons_of_mem _ (hp))) rfl rfl (by rfl) (fun w hB hF hG K hK => ?h1x10) ?_
  case h1x10 =>
    have cx := hF.cell
    have fx := hF.free
    go_wp2_with fail
    refine hK _ (Same.set (Same.set (Same.set (Same.set (Same.refl _ _) _ _) _ _) _ _) _ _) ?_
    exact (Blk.set (Blk.set (Blk.set (Blk.set hF _ _) _ _) _ _) _ _)
  simp only [List.set_cons_zero, List.set_cons_succ, List.setIfInBounds_toArray]
  refine wpG_store (i := 11) (c' := ?c1x11) 0 rfl (Ne1.cons (by first | omega | (simp; omega)) (Ne1.cons (by first | omega | (simp; omega)) (Ne1.cons (by first | omega | (simp; omega)) (Ne1.cons (by first | omega | (simp; omega)) Ne1.nil)))) (by first | omega | (simp; omega)) (fun p hp => List.mem_cons_of_mem _ (List.mem_cons_of_mem _ (hp))) rfl rfl (by rfl) (fun w hB hF hG K hK => ?h1x11) ?_
  case h1x11 =>
    have cx := hF.cell
    have fx := hF.free
    go_wp2_with fail
    refine hK _ (Same.set (Same.set (Same.set (Same.set (Same.refl _ _) _ _) _ _) _ _) _ _) ?_
    exact (Blk.set (Blk.set (Blk.set (Blk.set hF _ _) _ _) _ _) _ _)
  simp only [List.set_cons_zero, List.set_cons_succ, List.setIfInBounds_toArray]
  refine wpG_nil (fun w1 hb1 hG1 => ?_)
  simp only [List.append_eq, List.cons_append, List.nil_append, List.drop_succ_cons, List.drop_zero, List.drop_nil]
  have u1g1 := Own.lt hG1 1 rfl
  have u1g2 := Own.lt hG1 0 rfl
  have O1 := Own.of hG1
  try simp only [List.setIfInBounds_toArray, List.set_cons_zero, List.set_cons_succ] at O1
  have bw1 : Below w.heap.size w w1 := Below.trans (by go_grown) (Below.mono hb1 (by first | omega | (simp; done) | (simp; omega)))
  have zw1 := Below.size hb1
  try simp only [World.size_alloc, World.size_drew, World.size_setCell] at zw1
  have c1x0 := Own.cell O1 0 rfl
  have f1x0 := Own.free O1 0 rfl
  have l1x0 := Own.lt O1 0 rfl
  have l1x0d0 := le_up 0 l1x0
  have l1x0d1 := le_up 1 l1x0
  simp only [upN] at l1x0d0 l1x0d1
  have c1x1 := Own.cell O1 1 rfl
  have f1x1 := Own.free O1 1 rfl
  have l1x1 := Own.lt O1 1 rfl
  have l1x1d0 := le_up 0 l1x1
  have l1x1d1 := le_up 1 l1x1
  simp only [upN] at l1x1d0 l1x1d1
  have c1x2 := Own.cell O1 2 rfl
  have f1x2 := Own.free O1 2 rfl
  have l1x2 := Own.lt O1 2 rfl
  have l1x2d0 := le_up 0 l1x2
  have l1x2d1 := le_up 1 l1x2
  simp only [upN] at l1x2d0 l1x2d1
  have c1x3 := Own.cell O1 3 rfl
  have f1x3 := Own.free O1 3 rfl
  have l1x3 := Own.lt O1 3 rfl
  have l1x3d0 := le_up 0 l1x3
  have l1x3d1 := le_up 1 l1x3
  simp only [upN] at l1x3d0 l1x3d1
  have c1x4 := Own.cell O1 4 rfl
  have f1x4 := Own.free O1 4 rfl
  have l1x4 := Own.lt O1 4 rfl
  have l1x4d0 := le_up 0 l1x4
  have l1x4d1 := le_up 1 l1x4
  simp only [upN] at l1x4d0 l1x4d1
  have HO1 := Lib.hid O1
  clear O1 hb1
  go_wp2_with fail
  refine wp_region_grow w.heap.size 5 0 0 [(0, 0, 32768, 4), (1, 1, 65536, 32768), (2, 0, 131072, 8), (3, 6, 262144, 131072), (4, 10, 524288, 327680)] [(.p 0, 1), (.p 1, 3), (.p 2, 7), (.p 3, 15), (.p 4, 31)] [] _ (fun p hp => hp) (by first | omega | (simp; done) | (simp; omega)) (by kernel_rfl) (by kernel_rfl) HO1.out ?_
  refine wpG_pure (i := 0) (v := ?v2x0) rfl rfl (by rfl) (fun w hB hG K hK => ?h2x0) ?_
  case h2x0 =>
    have cx := Own.cell hG 4 rfl
    go_wp2_with fail
    exact hK _ (Below.refl _ _)
  simp only [List.set_cons_zero, List.set_cons_succ]
  refine wpG_pure (i := 1) (v := ?v2x1) rfl rfl (by rfl) (fun w hB hG K hK => ?h2x1) ?_
  case h2x1 =>
    go_wp2_with fail
    refine (HNa.out _).mono ?_
    rintro e wx ⟨rfl, hbx⟩
    exact hK _ hbx
  simp only [List.set_cons_zero, List.set_cons_succ]
  refine wpG_pure (i := 2) (v := ?v2x2) rfl rfl (by rfl) (fun w hB hG K hK => ?h2x2) ?_
  case h2x2 =>
    have cx := Own.cell hG 3 rfl
    go_wp2_with fail
    exact hK _ (Below.refl _ _)
  simp only [List.set_cons_zero, List.set_cons_succ]
  refine wpG_pure (i := 3) (v := ?v2x3) rfl rfl (by rfl) (fun w hB hG K hK => ?h2x3) ?_
  case h2x3 =>
    go_wp2_with fail
    refine (HNb.out _).mono ?_
    rintro e wx ⟨rfl, hbx⟩
    exact hK _ hbx
  simp only [List.set_cons_zero, List.set_cons_succ]
  refine wpG_pure (i := 4) (v := ?v2x4) rfl rfl (by rfl) (fun w hB hG K hK => ?h2x4) ?_
  case h2x4 =>
    go_wp2_with fail
    exact hK _ (Below.refl _ _)
  simp only [List.set_cons_zero, List.set_cons_succ]
  refine wpG_nil (fun w2 hb2 hG2 => ?_)
  simp only [List.append_eq, List.cons_append, List.nil_append, List.drop_succ_cons, List.drop_zero, List.drop_nil]
  have O2 := Own.of hG2
  try simp only [List.setIfInBounds_toArray, List.set_cons_zero, List.set_cons_succ] at O2
  have bw2 : Below w.heap.size w w2 := Below.trans (by go_grown) (Below.mono hb2 (by first | omega | (simp; done) | (simp; omega)))
  have zw2 := Below.size hb2
  try simp only [World.size_alloc, World.size_drew, World.size_setCell] at zw2
  clear c1x0 f1x0 l1x0 l1x0d0 l1x0d1 c1x1 f1x1 l1x1 l1x1d0 l1x1d1 c1x2 f1x2 l1x2 l1x2d0 l1x2d1 c1x3 f1x3 l1x3 l1x3d0 l1x3d1 c1x4 f1x4 l1x4 l1x4d0 l1x4d1
  have c2x0 := Own.cell O2 0 rfl
  have f2x0 := Own.free O2 0 rfl
  have l2x0 := Own.lt O2 0 rfl
  have l2x0d0 := le_up 0 l2x0
  have l2x0d1 := le_up 1 l2x0
  simp only [upN] at l2x0d0 l2x0d1
  have c2x1 := Own.cell O2 1 rfl
  have f2x1 := Own.free O2 1 rfl
  have l2x1 := Own.lt O2 1 rfl
  have l2x1d0 := le_up 0 l2x1
  have l2x1d1 := le_up 1 l2x1
  simp only [upN] at l2x1d0 l2x1d1
  have c2x2 := Own.cell O2 2 rfl
  have f2x2 := Own.free O2 2 rfl
  have l2x2 := Own.lt O2 2 rfl
  have l2x2d0 := le_up 0 l2x2
  have l2x2d1 := le_up 1 l2x2
  simp only [upN] at l2x2d0 l2x2d1
  have c2x3 := Own.cell O2 3 rfl
  have f2x3 := Own.free O2 3 rfl
  have l2x3 := Own.lt O2 3 rfl
  have l2x3d0 := le_up 0 l2x3
  have l2x3d1 := le_up 1 l2x3
  simp only [upN] at l2x3d0 l2x3d1
  have c2x4 := Own.cell O2 4 rfl
  have f2x4 := Own.free O2 4 rfl
  have l2x4 := Own.lt O2 4 rfl
  have l2x4d0 := le_up 0 l2x4
  have l2x4d1 := le_up 1 l2x4
  simp only [upN] at l2x4d0 l2x4d1
  have HO2 := Lib.hid O2
  clear O2 hb2
  go_wp2_with fail
  refine bodyPost_ret (v := W q) (by simp [results, Try.results24, go_sem, *]) rfl ?_
  exact ⟨rfl, by go_grown⟩
theorem refSDivW (a b : BitVec 256) (w : World) : Calls Try.prog 24 #[W a, W b] w fun e w' => e = .returned (W (sdivW a b)) ∧ Below w.heap.size w w' := by
  cases h : (a.getLsbD 255 != b.getLsbD 255)
  · exact refsdiv_p a b w h
  · exact refsdiv_n a b w h
set_option maxRecDepth 20000 in
set_option maxHeartbeats 2000000 in
theorem refsmod_n (a b : BitVec 256) (w : World) (h : a.getLsbD 255 = true) : Calls Try.prog 25 #[W a, W b] w fun e w' => e = .returned (W (smodW a b)) ∧ Below w.heap.size w w' := by
  have HA := Lib.hid (fun V => refAbsW a V)
  have HB := Lib.hid (fun V => refAbsW b V)
  have HD := Lib.hid (fun V => refDivideW (absW a) (absW b) V)
  have HNa := Lib.hid (fun V => refNegW a V)
  have HNb := Lib.hid (fun V => refNegW b V)
  unfold smodW
  generalize a.getLsbD 255 = na at *
  generalize b.getLsbD 255 = nb at *
  generalize modW (absW a) (absW b) = q at *
  generalize divW (absW a) (absW b) = q' at *
  generalize absW a = xa at *
  generalize absW b = xb at *
  have HS := Lib.hid (fun V => refSubZ q V)
  subst h
  go_enter Try.func25, Try.ntmps25
  go_wp2_with fail
  refine wp_region_grow w.heap.size 12 3072 768 [(0, 0, 256, 4), (1, 1, 512, 256), (2, 0, 1024, 8), (3, 6, 2048, 1024), (4, 10, 4096, 2560), (5, 16, 128, 4096), (6, 32, 8192, 128), (7, 32, 16384, 128), (8, 0, 32, 0), (9, 0, 64, 0), (10, 895, 0, 8224), (11, 2047, 0, 16448)] [(.p 0, 1), (.p 1, 3), (.p 2, 7), (.p 3, 15), (.p 4, 31), (.p 5, 63), (.p 6, 127), (.p 7, 255), (.gg 8 9, 1023), (.c 10, 2047), (.c 11, 4095)] [] _ (fun p hp => hp) (by first | omega | (simp; done) | (simp; omega)) (by kernel_rfl) (by kernel_rfl) (Own.new (Own.new (Own.new (Own.nil w) (w.heap.size) (by first | rfl | simp)) (w.heap.size + 1) (by simp)) (w.heap.size + 1 + 1) (by simp)) ?_
  refine wpG_pure (i := 0) (v := ?v1x0) rfl rfl (by rfl) (fun w hB hG K hK => ?h1x0) ?_
  case h1x0 =>
    have cx := Own.cell hG 2 rfl
    go_wp2_with fail
    exact hK _ (Below.refl _ _)
  simp only [List.set_cons_zero, List.set_cons_succ]
  refine wpG_pure (i := 1) (v := ?v1x1) rfl rfl (by rfl) (fun w hB hG K hK => ?h1x1) ?_
  case h1x1 =>
    go_wp2_with fail
    refine (HA.out _).mono ?_
    rintro e wx ⟨rfl, hbx⟩
    exact hK _ hbx
  simp only [List.set_cons_zero, List.set_cons_succ]
  refine wpG_pure (i := 2) (v := ?v1x2) rfl rfl (by rfl) (fun w hB hG K hK => ?h1x2) ?_
  case h1x2 =>
    have cx := Own.cell hG 1 rfl
    go_wp2_with fail
    exact hK _ (Below.refl _ _)
  simp only [List.set_cons_zero, List.set_cons_succ]
  refine wpG_pure (i := 3) (v := ?v1x3) rfl rfl (by rfl) (fun w hB hG K hK => ?h1x3) ?_
  case h1x3 =>
    go_wp2_with fail
    refine (HB.out _).mono ?_
    rintro e wx ⟨rfl, hbx⟩
    exact hK _ hbx
  simp only [List.set_cons_zero, List.set_cons_succ]
  refine wpG_pure (i := 4) (v := ?v1x4) rfl rfl (by rfl) (fun w hB hG K hK => ?h1x4) ?_
  case h1x4 =>
    go_wp2_with fail
    refine (HD.out _).mono ?_
    rintro e wx ⟨rfl, hbx⟩
    exact hK _ hbx
  simp only [List.set_cons_zero, List.set_cons_succ]
  refine wpG_move (i := 5) rfl rfl rfl (by rfl) rfl ?_
  simp only [List.set_cons_zero, List.set_cons_succ]
  refine wpG_pure (i := 6) (v := ?v1x6) rfl rfl (by rfl) (fun w hB hG K hK => ?h1x6) ?_
  case h1x6 =>
    go_wp2_with fail
    exact hK _ (Below.refl _ _)
  simp only [List.set_cons_zero, List.set_cons_succ]
  refine wpG_pure (i := 7) (v := ?v1x7) rfl rfl (by rfl) (fun w hB hG K hK => ?h1x7) ?_
  case h1x7 =>
    go_wp2_with fail
    exact hK _ (Below.refl _ _)
  simp only [List.set_cons_zero, List.set_cons_succ]
  refine wpG_pair (i := 8) (j := 9) (c := ?c1x8) (t := ?t1x8) (c2 := ?c1x9) (t2 := ?t1x9) (fun b => .pointer (some ⟨b, 0, none⟩)) (fun b => .pointer (some ⟨b, 0, none⟩)) rfl rfl rfl rfl (by rfl) (by rfl) (fun w hB hG K hK => ?h1x8) (fun w hB hG K hK => ?h1x9) (fun v1g1 v1g2 l1g1 l1g2 n1g1 _ _ => ?_)
  case h1x8 =>
    go_wp2_with fail
    exact hK
  case h1x9 =>
    go_wp2_with fail
    exact hK
  simp only [List.set_cons_zero, List.set_cons_succ]
  try simp only [World.size_alloc, World.size_drew, World.size_setCell] at l1g1
  try simp only [World.size_alloc, World.size_drew, World.size_setCell] at l1g2
  refine wpG_store (i := 10) (c' := ?c1x10) 1 rfl (Ne1.cons (by first | omega | (simp; omega)) (Ne1.cons (by first | omega | (simp; omega)) (Ne1.cons (by first | omega | (simp; omega)) (Ne1.cons (by first | omega | (simp; omega)) Ne1.nil)))) (by first | omega | (simp; omega)) (fun p hp => List.mem_cons_of_mem _ (List.mem_cons_of_mem _ (hp))) rfl rfl (by rfl) (fun w hB hF hG K hK => ?h1x10) ?_
  case h1x10 =>
    have cx := hF.cell
    have fx := hF.free
    go_wp2_with fail
    refine hK _ (Same.set (Same.set (Same.set (Same.set (Same.refl _ _) _ _) _ _) _ _) _ _) ?_
    exact (Blk.set (Blk.set (Blk.set (Blk.set hF _ _) _ _) _ _) _ _)
  simp only [List.set_cons_zero, List.set_cons_succ, List.setIfInBounds_toArray]
  refine wpG_store (i := 11) (c' := ?c1x11) 0 rfl (Ne1.cons (by first | omega | (simp; omega)) (Ne1.cons (by first | omega | (simp; omega)) (Ne1.cons (by first | omega | (simp; omega)) (Ne1.cons (by first | omega | (simp; omega)) Ne1.nil)))) (by first | omega | (simp; omega)) (fun p hp => List.mem_cons_of_mem _ (List.mem_cons_of_mem _ (hp))) rfl rfl (by rfl) (fun w hB hF hG K hK => ?h1x11) ?_
  case h1x11 =>
    have cx := hF.cell
    have fx := hF.free
    go_wp2_with fail
    refine hK _ (Same.set (Same.set (Same.set (Same.set (Same.refl _ _) _ _) _ _) _ _) _ _) ?_
    exact (Blk.set (Blk.set (Blk.set (Blk.set hF _ _) _ _) _ _) _ _)
  simp only [List.set_cons_zero, List.set_cons_succ, List.setIfInBounds_toArray]
  refine wpG_nil (fun w1 hb1 hG1 => ?_)
  simp only [List.append_eq, List.cons_append, List.nil_append, List.drop_succ_cons, List.drop_zero, List.drop_nil]
  have u1g1 := Own.lt hG1 1 rfl
  have u1g2 := Own.lt hG1 0 rfl
  have O1 := Own.of hG1
  try simp only [List.setIfInBounds_toArray, List.set_cons_zero, List.set_cons_succ] at O1
  have bw1 : Below w.heap.size w w1 := Below.trans (by go_grown) (Below.mono hb1 (by first | omega | (simp; done) | (simp; omega)))
  have zw1 := Below.size hb1
  try simp only [World.size_alloc, World.size_drew, World.size_setCell] at zw1
  have c1x0 := Own.cell O1 0 rfl
  have f1x0 := Own.free O1 0 rfl
  have l1x0 := Own.lt O1 0 rfl
  have l1x0d0 := le_up 0 l1x0
  have l1x0d1 := le_up 1 l1x0
  simp only [upN] at l1x0d0 l1x0d1
  have c1x1 := Own.cell O1 1 rfl
  have f1x1 := Own.free O1 1 rfl
  have l1x1 := Own.lt O1 1 rfl
  have l1x1d0 := le_up 0 l1x1
  have l1x1d1 := le_up 1 l1x1
  simp only [upN] at l1x1d0 l1x1d1
  have c1x2 := Own.cell O1 2 rfl
  have f1x2 := Own.free O1 2 rfl
  have l1x2 := Own.lt O1 2 rfl
  have l1x2d0 := le_up 0 l1x2
  have l1x2d1 := le_up 1 l1x2
  simp only [upN] at l1x2d0 l1x2d1
  have c1x3 := Own.cell O1 3 rfl
  have f1x3 := Own.free O1 3 rfl
  have l1x3 := Own.lt O1 3 rfl
  have l1x3d0 := le_up 0 l1x3
  have l1x3d1 := le_up 1 l1x3
  simp only [upN] at l1x3d0 l1x3d1
  have c1x4 := Own.cell O1 4 rfl
  have f1x4 := Own.free O1 4 rfl
  have l1x4 := Own.lt O1 4 rfl
  have l1x4d0 := le_up 0 l1x4
  have l1x4d1 := le_up 1 l1x4
  simp only [upN] at l1x4d0 l1x4d1
  have HO1 := Lib.hid O1
  clear O1 hb1
  go_wp2_with fail
  refine (HNa.out _).mono ?_
  rintro e w2 ⟨rfl, hb2⟩
  have O2 := Own.grow' hb2 HO1.out
  try simp only [List.setIfInBounds_toArray, List.set_cons_zero, List.set_cons_succ] at O2
  have bw2 : Below w.heap.size w w2 := Below.trans (by go_grown) (Below.mono hb2 (by first | omega | (simp; done) | (simp; omega)))
  have zw2 := Below.size hb2
  try simp only [World.size_alloc, World.size_drew, World.size_setCell] at zw2
  clear c1x0 f1x0 l1x0 l1x0d0 l1x0d1 c1x1 f1x1 l1x1 l1x1d0 l1x1d1 c1x2 f1x2 l1x2 l1x2d0 l1x2d1 c1x3 f1x3 l1x3 l1x3d0 l1x3d1 c1x4 f1x4 l1x4 l1x4d0 l1x4d1
  have c2x0 := Own.cell O2 0 rfl
  have f2x0 := Own.free O2 0 rfl
  have l2x0 := Own.lt O2 0 rfl
  have l2x0d0 := le_up 0 l2x0
  have l2x0d1 := le_up 1 l2x0
  simp only [upN] at l2x0d0 l2x0d1
  have c2x1 := Own.cell O2 1 rfl
  have f2x1 := Own.free O2 1 rfl
  have l2x1 := Own.lt O2 1 rfl
  have l2x1d0 := le_up 0 l2x1
  have l2x1d1 := le_up 1 l2x1
  simp only [upN] at l2x1d0 l2x1d1
  have c2x2 := Own.cell O2 2 rfl
  have f2x2 := Own.free O2 2 rfl
  have l2x2 := Own.lt O2 2 rfl
  have l2x2d0 := le_up 0 l2x2
  have l2x2d1 := le_up 1 l2x2
  simp only [upN] at l2x2d0 l2x2d1
  have c2x3 := Own.cell O2 3 rfl
  have f2x3 := Own.free O2 3 rfl
  have l2x3 := Own.lt O2 3 rfl
  have l2x3d0 := le_up 0 l2x3
  have l2x3d1 := le_up 1 l2x3
  simp only [upN] at l2x3d0 l2x3d1
  have c2x4 := Own.cell O2 4 rfl
  have f2x4 := Own.free O2 4 rfl
  have l2x4 := Own.lt O2 4 rfl
  have l2x4d0 := le_up 0 l2x4
  have l2x4d1 := le_up 1 l2x4
  simp only [upN] at l2x4d0 l2x4d1
  have HO2 := Lib.hid O2
  clear O2 hb2
  go_wp2_with fail
  refine (HS.out _).mono ?_
  rintro e w3 ⟨rfl, hb3⟩
  have O3 := Own.grow' hb3 HO2.out
  try simp only [List.setIfInBounds_toArray, List.set_cons_zero, List.set_cons_succ] at O3
  have bw3 : Below w.heap.size w w3 := Below.trans (by go_grown) (Below.mono hb3 (by first | omega | (simp; done) | (simp; omega)))
  have zw3 := Below.size hb3
  try simp only [World.size_alloc, World.size_drew, World.size_setCell] at zw3
  clear c2x0 f2x0 l2x0 l2x0d0 l2x0d1 c2x1 f2x1 l2x1 l2x1d0 l2x1d1 c2x2 f2x2 l2x2 l2x2d0 l2x2d1 c2x3 f2x3 l2x3 l2x3d0 l2x3d1 c2x4 f2x4 l2x4 l2x4d0 l2x4d1
  have c3x0 := Own.cell O3 0 rfl
  have f3x0 := Own.free O3 0 rfl
  have l3x0 := Own.lt O3 0 rfl
  have l3x0d0 := le_up 0 l3x0
  have l3x0d1 := le_up 1 l3x0
  simp only [upN] at l3x0d0 l3x0d1
  have c3x1 := Own.cell O3 1 rfl
  have f3x1 := Own.free O3 1 rfl
  have l3x1 := Own.lt O3 1 rfl
  have l3x1d0 := le_up 0 l3x1
  have l3x1d1 := le_up 1 l3x1
  simp only [upN] at l3x1d0 l3x1d1
  have c3x2 := Own.cell O3 2 rfl
  have f3x2 := Own.free O3 2 rfl
  have l3x2 := Own.lt O3 2 rfl
  have l3x2d0 := le_up 0 l3x2
  have l3x2d1 := le_up 1 l3x2
  simp only [upN] at l3x2d0 l3x2d1
  have c3x3 := Own.cell O3 3 rfl
  have f3x3 := Own.free O3 3 rfl
  have l3x3 := Own.lt O3 3 rfl
  have l3x3d0 := le_up 0 l3x3
  have l3x3d1 := le_up 1 l3x3
  simp only [upN] at l3x3d0 l3x3d1
  have c3x4 := Own.cell O3 4 rfl
  have f3x4 := Own.free O3 4 rfl
  have l3x4 := Own.lt O3 4 rfl
  have l3x4d0 := le_up 0 l3x4
  have l3x4d1 := le_up 1 l3x4
  simp only [upN] at l3x4d0 l3x4d1
  have HO3 := Lib.hid O3
  clear O3 hb3
  go_wp2_with fail
  refine bodyPost_ret (v := W (0#256 - q)) (by simp [results, Try.results25, go_sem, *]) rfl ?_
  exact ⟨rfl, by go_grown⟩
set_option maxRecDepth 20000 in
set_option maxHeartbeats 2000000 in
theorem refsmod_p (a b : BitVec 256) (w : World) (h : a.getLsbD 255 = false) : Calls Try.prog 25 #[W a, W b] w fun e w' => e = .returned (W (smodW a b)) ∧ Below w.heap.size w w' := by
  have HA := Lib.hid (fun V => refAbsW a V)
  have HB := Lib.hid (fun V => refAbsW b V)
  have HD := Lib.hid (fun V => refDivideW (absW a) (absW b) V)
  have HNa := Lib.hid (fun V => refNegW a V)
  have HNb := Lib.hid (fun V => refNegW b V)
  unfold smodW
  generalize a.getLsbD 255 = na at *
  generalize b.getLsbD 255 = nb at *
  generalize modW (absW a) (absW b) = q at *
  generalize divW (absW a) (absW b) = q' at *
  generalize absW a = xa at *
  generalize absW b = xb at *
  subst h
  go_enter Try.func25, Try.ntmps25
  go_wp2_with fail
  refine wp_region_grow w.heap.size 12 3072 768 [(0, 0, 256, 4), (1, 1, 512, 256), (2, 0, 1024, 8), (3, 6, 2048, 1024), (4, 10, 4096, 2560), (5, 16, 128, 4096), (6, 32, 8192, 128), (7, 32, 16384, 128), (8, 0, 32, 0), (9, 0, 64, 0), (10, 895, 0, 8224), (11, 2047, 0, 16448)] [(.p 0, 1), (.p 1, 3), (.p 2, 7), (.p 3, 15), (.p 4, 31), (.p 5, 63), (.p 6, 127), (.p 7, 255), (.gg 8 9, 1023), (.c 10, 2047), (.c 11, 4095)] [] _ (fun p hp => hp) (by first | omega | (simp; done) | (simp; omega)) (by kernel_rfl) (by kernel_rfl) (Own.new (Own.new (Own.new (Own.nil w) (w.heap.size) (by first | rfl | simp)) (w.heap.size + 1) (by simp)) (w.heap.size + 1 + 1) (by simp)) ?_
  refine wpG_pure (i := 0) (v := ?v1x0) rfl rfl (by rfl) (fun w hB hG K hK => ?h1x0) ?_
  case h1x0 =>
    have cx := Own.cell hG 2 rfl
    go_wp2_with fail
    exact hK _ (Below.refl _ _)
  simp only [List.set_cons_zero, List.set_cons_succ]
  refine wpG_pure (i := 1) (v := ?v1x1) rfl rfl (by rfl) (fun w hB hG K hK => ?h1x1) ?_
  case h1x1 =>
    go_wp2_with fail
    refine (HA.out _).mono ?_
    rintro e wx ⟨rfl, hbx⟩
    exact hK _ hbx
  simp only [List.set_cons_zero, List.set_cons_succ]
  refine wpG_pure (i := 2) (v := ?v1x2) rfl rfl (by rfl) (fun w hB hG K hK => ?h1x2) ?_
  case h1x2 =>
    have cx := Own.cell hG 1 rfl
    go_wp2_with fail
    exact hK _ (Below.refl _ _)
  simp only [List.set_cons_zero, List.set_cons_succ]
  refine wpG_pure (i := 3) (v := ?v1x3) rfl rfl (by rfl) (fun w hB hG K hK => ?h1x3) ?_
  case h1x3 =>
    go_wp2_with fail
    refine (HB.out _).mono ?_
    rintro e wx ⟨rfl, hbx⟩
    exact hK _ hbx
  simp only [List.set_cons_zero, List.set_cons_succ]
  refine wpG_pure (i := 4) (v := ?v1x4) rfl rfl (by rfl) (fun w hB hG K hK => ?h1x4) ?_
  case h1x4 =>
    go_wp2_with fail
    refine (HD.out _).mono ?_
    rintro e wx ⟨rfl, hbx⟩
    exact hK _ hbx
  simp only [List.set_cons_zero, List.set_cons_succ]
  refine wpG_move (i := 5) rfl rfl rfl (by rfl) rfl ?_
  simp only [List.set_cons_zero, List.set_cons_succ]
  refine wpG_pure (i := 6) (v := ?v1x6) rfl rfl (by rfl) (fun w hB hG K hK => ?h1x6) ?_
  case h1x6 =>
    go_wp2_with fail
    exact hK _ (Below.refl _ _)
  simp only [List.set_cons_zero, List.set_cons_succ]
  refine wpG_pure (i := 7) (v := ?v1x7) rfl rfl (by rfl) (fun w hB hG K hK => ?h1x7) ?_
  case h1x7 =>
    go_wp2_with fail
    exact hK _ (Below.refl _ _)
  simp only [List.set_cons_zero, List.set_cons_succ]
  refine wpG_pair (i := 8) (j := 9) (c := ?c1x8) (t := ?t1x8) (c2 := ?c1x9) (t2 := ?t1x9) (fun b => .pointer (some ⟨b, 0, none⟩)) (fun b => .pointer (some ⟨b, 0, none⟩)) rfl rfl rfl rfl (by rfl) (by rfl) (fun w hB hG K hK => ?h1x8) (fun w hB hG K hK => ?h1x9) (fun v1g1 v1g2 l1g1 l1g2 n1g1 _ _ => ?_)
  case h1x8 =>
    go_wp2_with fail
    exact hK
  case h1x9 =>
    go_wp2_with fail
    exact hK
  simp only [List.set_cons_zero, List.set_cons_succ]
  try simp only [World.size_alloc, World.size_drew, World.size_setCell] at l1g1
  try simp only [World.size_alloc, World.size_drew, World.size_setCell] at l1g2
  refine wpG_store (i := 10) (c' := ?c1x10) 1 rfl (Ne1.cons (by first | omega | (simp; omega)) (Ne1.cons (by first | omega | (simp; omega)) (Ne1.cons (by first | omega | (simp; omega)) (Ne1.cons (by first | omega | (simp; omega)) Ne1.nil)))) (by first | omega | (simp; omega)) (fun p hp => List.mem_cons_of_mem _ (List.mem_cons_of_mem _ (hp))) rfl rfl (by rfl) (fun w hB hF hG K hK => ?h1x10) ?_
  case h1x10 =>
    have cx := hF.cell
    have fx := hF.free
    go_wp2_with fail
    refine hK _ (Same.set (Same.set (Same.set (Same.set (Same.refl _ _) _ _) _ _) _ _) _ _) ?_
    exact (Blk.set (Blk.set (Blk.set (Blk.set hF _ _) _ _) _ _) _ _)
  simp only [List.set_cons_zero, List.set_cons_succ, List.setIfInBounds_toArray]
  refine wpG_store (i := 11) (c' := ?c1x11) 0 rfl (Ne1.cons (by first | omega | (simp; omega)) (Ne1.cons (by first | omega | (simp; omega)) (Ne1.cons (by first | omega | (simp; omega)) (Ne1.cons (by first | omega | (simp; omega)) Ne1.nil)))) (by first | omega | (simp; omega)) (fun p hp => List.mem_cons_of_mem _ (List.mem_cons_of_mem _ (hp))) rfl rfl (by rfl) (fun w hB hF hG K hK => ?h1x11) ?_
  case h1x11 =>
    have cx := hF.cell
    have fx := hF.free
    go_wp2_with fail
    refine hK _ (Same.set (Same.set (Same.set (Same.set (Same.refl _ _) _ _) _ _) _ _) _ _) ?_
    exact (Blk.set (Blk.set (Blk.set (Blk.set hF _ _) _ _) _ _) _ _)
  simp only [List.set_cons_zero, List.set_cons_succ, List.setIfInBounds_toArray]
  refine wpG_nil (fun w1 hb1 hG1 => ?_)
  simp only [List.append_eq, List.cons_append, List.nil_append, List.drop_succ_cons, List.drop_zero, List.drop_nil]
  have u1g1 := Own.lt hG1 1 rfl
  have u1g2 := Own.lt hG1 0 rfl
  have O1 := Own.of hG1
  try simp only [List.setIfInBounds_toArray, List.set_cons_zero, List.set_cons_succ] at O1
  have bw1 : Below w.heap.size w w1 := Below.trans (by go_grown) (Below.mono hb1 (by first | omega | (simp; done) | (simp; omega)))
  have zw1 := Below.size hb1
  try simp only [World.size_alloc, World.size_drew, World.size_setCell] at zw1
  have c1x0 := Own.cell O1 0 rfl
  have f1x0 := Own.free O1 0 rfl
  have l1x0 := Own.lt O1 0 rfl
  have l1x0d0 := le_up 0 l1x0
  have l1x0d1 := le_up 1 l1x0
  simp only [upN] at l1x0d0 l1x0d1
  have c1x1 := Own.cell O1 1 rfl
  have f1x1 := Own.free O1 1 rfl
  have l1x1 := Own.lt O1 1 rfl
  have l1x1d0 := le_up 0 l1x1
  have l1x1d1 := le_up 1 l1x1
  simp only [upN] at l1x1d0 l1x1d1
  have c1x2 := Own.cell O1 2 rfl
  have f1x2 := Own.free O1 2 rfl
  have l1x2 := Own.lt O1 2 rfl
  have l1x2d0 := le_up 0 l1x2
  have l1x2d1 := le_up 1 l1x2
  simp only [upN] at l1x2d0 l1x2d1
  have c1x3 := Own.cell O1 3 rfl
  have f1x3 := Own.free O1 3 rfl
  have l1x3 := Own.lt O1 3 rfl
  have l1x3d0 := le_up 0 l1x3
  have l1x3d1 := le_up 1 l1x3
  simp only [upN] at l1x3d0 l1x3d1
  have c1x4 := Own.cell O1 4 rfl
  have f1x4 := Own.free O1 4 rfl
  have l1x4 := Own.lt O1 4 rfl
  have l1x4d0 := le_up 0 l1x4
  have l1x4d1 := le_up 1 l1x4
  simp only [upN] at l1x4d0 l1x4d1
  have HO1 := Lib.hid O1
  clear O1 hb1
  go_wp2_with fail
  refine (HNa.out _).mono ?_
  rintro e w2 ⟨rfl, hb2⟩
  have O2 := Own.grow' hb2 HO1.out
  try simp only [List.setIfInBounds_toArray, List.set_cons_zero, List.set_cons_succ] at O2
  have bw2 : Below w.heap.size w w2 := Below.trans (by go_grown) (Below.mono hb2 (by first | omega | (simp; done) | (simp; omega)))
  have zw2 := Below.size hb2
  try simp only [World.size_alloc, World.size_drew, World.size_setCell] at zw2
  clear c1x0 f1x0 l1x0 l1x0d0 l1x0d1 c1x1 f1x1 l1x1 l1x1d0 l1x1d1 c1x2 f1x2 l1x2 l1x2d0 l1x2d1 c1x3 f1x3 l1x3 l1x3d0 l1x3d1 c1x4 f1x4 l1x4 l1x4d0 l1x4d1
  have c2x0 := Own.cell O2 0 rfl
  have f2x0 := Own.free O2 0 rfl
  have l2x0 := Own.lt O2 0 rfl
  have l2x0d0 := le_up 0 l2x0
  have l2x0d1 := le_up 1 l2x0
  simp only [upN] at l2x0d0 l2x0d1
  have c2x1 := Own.cell O2 1 rfl
  have f2x1 := Own.free O2 1 rfl
  have l2x1 := Own.lt O2 1 rfl
  have l2x1d0 := le_up 0 l2x1
  have l2x1d1 := le_up 1 l2x1
  simp only [upN] at l2x1d0 l2x1d1
  have c2x2 := Own.cell O2 2 rfl
  have f2x2 := Own.free O2 2 rfl
  have l2x2 := Own.lt O2 2 rfl
  have l2x2d0 := le_up 0 l2x2
  have l2x2d1 := le_up 1 l2x2
  simp only [upN] at l2x2d0 l2x2d1
  have c2x3 := Own.cell O2 3 rfl
  have f2x3 := Own.free O2 3 rfl
  have l2x3 := Own.lt O2 3 rfl
  have l2x3d0 := le_up 0 l2x3
  have l2x3d1 := le_up 1 l2x3
  simp only [upN] at l2x3d0 l2x3d1
  have c2x4 := Own.cell O2 4 rfl
  have f2x4 := Own.free O2 4 rfl
  have l2x4 := Own.lt O2 4 rfl
  have l2x4d0 := le_up 0 l2x4
  have l2x4d1 := le_up 1 l2x4
  simp only [upN] at l2x4d0 l2x4d1
  have HO2 := Lib.hid O2
  clear O2 hb2
  go_wp2_with fail
  refine bodyPost_ret (v := W q) (by simp [results, Try.results25, go_sem, *]) rfl ?_
  exact ⟨rfl, by go_grown⟩
theorem refSModW (a b : BitVec 256) (w : World) : Calls Try.prog 25 #[W a, W b] w fun e w' => e = .returned (W (smodW a b)) ∧ Below w.heap.size w w' := by
  cases h : a.getLsbD 255
  · exact refsmod_p a b w h
  · exact refsmod_n a b w h
end Go.Proofs.Ytjmaigienigpnaa
