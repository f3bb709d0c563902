/- The law DigestHolds: its walk. -/
import Derived.Test.YtojmifniidddpaaDigW
import Derived.Test.YtojmifniidddpaaDigU
import Derived.Test.YtojmifniidddpaaDigF
import Derived.Test.YtojmifniidddpaaArrEq
set_option linter.unusedVariables false
set_option linter.unusedSimpArgs false
namespace Go.Proofs.Ytojmifniidddpaa
open Go.RowKit

theorem eq25 (a b : List (BitVec 64)) (ha : a.length = 25) (hb : b.length = 25) (W : World) : (binOp .eql 32 (.agg (bvA a)) (.agg (bvA b))).run Try.prog W = .ok (.bool (decide (a = b))) W := by
  have h := eql_ints (P := Try.prog) (t := 32) (e := 28) (len := 25) (k := .u64) (by kernel_rfl) (by kernel_rfl) (by kernel_rfl) W (a.map fun x => (x.toNat : Int)) (b.map fun x => (x.toNat : Int)) (by simpa using ha) (by simpa using hb)
  simp only [List.map_map] at h
  refine Eq.trans h ?_
  congr 3
  apply propext
  constructor
  · intro h
    exact (List.map_inj_right (fun x y hxy => BitVec.eq_of_toNat_eq (Int.ofNat.inj hxy))).1 h
  · rintro rfl; rfl
theorem guard25 (op : BinOp) (x y : Operand) (a b : Array Value) (W : World) : (eqGuard op 32 x y (.agg a) (.agg b)).run Try.prog W = .ok () W := run_eqGuard_agg W op 32 x y a b (by kernel_rfl)
theorem bvA_size25 {l : List (BitVec 64)} (h : l.length = 25) : (bvA l).size = 25 := by simp [bvA, h]
theorem turnA_any {l : List (BitVec 64)} (hl : l.length = 25) (w : World) : Calls Try.prog 12 #[.agg (bvA l)] w fun e w' => e = .returned (.agg (bvA (turnS l))) ∧ Below w.heap.size w w' := turn_calls hl w
theorem refturnA_any {l : List (BitVec 64)} (hl : l.length = 25) (w : World) : Calls Try.prog 13 #[.agg (bvA l)] w fun e w' => e = .returned (.agg (bvA (turnS l))) ∧ Below w.heap.size w w' := refturn_calls hl w
attribute [local irreducible] turnS bvA
set_option maxRecDepth 20000 in
set_option maxHeartbeats 4000000 in
theorem holds_w (a b : List (BitVec 64)) (ha : a.length = 25) (hb : b.length = 25) (z : Bool) (h1 : ∀ W, (binOp .eql 32 (.agg (bvA (turnS a))) (.agg (bvA (turnS b)))).run Try.prog W = .ok (.bool z) W) (h2 : ∀ W, (binOp .eql 32 (.agg (bvA a)) (.agg (bvA b))).run Try.prog W = .ok (.bool z) W) (w : World) :
    Calls Try.prog 5 #[.agg (bvA a), .agg (bvA b)] w fun e w' => e = .returned (.bool true) ∧ Below w.heap.size w w' := by
  have hu : Try.prog.underlying 32 = some (.array 25 28) := by kernel_rfl
  have hi : (Try.prog.info? 32).map (·.size) = some 25 := by kernel_rfl
  have HU := Lib.hid hu
  have HIa := Lib.hid (hi.trans (congrArg some (bvA_size25 ha).symm))
  have HIb := Lib.hid (hi.trans (congrArg some (bvA_size25 hb).symm))
  have H1 := Lib.hid h1
  have H2 := Lib.hid h2
  have HG := Lib.hid guard25
  have HTa := Lib.hid (fun V => turnA_any ha V)
  have HTb := Lib.hid (fun V => turnA_any hb V)
  clear hu hi h1 h2 ha hb
  go_enter Try.func5, Try.ntmps5
  go_wp2_with fail
  refine wp_region_grow w.heap.size 12 0 0 [(0, 0, 32, 4), (1, 1, 64, 32), (2, 0, 128, 8), (3, 6, 256, 128), (4, 10, 512, 320), (5, 0, 1024, 4), (6, 0, 2048, 8), (7, 96, 4096, 3072), (8, 144, 8192, 4608), (9, 264, 16384, 8192), (10, 512, 32768, 16384), (11, 1536, 65536, 49152), (12, 4095, 16, 65536)] [(.p 0, 1), (.p 1, 3), (.p 2, 7), (.p 3, 15), (.p 4, 31), (.p 5, 63), (.p 6, 127), (.p 7, 255), (.p 8, 511), (.p 9, 1023), (.p 10, 2047), (.p 11, 4095)] [(12, 8191)] _ (fun p hp => hp) (by first | omega | (simp; done) | (simp; omega)) (by kernel_rfl) (by kernel_rfl) (Own.new (Own.new (Own.nil w) (w.heap.size) (by first | rfl | simp)) (w.heap.size + 1) (by simp)) ?_
  refine wpG_pure (i := 0) (v := ?v1x0) rfl rfl (by rfl) (fun w hB hG K hK => ?h1x0) ?_
  case h1x0 =>
    refine wp_load_row 32 (.tmp 2) (by with_reducible rfl) _ rfl _ _ (0, 0) _ (Own.get hG 1 rfl) HU.out rfl (by first | exact HIa.out | exact HIb.out) ?_
    exact hK _ (Below.refl _ _)
  simp only [List.set_cons_zero, List.set_cons_succ]
  refine wpG_pure (i := 1) (v := ?v1x1) rfl rfl (by rfl) (fun w hB hG K hK => ?h1x1) ?_
  case h1x1 =>
    go_wp2_with fail
    refine (HTa.out _).mono ?_
    rintro e wx ⟨rfl, hbx⟩
    exact hK _ hbx
  simp only [List.set_cons_zero, List.set_cons_succ]
  refine wpG_pure (i := 2) (v := ?v1x2) rfl rfl (by rfl) (fun w hB hG K hK => ?h1x2) ?_
  case h1x2 =>
    refine wp_load_row 32 (.tmp 3) (by with_reducible rfl) _ rfl _ _ (0, 0) _ (Own.get hG 0 rfl) HU.out rfl (by first | exact HIa.out | exact HIb.out) ?_
    exact hK _ (Below.refl _ _)
  simp only [List.set_cons_zero, List.set_cons_succ]
  refine wpG_pure (i := 3) (v := ?v1x3) rfl rfl (by rfl) (fun w hB hG K hK => ?h1x3) ?_
  case h1x3 =>
    go_wp2_with fail
    refine (HTb.out _).mono ?_
    rintro e wx ⟨rfl, hbx⟩
    exact hK _ hbx
  simp only [List.set_cons_zero, List.set_cons_succ]
  refine wpG_pure (i := 4) (v := ?v1x4) rfl rfl (by rfl) (fun w hB hG K hK => ?h1x4) ?_
  case h1x4 =>
    have hq := H1.out
    have hg := HG.out
    go_wp2_with fail
    exact hK _ (Below.refl _ _)
  simp only [List.set_cons_zero, List.set_cons_succ]
  refine wpG_pure (i := 5) (v := ?v1x5) rfl rfl (by rfl) (fun w hB hG K hK => ?h1x5) ?_
  case h1x5 =>
    refine wp_load_row 32 (.tmp 2) (by with_reducible rfl) _ rfl _ _ (0, 0) _ (Own.get hG 1 rfl) HU.out rfl (by first | exact HIa.out | exact HIb.out) ?_
    exact hK _ (Below.refl _ _)
  simp only [List.set_cons_zero, List.set_cons_succ]
  refine wpG_pure (i := 6) (v := ?v1x6) rfl rfl (by rfl) (fun w hB hG K hK => ?h1x6) ?_
  case h1x6 =>
    refine wp_load_row 32 (.tmp 3) (by with_reducible rfl) _ rfl _ _ (0, 0) _ (Own.get hG 0 rfl) HU.out rfl (by first | exact HIa.out | exact HIb.out) ?_
    exact hK _ (Below.refl _ _)
  simp only [List.set_cons_zero, List.set_cons_succ]
  refine wpG_pure (i := 7) (v := ?v1x7) rfl rfl (by rfl) (fun w hB hG K hK => ?h1x7) ?_
  case h1x7 =>
    have hq := H2.out
    have hg := HG.out
    go_wp2_with fail
    exact hK _ (Below.refl _ _)
  simp only [List.set_cons_zero, List.set_cons_succ]
  refine wpG_pure (i := 8) (v := ?v1x8) rfl rfl (by rfl) (fun w hB hG K hK => ?h1x8) ?_
  case h1x8 =>
    go_wp2_with fail
    exact hK _ (Below.refl _ _)
  simp only [List.set_cons_zero, List.set_cons_succ]
  refine wpG_move (i := 9) rfl rfl rfl (by rfl) rfl ?_
  simp only [List.set_cons_zero, List.set_cons_succ]
  refine wpG_pure (i := 10) (v := ?v1x10) rfl rfl (by rfl) (fun w hB hG K hK => ?h1x10) ?_
  case h1x10 =>
    go_wp2_with fail
    refine (works_any _).mono ?_
    rintro e wx ⟨rfl, hbx⟩
    exact hK _ hbx
  simp only [List.set_cons_zero, List.set_cons_succ]
  refine wpG_pure (i := 11) (v := ?v1x11) rfl rfl (by rfl) (fun w hB hG K hK => ?h1x11) ?_
  case h1x11 =>
    go_wp2_with fail
    exact hK _ (Below.refl _ _)
  simp only [List.set_cons_zero, List.set_cons_succ]
  refine wpG_nil (fun w1 hb1 hG1 => ?_)
  simp only [List.append_eq, List.cons_append, List.nil_append, List.drop_succ_cons, List.drop_zero, List.drop_nil]
  have O1 := Own.of hG1
  try simp only [List.setIfInBounds_toArray, List.set_cons_zero, List.set_cons_succ] at O1
  have bw1 : Below w.heap.size w w1 := Below.trans (by go_grown) (Below.mono hb1 (by first | omega | (simp; done) | (simp; omega)))
  have zw1 := Below.size hb1
  try simp only [World.size_alloc, World.size_drew, World.size_setCell] at zw1
  have c1x0 := Own.cell O1 0 rfl
  have f1x0 := Own.free O1 0 rfl
  have l1x0 := Own.lt O1 0 rfl
  have l1x0d0 := le_up 0 l1x0
  have l1x0d1 := le_up 1 l1x0
  simp only [upN] at l1x0d0 l1x0d1
  have c1x1 := Own.cell O1 1 rfl
  have f1x1 := Own.free O1 1 rfl
  have l1x1 := Own.lt O1 1 rfl
  have l1x1d0 := le_up 0 l1x1
  have l1x1d1 := le_up 1 l1x1
  simp only [upN] at l1x1d0 l1x1d1
  have HO1 := Lib.hid O1
  clear O1 hb1
  go_wp2_with fail
  go_ret
  exact ⟨rfl, by go_grown⟩
theorem holds_any (a b : List (BitVec 64)) (ha : a.length = 25) (hb : b.length = 25) (w : World) :
    Calls Try.prog 5 #[.agg (bvA a), .agg (bvA b)] w fun e w' => e = .returned (.bool true) ∧ Below w.heap.size w w' := by
  refine holds_w a b ha hb (decide (a = b)) (fun W => ?_) (fun W => eq25 a b ha hb W) w
  rw [eq25 _ _ (turnS_len _ ha) (turnS_len _ hb) W]
  congr 2
  rw [decide_eq_decide]
  exact ⟨turnS_inj ha hb, fun h => by rw [h]⟩
theorem consts_at {n : Nat} (h : n < 24) : constsC[n]? = some (.int .u64 ((constB (n : Int)).toNat : Int)) := by
  rw [constB_toNat h]
  exact below24 (P := fun n => constsC[n]? = some (.int .u64 (constN (n : Int)))) (by kernel_rfl) (by kernel_rfl) (by kernel_rfl) (by kernel_rfl) (by kernel_rfl) (by kernel_rfl) (by kernel_rfl) (by kernel_rfl) (by kernel_rfl) (by kernel_rfl) (by kernel_rfl) (by kernel_rfl) (by kernel_rfl) (by kernel_rfl) (by kernel_rfl) (by kernel_rfl) (by kernel_rfl) (by kernel_rfl) (by kernel_rfl) (by kernel_rfl) (by kernel_rfl) (by kernel_rfl) (by kernel_rfl) (by kernel_rfl) n h
set_option maxRecDepth 20000 in
set_option maxHeartbeats 4000000 in
theorem turns_s (a : List (BitVec 64)) (r : Int) (hr : r < 0 ∨ 23 < r) (w : World) :
    Calls Try.prog 4 #[.agg (bvA a), .int .i64 r] w fun e w' => e = .returned (.bool true) ∧ Below w.heap.size w w' := by
  rcases hr with hr | hr
  · have hd1 : decide (r < 0) = true := by simpa using hr
    go_enter Try.func4, Try.ntmps4
    go_wp2_with fail
    refine (works_any _).mono ?_
    rintro e w1 ⟨rfl, hb1⟩
    have O1 := Own.grow' hb1 (Own.new (Own.nil w) (w.heap.size) (by first | rfl | simp))
    try simp only [List.setIfInBounds_toArray, List.set_cons_zero, List.set_cons_succ] at O1
    have bw1 : Below w.heap.size w w1 := Below.trans (by go_grown) (Below.mono hb1 (by first | omega | (simp; done) | (simp; omega)))
    have zw1 := Below.size hb1
    try simp only [World.size_alloc, World.size_drew, World.size_setCell] at zw1
    have c1x0 := Own.cell O1 0 rfl
    have f1x0 := Own.free O1 0 rfl
    have l1x0 := Own.lt O1 0 rfl
    have l1x0d0 := le_up 0 l1x0
    have l1x0d1 := le_up 1 l1x0
    simp only [upN] at l1x0d0 l1x0d1
    have HO1 := Lib.hid O1
    clear O1 hb1
    go_wp2_with fail
    go_ret
    exact ⟨rfl, by go_grown⟩
  · have hd1 : decide (r < 0) = false := by simp; omega
    have hd2 : decide (23 < r) = true := by simpa using hr
    go_enter Try.func4, Try.ntmps4
    go_wp2_with fail
    refine (works_any _).mono ?_
    rintro e w1 ⟨rfl, hb1⟩
    have O1 := Own.grow' hb1 (Own.new (Own.nil w) (w.heap.size) (by first | rfl | simp))
    try simp only [List.setIfInBounds_toArray, List.set_cons_zero, List.set_cons_succ] at O1
    have bw1 : Below w.heap.size w w1 := Below.trans (by go_grown) (Below.mono hb1 (by first | omega | (simp; done) | (simp; omega)))
    have zw1 := Below.size hb1
    try simp only [World.size_alloc, World.size_drew, World.size_setCell] at zw1
    have c1x0 := Own.cell O1 0 rfl
    have f1x0 := Own.free O1 0 rfl
    have l1x0 := Own.lt O1 0 rfl
    have l1x0d0 := le_up 0 l1x0
    have l1x0d1 := le_up 1 l1x0
    simp only [upN] at l1x0d0 l1x0d1
    have HO1 := Lib.hid O1
    clear O1 hb1
    go_wp2_with fail
    go_ret
    exact ⟨rfl, by go_grown⟩
set_option maxRecDepth 20000 in
set_option maxHeartbeats 4000000 in
theorem turns_g (a : List (BitVec 64)) (ha : a.length = 25) (r : Nat) (hr : r < 24) (w : World) :
    Calls Try.prog 4 #[.agg (bvA a), .int .i64 r] w fun e w' => e = .returned (.bool true) ∧ Below w.heap.size w w' := by
  have hu : Try.prog.underlying 32 = some (.array 25 28) := by kernel_rfl
  have hi : (Try.prog.info? 32).map (·.size) = some 25 := by kernel_rfl
  have hi4 : (Try.prog.info? 33).map (·.size) = some 24 := by kernel_rfl
  have HU := Lib.hid hu
  have HIa := Lib.hid (hi.trans (congrArg some (bvA_size25 ha).symm))
  have HI4 := Lib.hid hi4
  have HE := Lib.hid (fun W => (eq25 (turnS a) (turnS a) (turnS_len _ ha) (turnS_len _ ha) W).trans (by rw [decide_eq_true rfl]))
  have HG := Lib.hid guard25
  have HTa := Lib.hid (fun V => turnA_any ha V)
  have HRa := Lib.hid (fun V => refturnA_any ha V)
  have HCA := Lib.hid (consts_at hr)
  have HK := Lib.hid (fun V => constant_calls hr V)
  have hd1 : decide ((r : Int) < 0) = false := by simp
  have hd2 : decide (23 < (r : Int)) = false := by simp; omega
  generalize constB (r : Int) = cb at *
  clear hu hi hi4 ha
  go_enter Try.func4, Try.ntmps4
  go_wp2_with fail
  refine (consts_calls _).mono ?_
  rintro e w1 ⟨rfl, hb1⟩
  have O1 := Own.grow' hb1 (Own.new (Own.nil w) (w.heap.size) (by first | rfl | simp))
  try simp only [List.setIfInBounds_toArray, List.set_cons_zero, List.set_cons_succ] at O1
  have bw1 : Below w.heap.size w w1 := Below.trans (by go_grown) (Below.mono hb1 (by first | omega | (simp; done) | (simp; omega)))
  have zw1 := Below.size hb1
  try simp only [World.size_alloc, World.size_drew, World.size_setCell] at zw1
  have c1x0 := Own.cell O1 0 rfl
  have f1x0 := Own.free O1 0 rfl
  have l1x0 := Own.lt O1 0 rfl
  have l1x0d0 := le_up 0 l1x0
  have l1x0d1 := le_up 1 l1x0
  simp only [upN] at l1x0d0 l1x0d1
  have HO1 := Lib.hid O1
  clear O1 hb1
  have HNW := Lib.hid (show Blk (w1.alloc (.cells zero24 33)) w1.heap.size zero24 33 from heap_alloc_new _ _)
  go_upto_region 4 with (first | (refine wpList_store_row rfl 33 (.tmp 5) (.tmp 13) (by with_reducible rfl) _ constsC rfl rfl _ _ HNW.out HI4.out rfl (by simp [constsC, consts, Value.oneCell']) ?_))
  refine wp_name fun wc hwc => ?_
  have hBc : Below w.heap.size w wc := by rw [hwc]; exact below_setRow (bw1.trans ((World.below_alloc w1 _).mono bw1.size)) bw1.size _
  have hOc : Own [(w1.heap.size, constsC, 33), (w.heap.size, bvA a, 32)] wc := by rw [hwc]; exact Own.cons (setRow_heap _ _ _ _ _ _ HNW.out) (Own.cons ((setRow_other _ _ _ _ (by have := HO1.out.lt 0 rfl; omega)).trans ((HO1.out.get 0 rfl).grow (World.below_alloc _ _))) (Own.nil _))
  clear hwc
  have bw2 := hBc
  clear c1x0 f1x0 l1x0 l1x0d0 l1x0d1
  have O2 := hOc
  have c2x0 := Own.cell O2 0 rfl
  have f2x0 := Own.free O2 0 rfl
  have l2x0 := Own.lt O2 0 rfl
  have l2x0d0 := le_up 0 l2x0
  have l2x0d1 := le_up 1 l2x0
  simp only [upN] at l2x0d0 l2x0d1
  have c2x1 := Own.cell O2 1 rfl
  have f2x1 := Own.free O2 1 rfl
  have l2x1 := Own.lt O2 1 rfl
  have l2x1d0 := le_up 0 l2x1
  have l2x1d1 := le_up 1 l2x1
  simp only [upN] at l2x1d0 l2x1d1
  have HO2 := Lib.hid O2
  clear O2
  go_wp2_with fail
  refine wp_region_grow w.heap.size 16 0 0 [(0, 0, 16384, 4), (1, 1, 32768, 16384), (2, 0, 65536, 4), (3, 6, 131072, 65536), (4, 10, 262144, 163840), (5, 24, 524288, 262144), (6, 32, 1048576, 524290), (7, 96, 2097152, 1572896), (8, 160, 4194304, 2621440), (9, 32, 8388608, 524290), (10, 544, 16777216, 8912896), (11, 1312, 33554432, 21495808), (12, 2080, 67108864, 34078720), (13, 5120, 134217728, 67108864), (14, 8192, 268435456, 134217728), (15, 24576, 536870912, 402653184), (16, 65535, 16, 536870912)] [(.p 0, 1), (.p 1, 3), (.p 2, 7), (.p 3, 15), (.p 4, 31), (.p 5, 63), (.p 6, 127), (.p 7, 255), (.p 8, 511), (.p 9, 1023), (.p 10, 2047), (.p 11, 4095), (.p 12, 8191), (.p 13, 16383), (.p 14, 32767), (.p 15, 65535)] [(16, 131071)] _ (fun p hp => hp) (by first | omega | (simp; done) | (simp; omega)) (by kernel_rfl) (by kernel_rfl) HO2.out ?_
  refine wpG_pure (i := 0) (v := ?v3x0) rfl rfl (by rfl) (fun w hB hG K hK => ?h3x0) ?_
  case h3x0 =>
    refine wp_load_row 32 (.tmp 2) (by with_reducible rfl) _ rfl _ _ (0, 0) _ (Own.get hG 1 rfl) HU.out rfl HIa.out ?_
    exact hK _ (Below.refl _ _)
  simp only [List.set_cons_zero, List.set_cons_succ]
  refine wpG_pure (i := 1) (v := ?v3x1) rfl rfl (by rfl) (fun w hB hG K hK => ?h3x1) ?_
  case h3x1 =>
    go_wp2_with fail
    refine (HTa.out _).mono ?_
    rintro e wx ⟨rfl, hbx⟩
    exact hK _ hbx
  simp only [List.set_cons_zero, List.set_cons_succ]
  refine wpG_pure (i := 2) (v := ?v3x2) rfl rfl (by rfl) (fun w hB hG K hK => ?h3x2) ?_
  case h3x2 =>
    refine wp_load_row 32 (.tmp 2) (by with_reducible rfl) _ rfl _ _ (0, 0) _ (Own.get hG 1 rfl) HU.out rfl HIa.out ?_
    exact hK _ (Below.refl _ _)
  simp only [List.set_cons_zero, List.set_cons_succ]
  refine wpG_pure (i := 3) (v := ?v3x3) rfl rfl (by rfl) (fun w hB hG K hK => ?h3x3) ?_
  case h3x3 =>
    go_wp2_with fail
    refine (HRa.out _).mono ?_
    rintro e wx ⟨rfl, hbx⟩
    exact hK _ hbx
  simp only [List.set_cons_zero, List.set_cons_succ]
  refine wpG_pure (i := 4) (v := ?v3x4) rfl rfl (by rfl) (fun w hB hG K hK => ?h3x4) ?_
  case h3x4 =>
    have hq := HE.out
    have hg := HG.out
    go_wp2_with fail
    exact hK _ (Below.refl _ _)
  simp only [List.set_cons_zero, List.set_cons_succ]
  refine wpG_move (i := 5) rfl rfl rfl (by rfl) rfl ?_
  simp only [List.set_cons_zero, List.set_cons_succ]
  refine wpG_move (i := 6) rfl rfl rfl (by rfl) rfl ?_
  simp only [List.set_cons_zero, List.set_cons_succ]
  refine wpG_pure (i := 7) (v := ?v3x7) rfl rfl (by rfl) (fun w hB hG K hK => ?h3x7) ?_
  case h3x7 =>
    go_wp2_with fail
    exact hK _ (Below.refl _ _)
  simp only [List.set_cons_zero, List.set_cons_succ]
  refine wpG_pure (i := 8) (v := ?v3x8) rfl rfl (by rfl) (fun w hB hG K hK => ?h3x8) ?_
  case h3x8 =>
    have hc8 := (hG.cell 0 rfl r).trans HCA.out
    have cx := Own.cell hG 0 rfl
    go_wp2_with fail
    exact hK _ (Below.refl _ _)
  simp only [List.set_cons_zero, List.set_cons_succ]
  refine wpG_move (i := 9) rfl rfl rfl (by rfl) rfl ?_
  simp only [List.set_cons_zero, List.set_cons_succ]
  refine wpG_pure (i := 10) (v := ?v3x10) rfl rfl (by rfl) (fun w hB hG K hK => ?h3x10) ?_
  case h3x10 =>
    go_wp2_with fail
    refine (HK.out _).mono ?_
    rintro e wx ⟨rfl, hbx⟩
    exact hK _ hbx
  simp only [List.set_cons_zero, List.set_cons_succ]
  refine wpG_pure (i := 11) (v := ?v3x11) rfl rfl (by rfl) (fun w hB hG K hK => ?h3x11) ?_
  case h3x11 =>
    go_wp2_with fail
    exact hK _ (Below.refl _ _)
  simp only [List.set_cons_zero, List.set_cons_succ]
  refine wpG_pure (i := 12) (v := ?v3x12) rfl rfl (by rfl) (fun w hB hG K hK => ?h3x12) ?_
  case h3x12 =>
    go_wp2_with fail
    exact hK _ (Below.refl _ _)
  simp only [List.set_cons_zero, List.set_cons_succ]
  refine wpG_move (i := 13) rfl rfl rfl (by rfl) rfl ?_
  simp only [List.set_cons_zero, List.set_cons_succ]
  refine wpG_pure (i := 14) (v := ?v3x14) rfl rfl (by rfl) (fun w hB hG K hK => ?h3x14) ?_
  case h3x14 =>
    go_wp2_with fail
    refine (works_any _).mono ?_
    rintro e wx ⟨rfl, hbx⟩
    exact hK _ hbx
  simp only [List.set_cons_zero, List.set_cons_succ]
  refine wpG_pure (i := 15) (v := ?v3x15) rfl rfl (by rfl) (fun w hB hG K hK => ?h3x15) ?_
  case h3x15 =>
    go_wp2_with fail
    exact hK _ (Below.refl _ _)
  simp only [List.set_cons_zero, List.set_cons_succ]
  refine wpG_nil (fun w3 hb3 hG3 => ?_)
  simp only [List.append_eq, List.cons_append, List.nil_append, List.drop_succ_cons, List.drop_zero, List.drop_nil]
  have O3 := Own.of hG3
  try simp only [List.setIfInBounds_toArray, List.set_cons_zero, List.set_cons_succ] at O3
  have bw3 : Below w.heap.size w w3 := Below.trans (by go_grown) (Below.mono hb3 (by first | omega | (simp; done) | (simp; omega)))
  have zw3 := Below.size hb3
  try simp only [World.size_alloc, World.size_drew, World.size_setCell] at zw3
  clear c2x0 f2x0 l2x0 l2x0d0 l2x0d1 c2x1 f2x1 l2x1 l2x1d0 l2x1d1
  have c3x0 := Own.cell O3 0 rfl
  have f3x0 := Own.free O3 0 rfl
  have l3x0 := Own.lt O3 0 rfl
  have l3x0d0 := le_up 0 l3x0
  have l3x0d1 := le_up 1 l3x0
  simp only [upN] at l3x0d0 l3x0d1
  have c3x1 := Own.cell O3 1 rfl
  have f3x1 := Own.free O3 1 rfl
  have l3x1 := Own.lt O3 1 rfl
  have l3x1d0 := le_up 0 l3x1
  have l3x1d1 := le_up 1 l3x1
  simp only [upN] at l3x1d0 l3x1d1
  have HO3 := Lib.hid O3
  clear O3 hb3
  go_wp2_with fail
  go_ret
  exact ⟨rfl, by go_grown⟩
end Go.Proofs.Ytojmifniidddpaa
