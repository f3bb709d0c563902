/- The law DigestSums: its walk. -/
import Derived.Test.YtojmifniidddpaaDigS
import Derived.Test.YtojmifniidddpaaDigW
import Derived.Test.YtojmifniidddpaaArrEq
set_option linter.unusedVariables false
set_option linter.unusedSimpArgs false
namespace Go.Proofs.Ytojmifniidddpaa
open Go.RowKit

theorem eq39 (g : Nat → Int) (W : World) : (binOp .eql 39 (.agg (arr32 g)) (.agg (arr32 g))).run Try.prog W = .ok (.bool true) W := by
  have h := eql_ints (P := Try.prog) (t := 39) (e := 5) (len := 32) (k := .u8) (by kernel_rfl) (by kernel_rfl) (by kernel_rfl) W ((List.range 32).map g) ((List.range 32).map g) (by simp) (by simp)
  rw [decide_eq_true rfl] at h
  exact h
theorem guard39 (op : BinOp) (x y : Operand) (a b : Array Value) (W : World) : (eqGuard op 39 x y (.agg a) (.agg b)).run Try.prog W = .ok () W := run_eqGuard_agg W op 39 x y a b (by kernel_rfl)
theorem eq43 (x : Nat → Nat) (W : World) : (binOp .eql 43 (.agg (limbs x)) (.agg (limbs x))).run Try.prog W = .ok (.bool true) W := by
  have h := eql_ints (P := Try.prog) (t := 43) (e := 28) (len := 4) (k := .u64) (by kernel_rfl) (by kernel_rfl) (by kernel_rfl) W [(x 0 : Nat), (x 1 : Nat), (x 2 : Nat), (x 3 : Nat)] [(x 0 : Nat), (x 1 : Nat), (x 2 : Nat), (x 3 : Nat)] rfl rfl
  rw [decide_eq_true rfl] at h
  exact h
theorem guard43 (op : BinOp) (x y : Operand) (a b : Array Value) (W : World) : (eqGuard op 43 x y (.agg a) (.agg b)).run Try.prog W = .ok () W := run_eqGuard_agg W op 43 x y a b (by kernel_rfl)
set_option maxRecDepth 20000 in
set_option maxHeartbeats 4000000 in
theorem sums_s (A : Option Addr) (n cap : Nat) (k : Int) (h : 500 < n ∨ k < 0 ∨ (n : Int) < k) (w : World) :
    Calls Try.prog 6 #[.slice A n cap, .int .i64 k] w fun e w' => e = .returned (.bool true) ∧ Below w.heap.size w w' := by
  by_cases h1 : 500 < n
  · have d1 : decide ((500 : Int) < n) = true := by simp; omega
    go_enter Try.func6, Try.ntmps6
    go_wp2_with fail
    refine (works_any _).mono ?_
    rintro e w1 ⟨rfl, hb1⟩
    have O1 := Own.grow' hb1 (Own.nil w)
    try simp only [List.setIfInBounds_toArray, List.set_cons_zero, List.set_cons_succ] at O1
    have bw1 : Below w.heap.size w w1 := Below.trans (by go_grown) (Below.mono hb1 (by first | omega | (simp; done) | (simp; omega)))
    have zw1 := Below.size hb1
    try simp only [World.size_alloc, World.size_drew, World.size_setCell] at zw1
    have HO1 := Lib.hid O1
    clear O1 hb1
    go_wp2_with fail
    go_ret
    exact ⟨rfl, by go_grown⟩
  · have d1 : decide ((500 : Int) < n) = false := by simp; omega
    by_cases h2 : k < 0
    · have d2 : decide (k < 0) = true := by simpa using h2
      go_enter Try.func6, Try.ntmps6
      go_wp2_with fail
      refine (works_any _).mono ?_
      rintro e w1 ⟨rfl, hb1⟩
      have O1 := Own.grow' hb1 (Own.nil w)
      try simp only [List.setIfInBounds_toArray, List.set_cons_zero, List.set_cons_succ] at O1
      have bw1 : Below w.heap.size w w1 := Below.trans (by go_grown) (Below.mono hb1 (by first | omega | (simp; done) | (simp; omega)))
      have zw1 := Below.size hb1
      try simp only [World.size_alloc, World.size_drew, World.size_setCell] at zw1
      have HO1 := Lib.hid O1
      clear O1 hb1
      go_wp2_with fail
      go_ret
      exact ⟨rfl, by go_grown⟩
    · have d2 : decide (k < 0) = false := by simpa using h2
      have d3 : decide ((n : Int) < k) = true := by simp; omega
      go_enter Try.func6, Try.ntmps6
      go_wp2_with fail
      refine (works_any _).mono ?_
      rintro e w1 ⟨rfl, hb1⟩
      have O1 := Own.grow' hb1 (Own.nil w)
      try simp only [List.setIfInBounds_toArray, List.set_cons_zero, List.set_cons_succ] at O1
      have bw1 : Below w.heap.size w w1 := Below.trans (by go_grown) (Below.mono hb1 (by first | omega | (simp; done) | (simp; omega)))
      have zw1 := Below.size hb1
      try simp only [World.size_alloc, World.size_drew, World.size_setCell] at zw1
      have HO1 := Lib.hid O1
      clear O1 hb1
      go_wp2_with fail
      go_ret
      exact ⟨rfl, by go_grown⟩
set_option maxRecDepth 20000 in
set_option maxHeartbeats 4000000 in
theorem sums_g (A : Option Addr) (xs : List Nat) (cap k : Nat) (w : World) (hS : SlAt w A (natC xs)) (hcap : xs.length ≤ cap) (hnil : A = none → xs.length = 0 ∧ cap = 0) (hn : xs.length ≤ 500) (hk : k ≤ xs.length) (hb8 : ∀ x ∈ xs, x < 256) :
    Calls Try.prog 6 #[.slice A xs.length cap, .int .i64 k] w fun e w' => e = .returned (.bool true) ∧ Below w.heap.size w w' := by
  have hi3 : (Try.prog.info? 39).map (·.size) = some 32 := by kernel_rfl
  have hu3 : Try.prog.underlying 39 = some (.array 32 5) := by kernel_rfl
  have HI3 := Lib.hid hi3
  have HU3 := Lib.hid hu3
  have HG9 := Lib.hid guard39
  have HG3 := Lib.hid guard43
  have HRS := Lib.hid (fun V h => refSum_any A xs cap V h hcap (by omega) hnil hb8)
  have HS1 := Lib.hid (fun b t V hb h => sum1_any A cap b t xs V hb h hcap hnil (by omega) hb8)
  have HS2 := Lib.hid (fun b t V hb h => sum2_any A cap b k t xs V hk hb h hcap hnil (by omega) hb8)
  have HS4 := Lib.hid (fun b t V hb h => sum4_any A cap b k t xs V hk hb h hcap hnil (by omega) hb8)
  have HW := Lib.hid (fun V h => digestWord_any A xs cap V h hcap hnil (by omega) hb8)
  have HRW := Lib.hid (fun V h => refWord_any A xs cap V h hcap hnil (by omega) hb8)
  have HE9 := Lib.hid (fun W => eq39 (fun j => ((sumG xs j : Nat) : Int)) W)
  have HE3 := Lib.hid (fun W => eq43 (wordG xs) W)
  have HCUT := Lib.hid (fun V => cut_run A xs.length cap k (k : Int) rfl hk hcap V)
  have hz : (arr32 fun j => ((sumG xs j : Nat) : Int)).size = 32 := rfl
  have ho : (arr32 fun j => ((sumG xs j : Nat) : Int)).all (·.oneCell') = true := by simp [Value.oneCell']
  have HI3' := Lib.hid (hi3.trans (congrArg some hz.symm))
  clear hi3 hu3 hb8 hnil
  generalize (arr32 fun j => ((sumG xs j : Nat) : Int)) = arr at *
  generalize limbs (wordG xs) = lw at *
  have hkc : k ≤ cap := by omega
  generalize natC xs = C at *
  generalize hln : xs.length = n at *
  have d1 : decide ((500 : Int) < n) = false := by simp; omega
  have d2 : decide ((k : Int) < 0) = false := by simp
  have d3 : decide ((n : Int) < (k : Int)) = false := by simp; omega
  clear hln xs
  go_enter Try.func6, Try.ntmps6
  go_wp2_with fail
  refine (HRS.out _ hS).mono ?_
  rintro e w1 ⟨rfl, hb1⟩
  have HNW := Lib.hid (show Blk (w1.alloc (.cells (arr32 fun _ => 0) 39)) w1.heap.size (arr32 fun _ => 0) 39 from heap_alloc_new _ _)
  go_upto_region 4 with (first | (refine wpList_store_row rfl 39 (.tmp 5) (.tmp 21) (by with_reducible rfl) _ _ rfl rfl _ _ HNW.out HI3'.out hz.symm ho ?_))
  refine wp_name fun wc hwc => ?_
  have hBc : Below w.heap.size w wc := by rw [hwc]; exact below_setRow (hb1.trans ((World.below_alloc w1 _).mono hb1.size)) hb1.size _
  have hOc : Own [(w1.heap.size, arr, 39)] wc := by rw [hwc]; exact Own.cons (setRow_heap _ _ _ _ _ _ HNW.out) (Own.nil _)
  have hSc : SlAt wc A C := hS.grow hBc
  have hzc := hBc.size
  clear hwc HNW hS
  have bw1 := hBc
  have O1 := hOc
  have c1x0 := Own.cell O1 0 rfl
  have f1x0 := Own.free O1 0 rfl
  have l1x0 := Own.lt O1 0 rfl
  have l1x0d0 := le_up 0 l1x0
  have l1x0d1 := le_up 1 l1x0
  simp only [upN] at l1x0d0 l1x0d1
  have HO1 := Lib.hid O1
  clear O1
  go_wp2_with fail
  refine wp_region_grow wc.heap.size 39 0 16781314 [(0, 0, 4194304, 1), (1, 1, 8388608, 4194304), (2, 2, 16777216, 8388608), (3, 0, 33554432, 32), (4, 12, 67108864, 50331648), (5, 20, 134217728, 67108864), (6, 32, 268435456, 134217729), (7, 32, 536870912, 134217730), (8, 224, 1073741824, 939524096), (9, 32, 2147483648, 134217729), (10, 32, 4294967296, 134217730), (11, 1568, 8589934592, 6576668672), (12, 2336, 17179869184, 9797894144), (13, 4128, 34359738368, 17314086912), (14, 32, 68719476736, 134217760), (15, 24608, 137438953472, 103213432832), (16, 32800, 274877906944, 137573171200), (17, 73728, 549755813888, 274877906944), (18, 131072, 1099511627776, 549755813889), (19, 131072, 2199023255552, 549755813890), (20, 917504, 4398046511104, 3848290697216), (21, 131072, 8796093022208, 549755813889), (22, 131072, 17592186044416, 549755813890), (23, 6422528, 35184372088832, 26938034880512), (24, 9568256, 70368744177664, 40132174413824), (25, 16908288, 140737488355328, 70918499991552), (26, 131072, 281474976710656, 549755813920), (27, 100794368, 562949953421312, 422762220879872), (28, 134348800, 1125899906842624, 563499709235200), (29, 301989888, 2251799813685248, 1125899906842624), (30, 536870912, 4503599627370496, 2251799813685249), (31, 1610612736, 9007199254740992, 6755399441055744), (32, 536870912, 18014398509481984, 2251799813685249), (33, 6979321856, 36028797018963968, 20266198323167232), (34, 11274289152, 72057594037927936, 47287796087390208), (35, 17716740096, 144115188075855872, 74309393851613184), (36, 42949672960, 288230376151711744, 144115188075855872), (37, 68719476736, 576460752303423488, 288230376151711744), (38, 206158430208, 1152921504606846976, 864691128455135232), (39, 549755813887, 16, 1152921504606846976)] [(.p 0, 1), (.p 3, 9), (.g 1, 11), (.q 2, 15), (.p 4, 31), (.p 5, 63), (.p 6, 127), (.p 7, 255), (.p 8, 511), (.p 9, 1023), (.p 10, 2047), (.p 11, 4095), (.p 14, 20479), (.g 12, 24575), (.q 13, 32767), (.p 15, 65535), (.p 16, 131071), (.p 17, 262143), (.p 18, 524287), (.p 19, 1048575), (.p 20, 2097151), (.p 21, 4194303), (.p 22, 8388607), (.p 23, 16777215), (.p 26, 83886079), (.g 24, 100663295), (.q 25, 134217727), (.p 27, 268435455), (.p 28, 536870911), (.p 29, 1073741823), (.p 30, 2147483647), (.p 31, 4294967295), (.p 32, 8589934591), (.p 33, 17179869183), (.p 34, 34359738367), (.p 35, 68719476735), (.p 36, 137438953471), (.p 37, 274877906943), (.p 38, 549755813887)] [(39, 1099511627775)] _ (fun p hp => hp) (by first | omega | (simp; done) | (simp; omega)) (by kernel_rfl) (by kernel_rfl) HO1.out ?_
  refine wpG_move (i := 0) rfl rfl rfl (by rfl) rfl ?_
  simp only [List.set_cons_zero, List.set_cons_succ]
  refine wpG_pure (i := 3) (v := ?v2x3) rfl rfl (by rfl) (fun w hB hG K hK => ?h2x3) ?_
  case h2x3 =>
    refine wp_load_row 39 (.tmp 5) (by with_reducible rfl) _ rfl _ _ (0, 0) _ (Own.get hG 0 rfl) HU3.out rfl HI3'.out ?_
    exact hK _ (Below.refl _ _)
  simp only [List.set_cons_zero, List.set_cons_succ]
  refine wpG_make (i := 1) (c := ?c2x1) (t := ?t2x1) (fun b => .slice (some ⟨b, 0, none⟩) 1 1) rfl rfl (by rfl) (fun w hB hG K hK => ?h2x1) (fun v2g1 l2g1 n2g1 => ?_)
  case h2x1 =>
    go_wp2_with fail
    exact hK
  simp only [List.set_cons_zero, List.set_cons_succ]
  try simp only [World.size_alloc, World.size_drew, World.size_setCell] at l2g1
  clear n2g1
  refine wpG_op (i := 2) (v := ?v2x2) rfl rfl (by rfl) (fun w hB hG K hK => ?h2x2) ?_
  case h2x2 =>
    go_wp2_with fail
    have hsm := SlAt.below hSc rfl (Below.trans (by go_grown) hB)
    refine (HS1.out _ _ _ (hG.get 0 rfl) hsm).mono ?_
    rintro e wx ⟨rfl, hbx⟩
    exact hK _ hbx
  simp only [List.set_cons_zero, List.set_cons_succ]
  refine wpG_pure (i := 4) (v := ?v2x4) rfl rfl (by rfl) (fun w hB hG K hK => ?h2x4) ?_
  case h2x4 =>
    have hq := HE9.out
    have hg := HG9.out
    go_wp2_with fail
    exact hK _ (Below.refl _ _)
  simp only [List.set_cons_zero, List.set_cons_succ]
  refine wpG_move (i := 5) rfl rfl rfl (by rfl) rfl ?_
  simp only [List.set_cons_zero, List.set_cons_succ]
  refine wpG_move (i := 6) rfl rfl rfl (by rfl) rfl ?_
  simp only [List.set_cons_zero, List.set_cons_succ]
  refine wpG_move (i := 7) rfl rfl rfl (by rfl) rfl ?_
  simp only [List.set_cons_zero, List.set_cons_succ]
  refine wpG_pure (i := 8) (v := ?v2x8) rfl rfl (by rfl) (fun w hB hG K hK => ?h2x8) ?_
  case h2x8 =>
    go_wp2_with fail
    exact hK _ (Below.refl _ _)
  simp only [List.set_cons_zero, List.set_cons_succ]
  refine wpG_move (i := 9) rfl rfl rfl (by rfl) rfl ?_
  simp only [List.set_cons_zero, List.set_cons_succ]
  refine wpG_move (i := 10) rfl rfl rfl (by rfl) rfl ?_
  simp only [List.set_cons_zero, List.set_cons_succ]
  refine wpG_pure (i := 11) (v := ?v2x11) rfl rfl (by rfl) (fun w hB hG K hK => ?h2x11) ?_
  case h2x11 =>
    have hcut := HCUT.out
    go_wp2_with fail
    exact hK _ (Below.refl _ _)
  simp only [List.set_cons_zero, List.set_cons_succ]
  refine wpG_pure (i := 14) (v := ?v2x14) rfl rfl (by rfl) (fun w hB hG K hK => ?h2x14) ?_
  case h2x14 =>
    refine wp_load_row 39 (.tmp 5) (by with_reducible rfl) _ rfl _ _ (0, 0) _ (Own.get hG 0 rfl) HU3.out rfl HI3'.out ?_
    exact hK _ (Below.refl _ _)
  simp only [List.set_cons_zero, List.set_cons_succ]
  refine wpG_make (i := 12) (c := ?c2x12) (t := ?t2x12) (fun b => .slice (some ⟨b, 0, none⟩) 2 2) rfl rfl (by rfl) (fun w hB hG K hK => ?h2x12) (fun v2g2 l2g2 n2g2 => ?_)
  case h2x12 =>
    go_wp2_with fail
    exact hK
  simp only [List.set_cons_zero, List.set_cons_succ]
  try simp only [World.size_alloc, World.size_drew, World.size_setCell] at l2g2
  have n2g2x0 := n2g2.1
  clear n2g2
  refine wpG_op (i := 13) (v := ?v2x13) rfl rfl (by rfl) (fun w hB hG K hK => ?h2x13) ?_
  case h2x13 =>
    go_wp2_with fail
    have hsm := SlAt.below hSc rfl (Below.trans (by go_grown) hB)
    refine (HS2.out _ _ _ (hG.get 0 rfl) hsm).mono ?_
    rintro e wx ⟨rfl, hbx⟩
    exact hK _ hbx
  simp only [List.set_cons_zero, List.set_cons_succ]
  refine wpG_pure (i := 15) (v := ?v2x15) rfl rfl (by rfl) (fun w hB hG K hK => ?h2x15) ?_
  case h2x15 =>
    have hq := HE9.out
    have hg := HG9.out
    go_wp2_with fail
    exact hK _ (Below.refl _ _)
  simp only [List.set_cons_zero, List.set_cons_succ]
  refine wpG_pure (i := 16) (v := ?v2x16) rfl rfl (by rfl) (fun w hB hG K hK => ?h2x16) ?_
  case h2x16 =>
    go_wp2_with fail
    exact hK _ (Below.refl _ _)
  simp only [List.set_cons_zero, List.set_cons_succ]
  refine wpG_move (i := 17) rfl rfl rfl (by rfl) rfl ?_
  simp only [List.set_cons_zero, List.set_cons_succ]
  refine wpG_move (i := 18) rfl rfl rfl (by rfl) rfl ?_
  simp only [List.set_cons_zero, List.set_cons_succ]
  refine wpG_move (i := 19) rfl rfl rfl (by rfl) rfl ?_
  simp only [List.set_cons_zero, List.set_cons_succ]
  refine wpG_pure (i := 20) (v := ?v2x20) rfl rfl (by rfl) (fun w hB hG K hK => ?h2x20) ?_
  case h2x20 =>
    go_wp2_with fail
    exact hK _ (Below.refl _ _)
  simp only [List.set_cons_zero, List.set_cons_succ]
  refine wpG_move (i := 21) rfl rfl rfl (by rfl) rfl ?_
  simp only [List.set_cons_zero, List.set_cons_succ]
  refine wpG_move (i := 22) rfl rfl rfl (by rfl) rfl ?_
  simp only [List.set_cons_zero, List.set_cons_succ]
  refine wpG_pure (i := 23) (v := ?v2x23) rfl rfl (by rfl) (fun w hB hG K hK => ?h2x23) ?_
  case h2x23 =>
    have hcut := HCUT.out
    go_wp2_with fail
    exact hK _ (Below.refl _ _)
  simp only [List.set_cons_zero, List.set_cons_succ]
  refine wpG_pure (i := 26) (v := ?v2x26) rfl rfl (by rfl) (fun w hB hG K hK => ?h2x26) ?_
  case h2x26 =>
    refine wp_load_row 39 (.tmp 5) (by with_reducible rfl) _ rfl _ _ (0, 0) _ (Own.get hG 0 rfl) HU3.out rfl HI3'.out ?_
    exact hK _ (Below.refl _ _)
  simp only [List.set_cons_zero, List.set_cons_succ]
  refine wpG_make (i := 24) (c := ?c2x24) (t := ?t2x24) (fun b => .slice (some ⟨b, 0, none⟩) 4 4) rfl rfl (by rfl) (fun w hB hG K hK => ?h2x24) (fun v2g3 l2g3 n2g3 => ?_)
  case h2x24 =>
    go_wp2_with fail
    exact hK
  simp only [List.set_cons_zero, List.set_cons_succ]
  try simp only [World.size_alloc, World.size_drew, World.size_setCell] at l2g3
  have n2g3x0 := n2g3.2.1
  have n2g3x1 := n2g3.1
  clear n2g3
  refine wpG_op (i := 25) (v := ?v2x25) rfl rfl (by rfl) (fun w hB hG K hK => ?h2x25) ?_
  case h2x25 =>
    go_wp2_with fail
    have hsm := SlAt.below hSc rfl (Below.trans (by go_grown) hB)
    refine (HS4.out _ _ _ (hG.get 0 rfl) hsm).mono ?_
    rintro e wx ⟨rfl, hbx⟩
    exact hK _ hbx
  simp only [List.set_cons_zero, List.set_cons_succ]
  refine wpG_pure (i := 27) (v := ?v2x27) rfl rfl (by rfl) (fun w hB hG K hK => ?h2x27) ?_
  case h2x27 =>
    have hq := HE9.out
    have hg := HG9.out
    go_wp2_with fail
    exact hK _ (Below.refl _ _)
  simp only [List.set_cons_zero, List.set_cons_succ]
  refine wpG_pure (i := 28) (v := ?v2x28) rfl rfl (by rfl) (fun w hB hG K hK => ?h2x28) ?_
  case h2x28 =>
    go_wp2_with fail
    exact hK _ (Below.refl _ _)
  simp only [List.set_cons_zero, List.set_cons_succ]
  refine wpG_move (i := 29) rfl rfl rfl (by rfl) rfl ?_
  simp only [List.set_cons_zero, List.set_cons_succ]
  refine wpG_move (i := 30) rfl rfl rfl (by rfl) rfl ?_
  simp only [List.set_cons_zero, List.set_cons_succ]
  refine wpG_pure (i := 31) (v := ?v2x31) rfl rfl (by rfl) (fun w hB hG K hK => ?h2x31) ?_
  case h2x31 =>
    go_wp2_with fail
    have hsm := SlAt.below hSc rfl (Below.trans (by go_grown) hB)
    refine (HW.out _ hsm).mono ?_
    rintro e wx ⟨rfl, hbx⟩
    exact hK _ hbx
  simp only [List.set_cons_zero, List.set_cons_succ]
  refine wpG_move (i := 32) rfl rfl rfl (by rfl) rfl ?_
  simp only [List.set_cons_zero, List.set_cons_succ]
  refine wpG_pure (i := 33) (v := ?v2x33) rfl rfl (by rfl) (fun w hB hG K hK => ?h2x33) ?_
  case h2x33 =>
    go_wp2_with fail
    have hsm := SlAt.below hSc rfl (Below.trans (by go_grown) hB)
    refine (HRW.out _ hsm).mono ?_
    rintro e wx ⟨rfl, hbx⟩
    exact hK _ hbx
  simp only [List.set_cons_zero, List.set_cons_succ]
  refine wpG_pure (i := 34) (v := ?v2x34) rfl rfl (by rfl) (fun w hB hG K hK => ?h2x34) ?_
  case h2x34 =>
    have hq := HE3.out
    have hg := HG3.out
    go_wp2_with fail
    exact hK _ (Below.refl _ _)
  simp only [List.set_cons_zero, List.set_cons_succ]
  refine wpG_pure (i := 35) (v := ?v2x35) rfl rfl (by rfl) (fun w hB hG K hK => ?h2x35) ?_
  case h2x35 =>
    go_wp2_with fail
    exact hK _ (Below.refl _ _)
  simp only [List.set_cons_zero, List.set_cons_succ]
  refine wpG_move (i := 36) rfl rfl rfl (by rfl) rfl ?_
  simp only [List.set_cons_zero, List.set_cons_succ]
  refine wpG_pure (i := 37) (v := ?v2x37) rfl rfl (by rfl) (fun w hB hG K hK => ?h2x37) ?_
  case h2x37 =>
    go_wp2_with fail
    refine (works_any _).mono ?_
    rintro e wx ⟨rfl, hbx⟩
    exact hK _ hbx
  simp only [List.set_cons_zero, List.set_cons_succ]
  refine wpG_pure (i := 38) (v := ?v2x38) rfl rfl (by rfl) (fun w hB hG K hK => ?h2x38) ?_
  case h2x38 =>
    go_wp2_with fail
    exact hK _ (Below.refl _ _)
  simp only [List.set_cons_zero, List.set_cons_succ]
  refine wpG_nil (fun w2 hb2 hG2 => ?_)
  simp only [List.append_eq, List.cons_append, List.nil_append, List.drop_succ_cons, List.drop_zero, List.drop_nil]
  have u2g1 := Own.lt hG2 2 rfl
  have u2g2 := Own.lt hG2 1 rfl
  have u2g3 := Own.lt hG2 0 rfl
  have O2 := Own.of hG2
  try simp only [List.setIfInBounds_toArray, List.set_cons_zero, List.set_cons_succ] at O2
  have bw2 : Below w.heap.size w w2 := Below.trans (by go_grown) (Below.mono hb2 (by first | omega | (simp; done) | (simp; omega)))
  have zw2 := Below.size hb2
  try simp only [World.size_alloc, World.size_drew, World.size_setCell] at zw2
  have pw2 : Below wc.heap.size wc w2 := Below.trans (by go_grown) (Below.mono hb2 (by first | omega | (simp; done) | (simp; omega)))
  replace hSc := SlAt.grow hSc pw2
  clear pw2
  clear c1x0 f1x0 l1x0 l1x0d0 l1x0d1
  have c2x0 := Own.cell O2 0 rfl
  have f2x0 := Own.free O2 0 rfl
  have l2x0 := Own.lt O2 0 rfl
  have l2x0d0 := le_up 0 l2x0
  have l2x0d1 := le_up 1 l2x0
  simp only [upN] at l2x0d0 l2x0d1
  have c2x1 := Own.cell O2 1 rfl
  have f2x1 := Own.free O2 1 rfl
  have l2x1 := Own.lt O2 1 rfl
  have l2x1d0 := le_up 0 l2x1
  have l2x1d1 := le_up 1 l2x1
  simp only [upN] at l2x1d0 l2x1d1
  have c2x2 := Own.cell O2 2 rfl
  have f2x2 := Own.free O2 2 rfl
  have l2x2 := Own.lt O2 2 rfl
  have l2x2d0 := le_up 0 l2x2
  have l2x2d1 := le_up 1 l2x2
  simp only [upN] at l2x2d0 l2x2d1
  have c2x3 := Own.cell O2 3 rfl
  have f2x3 := Own.free O2 3 rfl
  have l2x3 := Own.lt O2 3 rfl
  have l2x3d0 := le_up 0 l2x3
  have l2x3d1 := le_up 1 l2x3
  simp only [upN] at l2x3d0 l2x3d1
  have HO2 := Lib.hid O2
  clear O2 hb2
  go_wp2_with fail
  go_ret
  exact ⟨rfl, by go_grown⟩
end Go.Proofs.Ytojmifniidddpaa
