/- The law TagAlike: its walks. -/
import Derived.Test.YtknkepokkenokaaTagY
set_option linter.unusedVariables false
set_option linter.unusedSimpArgs false
namespace Go.Proofs.Ytknkepokkenokaa
open Go.RowKit
attribute [local go_sem] Oper.semAt_some


set_option maxHeartbeats 16000000 in
set_option maxRecDepth 100000 in
theorem talike_s1 (A : Option Addr) (n cap : Nat) (B : Option Addr) (m capb : Nat) (x0 x1 x2 x3 x4 x5 x6 x7 x8 x9 : Int) (w : World) (h : 200 < n) :
    Calls Try.prog 6 #[.slice A n cap, .slice B m capb, .agg #[.int .u64 x0, .int .u64 x1, .int .u64 x2, .int .u64 x3, .int .u64 x4, .int .u64 x5, .int .u64 x6, .int .u64 x7, .int .u64 x8, .int .u64 x9]] w fun e w' => e = .returned (.bool true) ∧ Below w.heap.size w w' := by
  have d1 : decide ((200 : Int) < n) = true := by simp <;> omega
  go_enter Try.func6, Try.ntmps6
  go_wp2_with fail
  refine (works_any _).mono ?_
  rintro e w1 ⟨rfl, hb1⟩
  have O1 := Own.grow' hb1 (Own.new (Own.new (Own.new (Own.nil w) (w.heap.size) rfl) (w.heap.size + 1) (by simp)) (w.heap.size + 1 + 1) (by simp))
  try simp only [List.setIfInBounds_toArray, List.set_cons_zero, List.set_cons_succ] at O1
  have bw1 : Below w.heap.size w w1 := Below.trans (by go_grown) (Below.mono hb1 (by first | omega | (simp; done) | (simp; omega)))
  have zw1 := Below.size hb1
  try simp only [World.size_alloc, World.size_drew, World.size_setCell] at zw1
  have c1x0 := Own.cell O1 0 rfl
  have f1x0 := Own.free O1 0 rfl
  have l1x0 := Own.lt O1 0 rfl
  have l1x0d0 := le_up 0 l1x0
  have l1x0d1 := le_up 1 l1x0
  simp only [upN] at l1x0d0 l1x0d1
  have c1x1 := Own.cell O1 1 rfl
  have f1x1 := Own.free O1 1 rfl
  have l1x1 := Own.lt O1 1 rfl
  have l1x1d0 := le_up 0 l1x1
  have l1x1d1 := le_up 1 l1x1
  simp only [upN] at l1x1d0 l1x1d1
  have c1x2 := Own.cell O1 2 rfl
  have f1x2 := Own.free O1 2 rfl
  have l1x2 := Own.lt O1 2 rfl
  have l1x2d0 := le_up 0 l1x2
  have l1x2d1 := le_up 1 l1x2
  simp only [upN] at l1x2d0 l1x2d1
  have HO1 := Lib.hid O1
  clear O1 hb1
  go_wp2_with fail
  refine bodyPost_ret (v := .bool true) (by simp [results, Try.results6, go_sem, *]) rfl ?_
  exact ⟨rfl, by go_grown⟩

set_option maxHeartbeats 16000000 in
set_option maxRecDepth 100000 in
theorem talike_s2 (A : Option Addr) (n cap : Nat) (B : Option Addr) (m capb : Nat) (x0 x1 x2 x3 x4 x5 x6 x7 x8 x9 : Int) (w : World) (h : n ≤ 200) (h1 : 200 < m) :
    Calls Try.prog 6 #[.slice A n cap, .slice B m capb, .agg #[.int .u64 x0, .int .u64 x1, .int .u64 x2, .int .u64 x3, .int .u64 x4, .int .u64 x5, .int .u64 x6, .int .u64 x7, .int .u64 x8, .int .u64 x9]] w fun e w' => e = .returned (.bool true) ∧ Below w.heap.size w w' := by
  have d1 : decide ((200 : Int) < n) = false := by simp <;> omega
  have d2 : decide ((200 : Int) < m) = true := by simp <;> omega
  go_enter Try.func6, Try.ntmps6
  go_wp2_with fail
  refine (works_any _).mono ?_
  rintro e w1 ⟨rfl, hb1⟩
  have O1 := Own.grow' hb1 (Own.new (Own.new (Own.new (Own.nil w) (w.heap.size) rfl) (w.heap.size + 1) (by simp)) (w.heap.size + 1 + 1) (by simp))
  try simp only [List.setIfInBounds_toArray, List.set_cons_zero, List.set_cons_succ] at O1
  have bw1 : Below w.heap.size w w1 := Below.trans (by go_grown) (Below.mono hb1 (by first | omega | (simp; done) | (simp; omega)))
  have zw1 := Below.size hb1
  try simp only [World.size_alloc, World.size_drew, World.size_setCell] at zw1
  have c1x0 := Own.cell O1 0 rfl
  have f1x0 := Own.free O1 0 rfl
  have l1x0 := Own.lt O1 0 rfl
  have l1x0d0 := le_up 0 l1x0
  have l1x0d1 := le_up 1 l1x0
  simp only [upN] at l1x0d0 l1x0d1
  have c1x1 := Own.cell O1 1 rfl
  have f1x1 := Own.free O1 1 rfl
  have l1x1 := Own.lt O1 1 rfl
  have l1x1d0 := le_up 0 l1x1
  have l1x1d1 := le_up 1 l1x1
  simp only [upN] at l1x1d0 l1x1d1
  have c1x2 := Own.cell O1 2 rfl
  have f1x2 := Own.free O1 2 rfl
  have l1x2 := Own.lt O1 2 rfl
  have l1x2d0 := le_up 0 l1x2
  have l1x2d1 := le_up 1 l1x2
  simp only [upN] at l1x2d0 l1x2d1
  have HO1 := Lib.hid O1
  clear O1 hb1
  go_wp2_with fail
  refine bodyPost_ret (v := .bool true) (by simp [results, Try.results6, go_sem, *]) rfl ?_
  exact ⟨rfl, by go_grown⟩
theorem alikeL_same {up : Int} {xs ys : List (Int × Int)} (h : ∀ x ∈ xs, U x.2) (hu : U up) : alikeL belowI up xs ys = alikeL refBelowI up xs ys := by
  unfold alikeL
  congr 1
  rw [Bool.eq_iff_iff, List.all_eq_true, List.all_eq_true]
  constructor
  all_goals
    intro hq p hp
    have := hq p hp
    have hb := below_same p.1.2 up (h p.1 (List.of_mem_zip hp).1) hu
    unfold alikeC at this ⊢
    first | rwa [hb] at this | rwa [← hb] at this
theorem knownG_any (A : Option Addr) (xs : List (Int × Int)) (cap : Nat) (up : Int) (w : World) (hS : SlAt w A (cellsC xs)) (hcap : xs.length ≤ cap) (hn : xs.length ≤ 100000) (hnil : A = none → xs = [] ∧ cap = 0) :
    Calls Try.prog 26 #[.slice A xs.length cap, .int .u64 up] w fun e w' => ∃ b b2 n0 : Nat, e = .returned (.func (.func 49) #[] #[.pointer (some ⟨b, 0, none⟩), .pointer (some ⟨b2, 0, none⟩)]) ∧ n0 = w.heap.size ∧
      Seq Try.prog 49 #[.pointer (some ⟨b, 0, none⟩), .pointer (some ⟨b2, 0, none⟩)] encK (knownL up xs) (fun k => n0 ≤ k ∧ k < w'.heap.size) w' ∧ Below w.heap.size w w' :=
  (knownF_any A xs cap up w hS hcap hn hnil).mono fun e w' ⟨⟨b, b2, he, hs⟩, hb⟩ => ⟨b, b2, _, he, rfl, hs, hb⟩

set_option maxHeartbeats 16000000 in
set_option maxRecDepth 100000 in
theorem talike_g (A : Option Addr) (xs : List (Int × Int)) (cap : Nat) (B : Option Addr) (ys : List (Int × Int)) (capb : Nat) (x0 x1 x2 x3 x4 x5 x6 x7 x8 x9 : Int) (w : World) (hS : SlAt w A (cellsC xs)) (hcap : xs.length ≤ cap) (hn : xs.length ≤ 200) (hnil : A = none → xs = [] ∧ cap = 0) (hT : SlAt w B (cellsC ys)) (hcapb : ys.length ≤ capb) (hm : ys.length ≤ 200) (hl : ∀ x ∈ xs, U x.2) (hu : U x4) :
    Calls Try.prog 6 #[.slice A xs.length cap, .slice B ys.length capb, .agg #[.int .u64 x0, .int .u64 x1, .int .u64 x2, .int .u64 x3, .int .u64 x4, .int .u64 x5, .int .u64 x6, .int .u64 x7, .int .u64 x8, .int .u64 x9]] w fun e w' => e = .returned (.bool true) ∧ Below w.heap.size w w' := by
  have HX := Lib.hid (fun (W : World) (hb : Below w.heap.size w W) => hS.below rfl hb)
  have HY := Lib.hid (fun (W : World) (hb : Below w.heap.size w W) => hT.below rfl hb)
  have HKn := Lib.hid (fun (W : World) (hW : SlAt W A (cellsC xs)) => knownG_any A xs cap x4 W hW hcap (by omega) hnil)
  have HA1 := Lib.hid (fun (W : World) (hW : SlAt W A (cellsC xs)) (hW2 : SlAt W B (cellsC ys)) => alikes_any A B xs ys cap capb x4 W hW hW2 hcap hcapb (by omega) (by omega))
  have h2 := fun (W : World) (hW : SlAt W A (cellsC xs)) (hW2 : SlAt W B (cellsC ys)) => refAlike_any A B xs ys cap capb x4 W hW hW2 hcap hcapb (by omega) (by omega) hu.1 (fun x hx => (hl x hx).1)
  rw [← alikeL_same hl hu] at h2
  have HA2 := Lib.hid h2
  have HA3 := Lib.hid (fun (W : World) (hW : SlAt W A (cellsC xs)) (hW2 : SlAt W A (cellsC xs)) => alike_yes A A xs xs xs.length xs.length cap cap x4 W hW hW2 rfl rfl hcap hcap (by omega) (by omega) (alikeL_self _ _ _))
  have HS1 := Lib.hid (fun W => same_any ⟨x0, x1, x2, x3, x4⟩ ⟨x5, x6, x7, x8, x9⟩ x4 W)
  have h3 := fun W => refSame_any ⟨x0, x1, x2, x3, x4⟩ ⟨x5, x6, x7, x8, x9⟩ x4 W hu.1 hu.1
  rw [show sameV refBelowI x4 ⟨x0, x1, x2, x3, x4⟩ ⟨x5, x6, x7, x8, x9⟩ = sameV belowI x4 ⟨x0, x1, x2, x3, x4⟩ ⟨x5, x6, x7, x8, x9⟩ by unfold sameV; rw [below_same _ _ hu hu]] at h3
  have HS2 := Lib.hid h3
  have HBE := Lib.hid (fun x hx => below_same x.2 x4 (hl x hx) hu)
  have HRB := Lib.hid (fun (x : Int × Int) V (hx : x ∈ xs) => refBelow_any x.2 x4 V (hl x hx).1 hu.1)
  generalize alikeL belowI x4 xs ys = ZA at *
  generalize sameV belowI x4 ⟨x0, x1, x2, x3, x4⟩ ⟨x5, x6, x7, x8, x9⟩ = ZS at *
  clear hS hT hnil h2 h3 hl hu
  generalize hln : xs.length = n at *
  generalize ys.length = m at *
  have d101 : decide ((200 : Int) < n) = false := by simp <;> omega
  have d102 : decide ((200 : Int) < m) = false := by simp <;> omega
  refine calls_marks Try.func6 rfl ?_
  simp only [Try.ntmps6, List.size_toArray, List.length_cons, List.length_nil, Nat.reduceAdd, Nat.reduceSub, Array.replicate_succ, Array.replicate_zero, List.push_toArray, List.append_toArray, List.nil_append, List.cons_append]
  go_wp2_with fail
  refine (HKn.out _ (HX.out _ (by go_grown))).mono ?_
  rintro e w1 ⟨bk, bk2, n0, rfl, hn0, hseq, hb1⟩
  have O1 := Own.grow' hb1 (Own.new (Own.new (Own.new (Own.new (Own.nil w) (w.heap.size) rfl) (w.heap.size + 1) (by simp)) (w.heap.size + 1 + 1) (by simp)) (w.heap.size + 1 + 1 + 1) (by simp))
  try simp only [List.setIfInBounds_toArray, List.set_cons_zero, List.set_cons_succ] at O1
  have bw1 : Below w.heap.size w w1 := Below.trans (by go_grown) (Below.mono hb1 (by first | omega | (simp; done) | (simp; omega)))
  have zw1 := Below.size hb1
  try simp only [World.size_alloc, World.size_drew, World.size_setCell] at zw1
  have c1x0 := Own.cell O1 0 rfl
  have f1x0 := Own.free O1 0 rfl
  have l1x0 := Own.lt O1 0 rfl
  have l1x0d0 := le_up 0 l1x0
  have l1x0d1 := le_up 1 l1x0
  simp only [upN] at l1x0d0 l1x0d1
  have c1x1 := Own.cell O1 1 rfl
  have f1x1 := Own.free O1 1 rfl
  have l1x1 := Own.lt O1 1 rfl
  have l1x1d0 := le_up 0 l1x1
  have l1x1d1 := le_up 1 l1x1
  simp only [upN] at l1x1d0 l1x1d1
  have c1x2 := Own.cell O1 2 rfl
  have f1x2 := Own.free O1 2 rfl
  have l1x2 := Own.lt O1 2 rfl
  have l1x2d0 := le_up 0 l1x2
  have l1x2d1 := le_up 1 l1x2
  simp only [upN] at l1x2d0 l1x2d1
  have c1x3 := Own.cell O1 3 rfl
  have f1x3 := Own.free O1 3 rfl
  have l1x3 := Own.lt O1 3 rfl
  have l1x3d0 := le_up 0 l1x3
  have l1x3d1 := le_up 1 l1x3
  simp only [upN] at l1x3d0 l1x3d1
  have HO1 := Lib.hid O1
  clear O1 hb1
  simp only [World.size_alloc] at hn0
  have HSEQ := Lib.hid hseq
  clear hseq
  go_wp2_with fail
  refine wp_region_grow w1.heap.size 35 0 0 [(0, 0, 2147483648, 8), (1, 0, 4294967296, 2), (2, 0, 8589934592, 128), (3, 7, 17179869184, 15032385536), (4, 0, 34359738368, 8), (5, 0, 68719476736, 2), (6, 0, 137438953472, 128), (7, 120, 274877906944, 240518168576), (8, 136, 549755813888, 292057776128), (9, 384, 1099511627776, 549755813888), (10, 512, 2199023255552, 1099511627784), (11, 512, 4398046511104, 1099511627784), (12, 512, 8796093022208, 1099511627904), (13, 7680, 17592186044416, 16492674416640), (14, 8704, 35184372088832, 18691697672192), (15, 16896, 70368744177664, 36283883716608), (16, 40960, 140737488355328, 70368744177664), (17, 65536, 281474976710656, 140737488355360), (18, 196608, 562949953421312, 422212465065984), (19, 65536, 1125899906842624, 140737488355360), (20, 589824, 2251799813685248, 1266637395197952), (21, 65536, 4503599627370496, 140737488355456), (22, 3473408, 9007199254740992, 7459086882832384), (23, 65536, 18014398509481984, 140737488355360), (24, 8454144, 36028797018963968, 18155135997837312), (25, 65536, 72057594037927936, 140737488355360), (26, 33619968, 144115188075855872, 72198331526283264), (27, 65536, 288230376151711744, 140737488355456), (28, 222363648, 576460752303423488, 468515098734886912), (29, 272695296, 1152921504606846976, 585608689046519808), (30, 536936448, 2305843009213693952, 1153062242095202304), (31, 1342177280, 4611686018427387904, 2305843009213693952), (32, 2147483648, 9223372036854775808, 4611686018427388160), (33, 6442450944, 18446744073709551616, 13835058055282163712), (34, 10737418240, 36893488147419103232, 23058430092136939520)] [(.p 0, 1), (.p 1, 3), (.p 2, 7), (.p 3, 15), (.p 4, 31), (.p 5, 63), (.p 6, 127), (.p 7, 255), (.p 8, 511), (.p 9, 1023), (.p 10, 2047), (.p 11, 4095), (.p 12, 8191), (.p 13, 16383), (.p 14, 32767), (.p 15, 65535), (.p 16, 131071), (.p 17, 262143), (.p 18, 524287), (.p 19, 1048575), (.p 20, 2097151), (.p 21, 4194303), (.p 22, 8388607), (.p 23, 16777215), (.p 24, 33554431), (.p 25, 67108863), (.p 26, 134217727), (.p 27, 268435455), (.p 28, 536870911), (.p 29, 1073741823), (.p 30, 2147483647), (.p 31, 4294967295), (.p 32, 8589934591), (.p 33, 17179869183), (.p 34, 34359738367)] [] _ (fun p hp => hp) (by first | omega | (simp; done) | (simp; omega)) (by kernel_rfl) (by kernel_rfl) HO1.out ?_
  refine wpG_pure (i := 0) (v := ?v2x0) rfl rfl (by rfl) (fun w hB hG K hK => ?h2x0) ?_
  case h2x0 =>
    have cx := Own.cell hG 3 rfl
    go_wp2_with fail
    exact hK _ (Below.refl _ _)
  simp only [List.set_cons_zero, List.set_cons_succ]
  refine wpG_move (i := 1) rfl rfl rfl (by rfl) rfl ?_
  simp only [List.set_cons_zero, List.set_cons_succ]
  refine wpG_pure (i := 2) (v := ?v2x2) rfl rfl (by rfl) (fun w hB hG K hK => ?h2x2) ?_
  case h2x2 =>
    have cx := Own.cell hG 0 rfl
    go_wp2_with fail
    exact hK _ (Below.refl _ _)
  simp only [List.set_cons_zero, List.set_cons_succ]
  refine wpG_pure (i := 3) (v := ?v2x3) rfl rfl (by rfl) (fun w hB hG K hK => ?h2x3) ?_
  case h2x3 =>
    go_wp2_with fail
    refine (HA1.out _ (HX.out _ (Below.trans (by go_grown) (Below.mono hB (by omega)))) (HY.out _ (Below.trans (by go_grown) (Below.mono hB (by omega))))).mono ?_
    rintro e wx ⟨rfl, hbx⟩
    exact hK _ hbx
  simp only [List.set_cons_zero, List.set_cons_succ]
  refine wpG_pure (i := 4) (v := ?v2x4) rfl rfl (by rfl) (fun w hB hG K hK => ?h2x4) ?_
  case h2x4 =>
    have cx := Own.cell hG 3 rfl
    go_wp2_with fail
    exact hK _ (Below.refl _ _)
  simp only [List.set_cons_zero, List.set_cons_succ]
  refine wpG_move (i := 5) rfl rfl rfl (by rfl) rfl ?_
  simp only [List.set_cons_zero, List.set_cons_succ]
  refine wpG_pure (i := 6) (v := ?v2x6) rfl rfl (by rfl) (fun w hB hG K hK => ?h2x6) ?_
  case h2x6 =>
    have cx := Own.cell hG 0 rfl
    go_wp2_with fail
    exact hK _ (Below.refl _ _)
  simp only [List.set_cons_zero, List.set_cons_succ]
  refine wpG_pure (i := 7) (v := ?v2x7) rfl rfl (by rfl) (fun w hB hG K hK => ?h2x7) ?_
  case h2x7 =>
    go_wp2_with fail
    refine (HA2.out _ (HX.out _ (Below.trans (by go_grown) (Below.mono hB (by omega)))) (HY.out _ (Below.trans (by go_grown) (Below.mono hB (by omega))))).mono ?_
    rintro e wx ⟨rfl, hbx⟩
    exact hK _ hbx
  simp only [List.set_cons_zero, List.set_cons_succ]
  refine wpG_pure (i := 8) (v := ?v2x8) rfl rfl (by rfl) (fun w hB hG K hK => ?h2x8) ?_
  case h2x8 =>
    go_wp2_with fail
    exact hK _ (Below.refl _ _)
  simp only [List.set_cons_zero, List.set_cons_succ]
  refine wpG_move (i := 9) rfl rfl rfl (by rfl) rfl ?_
  simp only [List.set_cons_zero, List.set_cons_succ]
  refine wpG_pure (i := 10) (v := ?v2x10) rfl rfl (by rfl) (fun w hB hG K hK => ?h2x10) ?_
  case h2x10 =>
    have cx := Own.cell hG 3 rfl
    go_wp2_with fail
    exact hK _ (Below.refl _ _)
  simp only [List.set_cons_zero, List.set_cons_succ]
  refine wpG_pure (i := 11) (v := ?v2x11) rfl rfl (by rfl) (fun w hB hG K hK => ?h2x11) ?_
  case h2x11 =>
    have cx := Own.cell hG 3 rfl
    go_wp2_with fail
    exact hK _ (Below.refl _ _)
  simp only [List.set_cons_zero, List.set_cons_succ]
  refine wpG_pure (i := 12) (v := ?v2x12) rfl rfl (by rfl) (fun w hB hG K hK => ?h2x12) ?_
  case h2x12 =>
    have cx := Own.cell hG 0 rfl
    go_wp2_with fail
    exact hK _ (Below.refl _ _)
  simp only [List.set_cons_zero, List.set_cons_succ]
  refine wpG_pure (i := 13) (v := ?v2x13) rfl rfl (by rfl) (fun w hB hG K hK => ?h2x13) ?_
  case h2x13 =>
    go_wp2_with fail
    refine (HA3.out _ (HX.out _ (Below.trans (by go_grown) (Below.mono hB (by omega)))) (HX.out _ (Below.trans (by go_grown) (Below.mono hB (by omega))))).mono ?_
    rintro e wx ⟨rfl, hbx⟩
    exact hK _ hbx
  simp only [List.set_cons_zero, List.set_cons_succ]
  refine wpG_pure (i := 14) (v := ?v2x14) rfl rfl (by rfl) (fun w hB hG K hK => ?h2x14) ?_
  case h2x14 =>
    go_wp2_with fail
    exact hK _ (Below.refl _ _)
  simp only [List.set_cons_zero, List.set_cons_succ]
  refine wpG_pure (i := 15) (v := ?v2x15) rfl rfl (by rfl) (fun w hB hG K hK => ?h2x15) ?_
  case h2x15 =>
    go_wp2_with fail
    exact hK _ (Below.refl _ _)
  simp only [List.set_cons_zero, List.set_cons_succ]
  refine wpG_move (i := 16) rfl rfl rfl (by rfl) rfl ?_
  simp only [List.set_cons_zero, List.set_cons_succ]
  refine wpG_pure (i := 17) (v := ?v2x17) rfl rfl (by rfl) (fun w hB hG K hK => ?h2x17) ?_
  case h2x17 =>
    go_wp2_with fail
    exact hK _ (Below.refl _ _)
  simp only [List.set_cons_zero, List.set_cons_succ]
  refine wpG_pure (i := 18) (v := ?v2x18) rfl rfl (by rfl) (fun w hB hG K hK => ?h2x18) ?_
  case h2x18 =>
    have cx := Own.cell hG 2 rfl
    go_wp2_with fail
    exact hK _ (Below.refl _ _)
  simp only [List.set_cons_zero, List.set_cons_succ]
  refine wpG_pure (i := 19) (v := ?v2x19) rfl rfl (by rfl) (fun w hB hG K hK => ?h2x19) ?_
  case h2x19 =>
    go_wp2_with fail
    exact hK _ (Below.refl _ _)
  simp only [List.set_cons_zero, List.set_cons_succ]
  refine wpG_pure (i := 20) (v := ?v2x20) rfl rfl (by rfl) (fun w hB hG K hK => ?h2x20) ?_
  case h2x20 =>
    have cx := Own.cell hG 2 rfl
    go_wp2_with fail
    exact hK _ (Below.refl _ _)
  simp only [List.set_cons_zero, List.set_cons_succ]
  refine wpG_pure (i := 21) (v := ?v2x21) rfl rfl (by rfl) (fun w hB hG K hK => ?h2x21) ?_
  case h2x21 =>
    have cx := Own.cell hG 0 rfl
    go_wp2_with fail
    exact hK _ (Below.refl _ _)
  simp only [List.set_cons_zero, List.set_cons_succ]
  refine wpG_pure (i := 22) (v := ?v2x22) rfl rfl (by rfl) (fun w hB hG K hK => ?h2x22) ?_
  case h2x22 =>
    go_wp2_with fail
    refine (HS1.out _).mono ?_
    rintro e wx ⟨rfl, hbx⟩
    exact hK _ hbx
  simp only [List.set_cons_zero, List.set_cons_succ]
  refine wpG_pure (i := 23) (v := ?v2x23) rfl rfl (by rfl) (fun w hB hG K hK => ?h2x23) ?_
  case h2x23 =>
    go_wp2_with fail
    exact hK _ (Below.refl _ _)
  simp only [List.set_cons_zero, List.set_cons_succ]
  refine wpG_pure (i := 24) (v := ?v2x24) rfl rfl (by rfl) (fun w hB hG K hK => ?h2x24) ?_
  case h2x24 =>
    have cx := Own.cell hG 2 rfl
    go_wp2_with fail
    exact hK _ (Below.refl _ _)
  simp only [List.set_cons_zero, List.set_cons_succ]
  refine wpG_pure (i := 25) (v := ?v2x25) rfl rfl (by rfl) (fun w hB hG K hK => ?h2x25) ?_
  case h2x25 =>
    go_wp2_with fail
    exact hK _ (Below.refl _ _)
  simp only [List.set_cons_zero, List.set_cons_succ]
  refine wpG_pure (i := 26) (v := ?v2x26) rfl rfl (by rfl) (fun w hB hG K hK => ?h2x26) ?_
  case h2x26 =>
    have cx := Own.cell hG 2 rfl
    go_wp2_with fail
    exact hK _ (Below.refl _ _)
  simp only [List.set_cons_zero, List.set_cons_succ]
  refine wpG_pure (i := 27) (v := ?v2x27) rfl rfl (by rfl) (fun w hB hG K hK => ?h2x27) ?_
  case h2x27 =>
    have cx := Own.cell hG 0 rfl
    go_wp2_with fail
    exact hK _ (Below.refl _ _)
  simp only [List.set_cons_zero, List.set_cons_succ]
  refine wpG_pure (i := 28) (v := ?v2x28) rfl rfl (by rfl) (fun w hB hG K hK => ?h2x28) ?_
  case h2x28 =>
    go_wp2_with fail
    refine (HS2.out _).mono ?_
    rintro e wx ⟨rfl, hbx⟩
    exact hK _ hbx
  simp only [List.set_cons_zero, List.set_cons_succ]
  refine wpG_pure (i := 29) (v := ?v2x29) rfl rfl (by rfl) (fun w hB hG K hK => ?h2x29) ?_
  case h2x29 =>
    go_wp2_with fail
    exact hK _ (Below.refl _ _)
  simp only [List.set_cons_zero, List.set_cons_succ]
  refine wpG_pure (i := 30) (v := ?v2x30) rfl rfl (by rfl) (fun w hB hG K hK => ?h2x30) ?_
  case h2x30 =>
    go_wp2_with fail
    exact hK _ (Below.refl _ _)
  simp only [List.set_cons_zero, List.set_cons_succ]
  refine wpG_move (i := 31) rfl rfl rfl (by rfl) rfl ?_
  simp only [List.set_cons_zero, List.set_cons_succ]
  refine wpG_move (i := 32) rfl rfl rfl (by rfl) rfl ?_
  simp only [List.set_cons_zero, List.set_cons_succ]
  refine wpG_pure (i := 33) (v := ?v2x33) rfl rfl (by rfl) (fun w hB hG K hK => ?h2x33) ?_
  case h2x33 =>
    go_wp2_with fail
    exact hK _ (Below.refl _ _)
  simp only [List.set_cons_zero, List.set_cons_succ]
  refine wpG_pure (i := 34) (v := ?v2x34) rfl rfl (by rfl) (fun w hB hG K hK => ?h2x34) ?_
  case h2x34 =>
    go_wp2_with fail
    exact hK _ (Below.refl _ _)
  simp only [List.set_cons_zero, List.set_cons_succ]
  refine wpG_nil (fun w2 hb2 hG2 => ?_)
  simp only [List.append_eq, List.cons_append, List.nil_append, List.drop_succ_cons, List.drop_zero, List.drop_nil]
  have O2 := Own.of hG2
  try simp only [List.setIfInBounds_toArray, List.set_cons_zero, List.set_cons_succ] at O2
  have bw2 : Below w.heap.size w w2 := Below.trans (by go_grown) (Below.mono hb2 (by first | omega | (simp; done) | (simp; omega)))
  have zw2 := Below.size hb2
  try simp only [World.size_alloc, World.size_drew, World.size_setCell] at zw2
  have kk2 := Keep.below (Keep.refl (fun k => n0 ≤ k ∧ k < w1.heap.size) w1) hb2
  clear c1x0 f1x0 l1x0 l1x0d0 l1x0d1 c1x1 f1x1 l1x1 l1x1d0 l1x1d1 c1x2 f1x2 l1x2 l1x2d0 l1x2d1 c1x3 f1x3 l1x3 l1x3d0 l1x3d1
  have c2x0 := Own.cell O2 0 rfl
  have f2x0 := Own.free O2 0 rfl
  have l2x0 := Own.lt O2 0 rfl
  have l2x0d0 := le_up 0 l2x0
  have l2x0d1 := le_up 1 l2x0
  simp only [upN] at l2x0d0 l2x0d1
  have c2x1 := Own.cell O2 1 rfl
  have f2x1 := Own.free O2 1 rfl
  have l2x1 := Own.lt O2 1 rfl
  have l2x1d0 := le_up 0 l2x1
  have l2x1d1 := le_up 1 l2x1
  simp only [upN] at l2x1d0 l2x1d1
  have c2x2 := Own.cell O2 2 rfl
  have f2x2 := Own.free O2 2 rfl
  have l2x2 := Own.lt O2 2 rfl
  have l2x2d0 := le_up 0 l2x2
  have l2x2d1 := le_up 1 l2x2
  simp only [upN] at l2x2d0 l2x2d1
  have c2x3 := Own.cell O2 3 rfl
  have f2x3 := Own.free O2 3 rfl
  have l2x3 := Own.lt O2 3 rfl
  have l2x3d0 := le_up 0 l2x3
  have l2x3d1 := le_up 1 l2x3
  simp only [upN] at l2x3d0 l2x3d1
  have HO2 := Lib.hid O2
  clear O2 hb2
  go_wp2_with fail
  refine wp_name fun WC hWC => ?_
  have HOC := Lib.hid (show Own _ WC by rw [hWC]; exact HO2.out)
  have hbC : Below w.heap.size w WC := by rw [hWC]; go_grown
  have kkC := Lib.hid (show Keep _ w1 WC by rw [hWC]; exact kk2)
  have zC : w2.heap.size ≤ WC.heap.size := by rw [hWC]; simp
  clear hWC
  go_loopw [9, 10] (fun all i wr => CntRel xs x4 WC all i wr) (fun _ i _ => n - (intOf i).toNat)
  case atStart => exact ⟨0, Nat.zero_le _, rfl, rfl, Below.refl _ _⟩
  case round =>
    obtain ⟨k, hk, rfl, rfl, hbr⟩ := hrel
    have hbw := hbC.trans (hbr.mono hbC.size)
    have O3 := Own.grow' hbr HOC.out
    have c3x0 := Own.cell O3 0 rfl
    have f3x0 := Own.free O3 0 rfl
    have l3x0 := Own.lt O3 0 rfl
    have l3x0d0 := le_up 0 l3x0
    have l3x0d1 := le_up 1 l3x0
    simp only [upN] at l3x0d0 l3x0d1
    have c3x1 := Own.cell O3 1 rfl
    have f3x1 := Own.free O3 1 rfl
    have l3x1 := Own.lt O3 1 rfl
    have l3x1d0 := le_up 0 l3x1
    have l3x1d1 := le_up 1 l3x1
    simp only [upN] at l3x1d0 l3x1d1
    have c3x2 := Own.cell O3 2 rfl
    have f3x2 := Own.free O3 2 rfl
    have l3x2 := Own.lt O3 2 rfl
    have l3x2d0 := le_up 0 l3x2
    have l3x2d1 := le_up 1 l3x2
    simp only [upN] at l3x2d0 l3x2d1
    have c3x3 := Own.cell O3 3 rfl
    have f3x3 := Own.free O3 3 rfl
    have l3x3 := Own.lt O3 3 rfl
    have l3x3d0 := le_up 0 l3x3
    have l3x3d1 := le_up 1 l3x3
    simp only [upN] at l3x3d0 l3x3d1
    have HO3 := Lib.hid O3
    clear O3
    have zr := hbr.size
    by_cases hlt' : k < n
    · skip
      obtain ⟨x, hx⟩ : ∃ x, xs[k]? = some x := ⟨xs[k], by simp [hln, hlt']⟩
      obtain ⟨b', off, rfl, hbl, hcell⟩ := (HX.out _ hbw).cell (cellsC_at (j := 0) hx (by rfl))
      have hc1 : wr.cell? ⟨b', off + k * 2 + 1, none⟩ = some (.int .u64 x.2) := by have := hcell (k * 2 + 1) _ (cellsC_at (j := 1) hx (by rfl)); simpa [Nat.add_assoc] using this
      have HN := Lib.hid (knownL_take (up := x4) hx)
      have hle := knownL_le x4 xs k
      have hbe := HBE.out x (List.mem_of_getElem? hx)
      have dk : decide ((k : Int) < n) = true := by simp; omega
      clear hcell
      cases hbl2 : refBelowI x.2 x4 with
      | true =>
        rw [hbl2] at hbe
        have HB2 := Lib.hid hbe
        clear hbe
        have HRX := Lib.hid (fun V => HRB.out x V (List.mem_of_getElem? hx))
        have hRX := HRX.out
        rw [hbl2] at hRX
        clear HRX
        go_wp2_with fail
        refine wp_region_grow wr.heap.size 7 0 0 [(0, 0, 4722366482869645213696, 8), (1, 0, 9444732965739290427392, 1024), (2, 3, 18889465931478580854784, 14167099448608935641088), (3, 4, 37778931862957161709568, 18889465931478580854784), (4, 8, 75557863725914323419136, 37778931862957161709568), (5, 0, 151115727451828646838272, 128), (6, 48, 302231454903657293676544, 226673591177742970257408)] [(.p 0, 1), (.p 1, 3), (.p 2, 7), (.p 3, 15), (.q 4, 31), (.p 5, 63), (.p 6, 127)] [] _ (fun p hp => hp) (by first | omega | (simp; done) | (simp; omega)) (by kernel_rfl) (by kernel_rfl) HO3.out ?_
        refine wpG_pure (i := 0) (v := ?v4x0) rfl rfl (by rfl) (fun w hB hG K hK => ?h4x0) ?_
        case h4x0 =>
          have cx := Own.cell hG 3 rfl
          go_wp2_with fail
          exact hK _ (Below.refl _ _)
        simp only [List.set_cons_zero, List.set_cons_succ]
        refine wpG_move (i := 1) rfl rfl rfl (by rfl) rfl ?_
        simp only [List.set_cons_zero, List.set_cons_succ]
        refine wpG_pure (i := 2) (v := ?v4x2) rfl rfl (by rfl) (fun w hB hG K hK => ?h4x2) ?_
        case h4x2 =>
          go_wp2_with fail
          exact hK _ (Below.refl _ _)
        simp only [List.set_cons_zero, List.set_cons_succ]
        refine wpG_pure (i := 3) (v := ?v4x3) rfl rfl (by rfl) (fun w hB hG K hK => ?h4x3) ?_
        case h4x3 =>
          go_wp2_with fail
          exact hK _ (Below.refl _ _)
        simp only [List.set_cons_zero, List.set_cons_succ]
        refine wpG_op (i := 4) (v := ?v4x4) rfl rfl (by rfl) (fun w hB hG K hK => ?h4x4) ?_
        case h4x4 =>
          have hcx := (hB.cell (p := ⟨b', off + k * 2 + 1, none⟩) (by exact World.block_lt_of_cell? wr ⟨b', off + k * 2 + 1, none⟩ hc1)).trans hc1
          go_wp2_with fail
          exact hK _ (Below.refl _ _)
        simp only [List.set_cons_zero, List.set_cons_succ]
        refine wpG_pure (i := 5) (v := ?v4x5) rfl rfl (by rfl) (fun w hB hG K hK => ?h4x5) ?_
        case h4x5 =>
          have cx := Own.cell hG 0 rfl
          go_wp2_with fail
          exact hK _ (Below.refl _ _)
        simp only [List.set_cons_zero, List.set_cons_succ]
        refine wpG_pure (i := 6) (v := ?v4x6) rfl rfl (by rfl) (fun w hB hG K hK => ?h4x6) ?_
        case h4x6 =>
          go_wp2_with fail
          refine (hRX _).mono ?_
          rintro e wx ⟨rfl, rfl⟩
          exact hK _ (Below.refl _ _)
        simp only [List.set_cons_zero, List.set_cons_succ]
        refine wpG_nil (fun w4 hb4 hG4 => ?_)
        simp only [List.append_eq, List.cons_append, List.nil_append, List.drop_succ_cons, List.drop_zero, List.drop_nil]
        have O4 := Own.of hG4
        try simp only [List.setIfInBounds_toArray, List.set_cons_zero, List.set_cons_succ] at O4
        have bw4 : Below w.heap.size w w4 := Below.trans (by go_grown) (Below.mono hb4 (by first | omega | (simp; done) | (simp; omega)))
        have zw4 := Below.size hb4
        try simp only [World.size_alloc, World.size_drew, World.size_setCell] at zw4
        have hwc4 : Below wr.heap.size wr w4 := Below.trans (by go_grown) (Below.mono hb4 (by first | omega | (simp; done) | (simp; omega)))
        clear c3x0 f3x0 l3x0 l3x0d0 l3x0d1 c3x1 f3x1 l3x1 l3x1d0 l3x1d1 c3x2 f3x2 l3x2 l3x2d0 l3x2d1 c3x3 f3x3 l3x3 l3x3d0 l3x3d1
        have c4x0 := Own.cell O4 0 rfl
        have f4x0 := Own.free O4 0 rfl
        have l4x0 := Own.lt O4 0 rfl
        have l4x0d0 := le_up 0 l4x0
        have l4x0d1 := le_up 1 l4x0
        simp only [upN] at l4x0d0 l4x0d1
        have c4x1 := Own.cell O4 1 rfl
        have f4x1 := Own.free O4 1 rfl
        have l4x1 := Own.lt O4 1 rfl
        have l4x1d0 := le_up 0 l4x1
        have l4x1d1 := le_up 1 l4x1
        simp only [upN] at l4x1d0 l4x1d1
        have c4x2 := Own.cell O4 2 rfl
        have f4x2 := Own.free O4 2 rfl
        have l4x2 := Own.lt O4 2 rfl
        have l4x2d0 := le_up 0 l4x2
        have l4x2d1 := le_up 1 l4x2
        simp only [upN] at l4x2d0 l4x2d1
        have c4x3 := Own.cell O4 3 rfl
        have f4x3 := Own.free O4 3 rfl
        have l4x3 := Own.lt O4 3 rfl
        have l4x3d0 := le_up 0 l4x3
        have l4x3d1 := le_up 1 l4x3
        simp only [upN] at l4x3d0 l4x3d1
        have HO4 := Lib.hid O4
        clear O4 hb4
        go_wp2_with fail
        exact ⟨⟨k + 1, by omega, by go_num, by rw [HN.out, HB2.out]; simp only [if_true, List.length_append, List.length_cons, List.length_nil]; go_num, hbr.trans (hwc4.mono hbr.size)⟩, by simp [intOf]; omega⟩
      | false =>
        rw [hbl2] at hbe
        have HB2 := Lib.hid hbe
        clear hbe
        have HRX := Lib.hid (fun V => HRB.out x V (List.mem_of_getElem? hx))
        have hRX := HRX.out
        rw [hbl2] at hRX
        clear HRX
        go_wp2_with fail
        refine wp_region_grow wr.heap.size 7 0 0 [(0, 0, 4722366482869645213696, 8), (1, 0, 9444732965739290427392, 1024), (2, 3, 18889465931478580854784, 14167099448608935641088), (3, 4, 37778931862957161709568, 18889465931478580854784), (4, 8, 75557863725914323419136, 37778931862957161709568), (5, 0, 151115727451828646838272, 128), (6, 48, 302231454903657293676544, 226673591177742970257408)] [(.p 0, 1), (.p 1, 3), (.p 2, 7), (.p 3, 15), (.q 4, 31), (.p 5, 63), (.p 6, 127)] [] _ (fun p hp => hp) (by first | omega | (simp; done) | (simp; omega)) (by kernel_rfl) (by kernel_rfl) HO3.out ?_
        refine wpG_pure (i := 0) (v := ?v5x0) rfl rfl (by rfl) (fun w hB hG K hK => ?h5x0) ?_
        case h5x0 =>
          have cx := Own.cell hG 3 rfl
          go_wp2_with fail
          exact hK _ (Below.refl _ _)
        simp only [List.set_cons_zero, List.set_cons_succ]
        refine wpG_move (i := 1) rfl rfl rfl (by rfl) rfl ?_
        simp only [List.set_cons_zero, List.set_cons_succ]
        refine wpG_pure (i := 2) (v := ?v5x2) rfl rfl (by rfl) (fun w hB hG K hK => ?h5x2) ?_
        case h5x2 =>
          go_wp2_with fail
          exact hK _ (Below.refl _ _)
        simp only [List.set_cons_zero, List.set_cons_succ]
        refine wpG_pure (i := 3) (v := ?v5x3) rfl rfl (by rfl) (fun w hB hG K hK => ?h5x3) ?_
        case h5x3 =>
          go_wp2_with fail
          exact hK _ (Below.refl _ _)
        simp only [List.set_cons_zero, List.set_cons_succ]
        refine wpG_op (i := 4) (v := ?v5x4) rfl rfl (by rfl) (fun w hB hG K hK => ?h5x4) ?_
        case h5x4 =>
          have hcx := (hB.cell (p := ⟨b', off + k * 2 + 1, none⟩) (by exact World.block_lt_of_cell? wr ⟨b', off + k * 2 + 1, none⟩ hc1)).trans hc1
          go_wp2_with fail
          exact hK _ (Below.refl _ _)
        simp only [List.set_cons_zero, List.set_cons_succ]
        refine wpG_pure (i := 5) (v := ?v5x5) rfl rfl (by rfl) (fun w hB hG K hK => ?h5x5) ?_
        case h5x5 =>
          have cx := Own.cell hG 0 rfl
          go_wp2_with fail
          exact hK _ (Below.refl _ _)
        simp only [List.set_cons_zero, List.set_cons_succ]
        refine wpG_pure (i := 6) (v := ?v5x6) rfl rfl (by rfl) (fun w hB hG K hK => ?h5x6) ?_
        case h5x6 =>
          go_wp2_with fail
          refine (hRX _).mono ?_
          rintro e wx ⟨rfl, rfl⟩
          exact hK _ (Below.refl _ _)
        simp only [List.set_cons_zero, List.set_cons_succ]
        refine wpG_nil (fun w5 hb5 hG5 => ?_)
        simp only [List.append_eq, List.cons_append, List.nil_append, List.drop_succ_cons, List.drop_zero, List.drop_nil]
        have O5 := Own.of hG5
        try simp only [List.setIfInBounds_toArray, List.set_cons_zero, List.set_cons_succ] at O5
        have bw5 : Below w.heap.size w w5 := Below.trans (by go_grown) (Below.mono hb5 (by first | omega | (simp; done) | (simp; omega)))
        have zw5 := Below.size hb5
        try simp only [World.size_alloc, World.size_drew, World.size_setCell] at zw5
        have hwc5 : Below wr.heap.size wr w5 := Below.trans (by go_grown) (Below.mono hb5 (by first | omega | (simp; done) | (simp; omega)))
        clear c3x0 f3x0 l3x0 l3x0d0 l3x0d1 c3x1 f3x1 l3x1 l3x1d0 l3x1d1 c3x2 f3x2 l3x2 l3x2d0 l3x2d1 c3x3 f3x3 l3x3 l3x3d0 l3x3d1
        have c5x0 := Own.cell O5 0 rfl
        have f5x0 := Own.free O5 0 rfl
        have l5x0 := Own.lt O5 0 rfl
        have l5x0d0 := le_up 0 l5x0
        have l5x0d1 := le_up 1 l5x0
        simp only [upN] at l5x0d0 l5x0d1
        have c5x1 := Own.cell O5 1 rfl
        have f5x1 := Own.free O5 1 rfl
        have l5x1 := Own.lt O5 1 rfl
        have l5x1d0 := le_up 0 l5x1
        have l5x1d1 := le_up 1 l5x1
        simp only [upN] at l5x1d0 l5x1d1
        have c5x2 := Own.cell O5 2 rfl
        have f5x2 := Own.free O5 2 rfl
        have l5x2 := Own.lt O5 2 rfl
        have l5x2d0 := le_up 0 l5x2
        have l5x2d1 := le_up 1 l5x2
        simp only [upN] at l5x2d0 l5x2d1
        have c5x3 := Own.cell O5 3 rfl
        have f5x3 := Own.free O5 3 rfl
        have l5x3 := Own.lt O5 3 rfl
        have l5x3d0 := le_up 0 l5x3
        have l5x3d1 := le_up 1 l5x3
        simp only [upN] at l5x3d0 l5x3d1
        have HO5 := Lib.hid O5
        clear O5 hb5
        go_wp2_with fail
        exact ⟨⟨k + 1, by omega, by go_num, by rw [HN.out, HB2.out]; simp, hbr.trans (hwc5.mono hbr.size)⟩, by simp [intOf]; omega⟩
    · have hkn : k = n := by omega
      have dk : decide ((k : Int) < n) = false := by simp; omega
      have hall : xs.take k = xs := List.take_of_length_le (by omega)
      rw [hall]
      obtain ⟨LI, hLI⟩ : ∃ LI : Int, LI = ((knownL x4 xs).length : Nat) := ⟨_, rfl⟩
      rw [← hLI]
      have HLI := Lib.hid hLI
      clear hLI hall hkn
      have kkD := kkC.out.below hbr
      go_wp2_with fail
      refine wp_loop_rounds 3 ?_
      rw [rounds_succ]
      go_wp2_with fail
      refine wp_name fun WL0 hWL0 => ?_
      have zWL0 : WL0.heap.size = wr.heap.size + 3 := by rw [hWL0]; simp
      have hbWL0 : Below w.heap.size w WL0 := by rw [hWL0]; go_grown
      have hkS0 : Keep (fun k => n0 ≤ k ∧ k < w1.heap.size) w1 WL0 := by rw [hWL0]; exact (Keep.alloc (Keep.alloc (Keep.alloc kkD _) _) _)
      have hoL0 := Lib.hid (show Own _ WL0 by rw [hWL0]; exact (Own.new (Own.new (Own.new HO3.out (wr.heap.size) rfl) (wr.heap.size + 1) (by simp)) (wr.heap.size + 1 + 1) (by simp)))
      clear hWL0
      have hI0 : OwnFrom WL0.heap.size (EI (fun (k : Nat) => [(wr.heap.size + 1 + 1, #[.int .i64 (lastI (knownL x4 xs) k)], 3), (wr.heap.size + 1, #[.int .i64 (k : Nat)], 3), (wr.heap.size, #[.int .i64 0], 3), (w.heap.size + 1 + 1 + 1, #[.int .u64 x4], 35), (w.heap.size + 1 + 1, #[.bool false], 4), (w.heap.size + 1, #[.int .u64 x0, .int .u64 x1, .int .u64 x2, .int .u64 x3, .int .u64 x4, .int .u64 x5, .int .u64 x6, .int .u64 x7, .int .u64 x8, .int .u64 x9], 49), (w.heap.size, #[.slice A n cap], 22)]) w.heap.size w [] (fun k => n0 ≤ k ∧ k < w1.heap.size) w1) := EI.from (by simp only [List.mem_cons, List.not_mem_nil, or_false, forall_eq, forall_eq_or_imp]; first | omega | exact fun _ h => h.elim | simp) (Nat.le_refl _) (by have := hbWL0.size; omega) (fun k hk => by omega)
      refine wp_each_block (w0 := w1) (S := fun k => n0 ≤ k ∧ k < w1.heap.size) (xs := knownL x4 xs) (encs := encK) rfl (enters_of Try.func49 (by kernel_rfl) rfl) HSEQ.out (fun k hk => by omega) hkS0 (fun _ _ => rfl) (fun k V => k < 3 ∧ EI (fun (k : Nat) => [(wr.heap.size + 1 + 1, #[.int .i64 (lastI (knownL x4 xs) k)], 3), (wr.heap.size + 1, #[.int .i64 (k : Nat)], 3), (wr.heap.size, #[.int .i64 0], 3), (w.heap.size + 1 + 1 + 1, #[.int .u64 x4], 35), (w.heap.size + 1 + 1, #[.bool false], 4), (w.heap.size + 1, #[.int .u64 x0, .int .u64 x1, .int .u64 x2, .int .u64 x3, .int .u64 x4, .int .u64 x5, .int .u64 x6, .int .u64 x7, .int .u64 x8, .int .u64 x9], 49), (w.heap.size, #[.slice A n cap], 22)]) w.heap.size w [] (fun k => n0 ≤ k ∧ k < w1.heap.size) w1 k V) (fun k V => k = 3 ∧ EI (fun (k : Nat) => [(wr.heap.size + 1 + 1, #[.int .i64 (lastI (knownL x4 xs) k)], 3), (wr.heap.size + 1, #[.int .i64 (k : Nat)], 3), (wr.heap.size, #[.int .i64 0], 3), (w.heap.size + 1 + 1 + 1, #[.int .u64 x4], 35), (w.heap.size + 1 + 1, #[.bool false], 4), (w.heap.size + 1, #[.int .u64 x0, .int .u64 x1, .int .u64 x2, .int .u64 x3, .int .u64 x4, .int .u64 x5, .int .u64 x6, .int .u64 x7, .int .u64 x8, .int .u64 x9], 49), (w.heap.size, #[.slice A n cap], 22)]) w.heap.size w [] (fun k => n0 ≤ k ∧ k < w1.heap.size) w1 k V) ?hI0 ?hIx0 ?h00 ?round0 ?hend0
      case hI0 => exact fun k V V2 row h hg hr => ⟨h.1, hI0 k V V2 row h.2 hg hr⟩
      case hIx0 => exact fun k V V2 row h hg hr => ⟨h.1, hI0 k V V2 row h.2 hg hr⟩
      case h00 => exact ⟨by omega, ⟨hoL0.out, hbWL0, fun D h => (by cases h), hkS0⟩⟩
      case round0 =>
        rintro l' k x V hx ⟨hk3, hE⟩ hl'
        gi_wp2
        refine ⟨Keep.refl _ _, EI (fun (k : Nat) => [(wr.heap.size + 1 + 1, #[.int .i64 (lastI (knownL x4 xs) k)], 3), (wr.heap.size + 1, #[.int .i64 (k : Nat)], 3), (wr.heap.size, #[.int .i64 0], 3), (w.heap.size + 1 + 1 + 1, #[.int .u64 x4], 35), (w.heap.size + 1 + 1, #[.bool false], 4), (w.heap.size + 1, #[.int .u64 x0, .int .u64 x1, .int .u64 x2, .int .u64 x3, .int .u64 x4, .int .u64 x5, .int .u64 x6, .int .u64 x7, .int .u64 x8, .int .u64 x9], 49), (w.heap.size, #[.slice A n cap], 22)]) w.heap.size w [] (fun k => n0 ≤ k ∧ k < w1.heap.size) w1 k, fun _ V V2 row h hg hr => hI0 k V V2 row h hg hr, hE, ?body0⟩
        case body0 =>
          rintro V2 ⟨hO2, hb2, hD2, hK2⟩
          obtain ⟨y, hy, hyb, hx2⟩ := knownL_told hx
          have hlast := Lib.hid (lastI_at hx)
          have hlt3 := lastI_lt hx
          obtain ⟨b', off, rfl, hbl, hcell⟩ := (HX.out _ hb2).cell (cellsC_at (j := 0) hy (by rfl))
          have hc0 : V2.cell? ⟨b', off + x.1 * 2, none⟩ = some (.int .u8 y.1) := by have := hcell (x.1 * 2) _ (cellsC_at (j := 0) hy (by rfl)); simpa [Nat.add_assoc] using this
          have hc1 : V2.cell? ⟨b', off + x.1 * 2 + 1, none⟩ = some (.int .u64 y.2) := by have := hcell (x.1 * 2 + 1) _ (cellsC_at (j := 1) hy (by rfl)); simpa [Nat.add_assoc] using this
          clear hcell
          have hkb : k < 200 := by have h1 := (List.getElem?_eq_some_iff.1 hx).1; have h2 := knownL_len x4 xs; omega
          have hxn : x.1 < n := by rw [← hln]; exact (List.getElem?_eq_some_iff.1 hy).1
          have d1 : decide ((x.1 : Int) ≤ lastI (knownL x4 xs) k) = false := by simp; omega
          have d2 : decide ((n : Int) ≤ x.1) = false := by simp; omega
          have d2' : decide (n ≤ x.1) = false := by simp; omega
          have hbr := HBE.out y (List.mem_of_getElem? hy)
          rw [hyb] at hbr
          have hRX := fun V => HRB.out y V (List.mem_of_getElem? hy)
          rw [← hbr] at hRX
          rw [hx2]
          have HVB := Lib.hid hb2
          have HVD := Lib.hid hD2
          have HVK := Lib.hid hK2
          clear hD2 hK2 hbr hE hx2
          generalize hla : lastI (knownL x4 xs) k = la at *
          have O6 := hO2
          have c6x0 := Own.cell O6 0 rfl
          have f6x0 := Own.free O6 0 rfl
          have l6x0 := Own.lt O6 0 rfl
          have l6x0d0 := le_up 0 l6x0
          have l6x0d1 := le_up 1 l6x0
          simp only [upN] at l6x0d0 l6x0d1
          have c6x1 := Own.cell O6 1 rfl
          have f6x1 := Own.free O6 1 rfl
          have l6x1 := Own.lt O6 1 rfl
          have l6x1d0 := le_up 0 l6x1
          have l6x1d1 := le_up 1 l6x1
          simp only [upN] at l6x1d0 l6x1d1
          have c6x2 := Own.cell O6 2 rfl
          have f6x2 := Own.free O6 2 rfl
          have l6x2 := Own.lt O6 2 rfl
          have l6x2d0 := le_up 0 l6x2
          have l6x2d1 := le_up 1 l6x2
          simp only [upN] at l6x2d0 l6x2d1
          have c6x3 := Own.cell O6 3 rfl
          have f6x3 := Own.free O6 3 rfl
          have l6x3 := Own.lt O6 3 rfl
          have l6x3d0 := le_up 0 l6x3
          have l6x3d1 := le_up 1 l6x3
          simp only [upN] at l6x3d0 l6x3d1
          have c6x4 := Own.cell O6 4 rfl
          have f6x4 := Own.free O6 4 rfl
          have l6x4 := Own.lt O6 4 rfl
          have l6x4d0 := le_up 0 l6x4
          have l6x4d1 := le_up 1 l6x4
          simp only [upN] at l6x4d0 l6x4d1
          have c6x5 := Own.cell O6 5 rfl
          have f6x5 := Own.free O6 5 rfl
          have l6x5 := Own.lt O6 5 rfl
          have l6x5d0 := le_up 0 l6x5
          have l6x5d1 := le_up 1 l6x5
          simp only [upN] at l6x5d0 l6x5d1
          have c6x6 := Own.cell O6 6 rfl
          have f6x6 := Own.free O6 6 rfl
          have l6x6 := Own.lt O6 6 rfl
          have l6x6d0 := le_up 0 l6x6
          have l6x6d1 := le_up 1 l6x6
          simp only [upN] at l6x6d0 l6x6d1
          have HO6 := Lib.hid O6
          clear O6
          by_cases hk2 : k < 2
          · have d3 : decide ((3 : Int) ≤ (k : Int) + 1) = false := by simp; omega
            gi_wp2
            refine regInG (by kernel_rfl) (fun ⟨_, _, h⟩ => h) V2.heap.size 28 0 0 [(0, 0, 309485009821345068724781056, 16384), (1, 0, 618970019642690137449562112, 8192), (2, 3, 1237940039285380274899124224, 928455029464035206174343168), (3, 4, 2475880078570760549798248448, 1237940039285380274899124224), (4, 8, 4951760157141521099596496896, 2475880078570760549798264832), (5, 8, 9903520314283042199192993792, 2475880078570760549798248456), (6, 40, 19807040628566084398385987584, 12379400392853802748991242240), (7, 88, 39614081257132168796771975168, 27234680864278366047780732928), (8, 136, 79228162514264337593543950336, 42089961335702929346570223616), (9, 264, 158456325028528675187087900672, 79228162514264337593543950336), (10, 512, 316912650057057350374175801344, 158456325028528675187087900680), (11, 512, 633825300114114700748351602688, 158456325028528675187087917056), (12, 3584, 1267650600228229401496703205376, 1109194275199700726309615304704), (13, 4608, 2535301200456458802993406410752, 1426106925256758076683791106048), (14, 8704, 5070602400912917605986812821504, 2693757525484987478180494311424), (15, 512, 10141204801825835211973625643008, 158456325028528675187087933440), (16, 49664, 20282409603651670423947251286016, 15370263527767281493147526365184), (17, 66048, 40564819207303340847894502572032, 20440865928680199099134339186688), (18, 131584, 81129638414606681695789005144064, 40564819207303340847894502572032), (19, 262144, 162259276829213363391578010288128, 81129638414606681695789005144072), (20, 262144, 324518553658426726783156020576256, 81129638414606681695789005160448), (21, 1835008, 649037107316853453566312041152512, 567907468902246771870523036008448), (22, 2359296, 1298074214633706907132624082305024, 730166745731460135262101046296576), (23, 4456448, 2596148429267413814265248164610048, 1379203853048313588828413087449088), (24, 262144, 5192296858534827628530496329220096, 81129638414606681695789005144192), (25, 25427968, 10384593717069655257060992658440192, 7869574926216848124491533498974208), (26, 33816576, 20769187434139310514121985316880384, 10465723355484261938756781663584256), (27, 67371008, 41538374868278621028243970633760768, 20850317072553917195817774322024448)] [(.p 0, 1), (.p 1, 3), (.p 2, 7), (.p 3, 15), (.p 4, 31), (.p 5, 63), (.p 6, 127), (.p 7, 255), (.p 8, 511), (.p 9, 1023), (.p 10, 2047), (.p 11, 4095), (.p 12, 8191), (.p 13, 16383), (.q 14, 32767), (.p 15, 65535), (.p 16, 131071), (.p 17, 262143), (.p 18, 524287), (.p 19, 1048575), (.p 20, 2097151), (.p 21, 4194303), (.p 22, 8388607), (.q 23, 16777215), (.p 24, 33554431), (.p 25, 67108863), (.p 26, 134217727), (.p 27, 268435455)] [] _ (fun p hp => hp) (by first | omega | (simp; done) | (simp; omega)) (by kernel_rfl) (by kernel_rfl) HO6.out ?_
            refine wpG_move (i := 0) rfl rfl rfl (by rfl) rfl ?_
            simp only [List.set_cons_zero, List.set_cons_succ]
            refine wpG_pure (i := 1) (v := ?v7x1) rfl rfl (by rfl) (fun w hB hG K hK => ?h7x1) ?_
            case h7x1 =>
              have cx := Own.cell hG 0 rfl
              go_wp2_with fail
              exact hK _ (Below.refl _ _)
            simp only [List.set_cons_zero, List.set_cons_succ]
            refine wpG_pure (i := 2) (v := ?v7x2) rfl rfl (by rfl) (fun w hB hG K hK => ?h7x2) ?_
            case h7x2 =>
              go_wp2_with fail
              exact hK _ (Below.refl _ _)
            simp only [List.set_cons_zero, List.set_cons_succ]
            refine wpG_move (i := 3) rfl rfl rfl (by rfl) rfl ?_
            simp only [List.set_cons_zero, List.set_cons_succ]
            refine wpG_move (i := 4) rfl rfl rfl (by rfl) rfl ?_
            simp only [List.set_cons_zero, List.set_cons_succ]
            refine wpG_pure (i := 5) (v := ?v7x5) rfl rfl (by rfl) (fun w hB hG K hK => ?h7x5) ?_
            case h7x5 =>
              have cx := Own.cell hG 6 rfl
              go_wp2_with fail
              exact hK _ (Below.refl _ _)
            simp only [List.set_cons_zero, List.set_cons_succ]
            refine wpG_pure (i := 6) (v := ?v7x6) rfl rfl (by rfl) (fun w hB hG K hK => ?h7x6) ?_
            case h7x6 =>
              go_wp2_with fail
              exact hK _ (Below.refl _ _)
            simp only [List.set_cons_zero, List.set_cons_succ]
            refine wpG_pure (i := 7) (v := ?v7x7) rfl rfl (by rfl) (fun w hB hG K hK => ?h7x7) ?_
            case h7x7 =>
              go_wp2_with fail
              exact hK _ (Below.refl _ _)
            simp only [List.set_cons_zero, List.set_cons_succ]
            refine wpG_pure (i := 8) (v := ?v7x8) rfl rfl (by rfl) (fun w hB hG K hK => ?h7x8) ?_
            case h7x8 =>
              go_wp2_with fail
              exact hK _ (Below.refl _ _)
            simp only [List.set_cons_zero, List.set_cons_succ]
            refine wpG_move (i := 9) rfl rfl rfl (by rfl) rfl ?_
            simp only [List.set_cons_zero, List.set_cons_succ]
            refine wpG_pure (i := 10) (v := ?v7x10) rfl rfl (by rfl) (fun w hB hG K hK => ?h7x10) ?_
            case h7x10 =>
              have cx := Own.cell hG 6 rfl
              go_wp2_with fail
              exact hK _ (Below.refl _ _)
            simp only [List.set_cons_zero, List.set_cons_succ]
            refine wpG_move (i := 11) rfl rfl rfl (by rfl) rfl ?_
            simp only [List.set_cons_zero, List.set_cons_succ]
            refine wpG_pure (i := 12) (v := ?v7x12) rfl rfl (by rfl) (fun w hB hG K hK => ?h7x12) ?_
            case h7x12 =>
              go_wp2_with fail
              exact hK _ (Below.refl _ _)
            simp only [List.set_cons_zero, List.set_cons_succ]
            refine wpG_pure (i := 13) (v := ?v7x13) rfl rfl (by rfl) (fun w hB hG K hK => ?h7x13) ?_
            case h7x13 =>
              go_wp2_with fail
              exact hK _ (Below.refl _ _)
            simp only [List.set_cons_zero, List.set_cons_succ]
            refine wpG_op (i := 14) (v := ?v7x14) rfl rfl (by rfl) (fun w hB hG K hK => ?h7x14) ?_
            case h7x14 =>
              have hcx := (hB.cell (p := ⟨b', off + x.1 * 2, none⟩) (World.block_lt_of_cell? V2 _ hc0)).trans hc0
              go_wp2_with fail
              exact hK _ (Below.refl _ _)
            simp only [List.set_cons_zero, List.set_cons_succ]
            refine wpG_move (i := 15) rfl rfl rfl (by rfl) rfl ?_
            simp only [List.set_cons_zero, List.set_cons_succ]
            refine wpG_pure (i := 16) (v := ?v7x16) rfl rfl (by rfl) (fun w hB hG K hK => ?h7x16) ?_
            case h7x16 =>
              go_wp2_with fail
              exact hK _ (Below.refl _ _)
            simp only [List.set_cons_zero, List.set_cons_succ]
            refine wpG_pure (i := 17) (v := ?v7x17) rfl rfl (by rfl) (fun w hB hG K hK => ?h7x17) ?_
            case h7x17 =>
              go_wp2_with fail
              exact hK _ (Below.refl _ _)
            simp only [List.set_cons_zero, List.set_cons_succ]
            refine wpG_move (i := 18) rfl rfl rfl (by rfl) rfl ?_
            simp only [List.set_cons_zero, List.set_cons_succ]
            refine wpG_pure (i := 19) (v := ?v7x19) rfl rfl (by rfl) (fun w hB hG K hK => ?h7x19) ?_
            case h7x19 =>
              have cx := Own.cell hG 6 rfl
              go_wp2_with fail
              exact hK _ (Below.refl _ _)
            simp only [List.set_cons_zero, List.set_cons_succ]
            refine wpG_move (i := 20) rfl rfl rfl (by rfl) rfl ?_
            simp only [List.set_cons_zero, List.set_cons_succ]
            refine wpG_pure (i := 21) (v := ?v7x21) rfl rfl (by rfl) (fun w hB hG K hK => ?h7x21) ?_
            case h7x21 =>
              go_wp2_with fail
              exact hK _ (Below.refl _ _)
            simp only [List.set_cons_zero, List.set_cons_succ]
            refine wpG_pure (i := 22) (v := ?v7x22) rfl rfl (by rfl) (fun w hB hG K hK => ?h7x22) ?_
            case h7x22 =>
              go_wp2_with fail
              exact hK _ (Below.refl _ _)
            simp only [List.set_cons_zero, List.set_cons_succ]
            refine wpG_op (i := 23) (v := ?v7x23) rfl rfl (by rfl) (fun w hB hG K hK => ?h7x23) ?_
            case h7x23 =>
              have hcx := (hB.cell (p := ⟨b', off + x.1 * 2 + 1, none⟩) (World.block_lt_of_cell? V2 _ hc1)).trans hc1
              go_wp2_with fail
              exact hK _ (Below.refl _ _)
            simp only [List.set_cons_zero, List.set_cons_succ]
            refine wpG_pure (i := 24) (v := ?v7x24) rfl rfl (by rfl) (fun w hB hG K hK => ?h7x24) ?_
            case h7x24 =>
              have cx := Own.cell hG 3 rfl
              go_wp2_with fail
              exact hK _ (Below.refl _ _)
            simp only [List.set_cons_zero, List.set_cons_succ]
            refine wpG_pure (i := 25) (v := ?v7x25) rfl rfl (by rfl) (fun w hB hG K hK => ?h7x25) ?_
            case h7x25 =>
              go_wp2_with fail
              refine (hRX _).mono ?_
              rintro e wx ⟨rfl, rfl⟩
              exact hK _ (Below.refl _ _)
            simp only [List.set_cons_zero, List.set_cons_succ]
            refine wpG_pure (i := 26) (v := ?v7x26) rfl rfl (by rfl) (fun w hB hG K hK => ?h7x26) ?_
            case h7x26 =>
              go_wp2_with fail
              exact hK _ (Below.refl _ _)
            simp only [List.set_cons_zero, List.set_cons_succ]
            refine wpG_pure (i := 27) (v := ?v7x27) rfl rfl (by rfl) (fun w hB hG K hK => ?h7x27) ?_
            case h7x27 =>
              go_wp2_with fail
              exact hK _ (Below.refl _ _)
            simp only [List.set_cons_zero, List.set_cons_succ]
            refine wpG_nil (fun w7 hb7 hG7 => ?_)
            simp only [List.append_eq, List.cons_append, List.nil_append, List.drop_succ_cons, List.drop_zero, List.drop_nil]
            have O7 := Own.of hG7
            try simp only [List.setIfInBounds_toArray, List.set_cons_zero, List.set_cons_succ] at O7
            have bw7 : Below w.heap.size w w7 := Below.trans (by go_grown) (Below.mono hb7 (by first | omega | (simp; done) | (simp; omega)))
            have zw7 := Below.size hb7
            try simp only [World.size_alloc, World.size_drew, World.size_setCell] at zw7
            have kk7 := Keep.below (Keep.refl (fun b => (n0 ≤ b ∧ b < w1.heap.size) ∨ WL0.heap.size ≤ b) V2) hb7
            have hwc7 : Below V2.heap.size V2 w7 := Below.trans (by go_grown) (Below.mono hb7 (by first | omega | (simp; done) | (simp; omega)))
            clear c6x0 f6x0 l6x0 l6x0d0 l6x0d1 c6x1 f6x1 l6x1 l6x1d0 l6x1d1 c6x2 f6x2 l6x2 l6x2d0 l6x2d1 c6x3 f6x3 l6x3 l6x3d0 l6x3d1 c6x4 f6x4 l6x4 l6x4d0 l6x4d1 c6x5 f6x5 l6x5 l6x5d0 l6x5d1 c6x6 f6x6 l6x6 l6x6d0 l6x6d1
            have c7x0 := Own.cell O7 0 rfl
            have f7x0 := Own.free O7 0 rfl
            have l7x0 := Own.lt O7 0 rfl
            have l7x0d0 := le_up 0 l7x0
            have l7x0d1 := le_up 1 l7x0
            simp only [upN] at l7x0d0 l7x0d1
            have c7x1 := Own.cell O7 1 rfl
            have f7x1 := Own.free O7 1 rfl
            have l7x1 := Own.lt O7 1 rfl
            have l7x1d0 := le_up 0 l7x1
            have l7x1d1 := le_up 1 l7x1
            simp only [upN] at l7x1d0 l7x1d1
            have c7x2 := Own.cell O7 2 rfl
            have f7x2 := Own.free O7 2 rfl
            have l7x2 := Own.lt O7 2 rfl
            have l7x2d0 := le_up 0 l7x2
            have l7x2d1 := le_up 1 l7x2
            simp only [upN] at l7x2d0 l7x2d1
            have c7x3 := Own.cell O7 3 rfl
            have f7x3 := Own.free O7 3 rfl
            have l7x3 := Own.lt O7 3 rfl
            have l7x3d0 := le_up 0 l7x3
            have l7x3d1 := le_up 1 l7x3
            simp only [upN] at l7x3d0 l7x3d1
            have c7x4 := Own.cell O7 4 rfl
            have f7x4 := Own.free O7 4 rfl
            have l7x4 := Own.lt O7 4 rfl
            have l7x4d0 := le_up 0 l7x4
            have l7x4d1 := le_up 1 l7x4
            simp only [upN] at l7x4d0 l7x4d1
            have c7x5 := Own.cell O7 5 rfl
            have f7x5 := Own.free O7 5 rfl
            have l7x5 := Own.lt O7 5 rfl
            have l7x5d0 := le_up 0 l7x5
            have l7x5d1 := le_up 1 l7x5
            simp only [upN] at l7x5d0 l7x5d1
            have c7x6 := Own.cell O7 6 rfl
            have f7x6 := Own.free O7 6 rfl
            have l7x6 := Own.lt O7 6 rfl
            have l7x6d0 := le_up 0 l7x6
            have l7x6d1 := le_up 1 l7x6
            simp only [upN] at l7x6d0 l7x6d1
            have HO7 := Lib.hid O7
            clear O7 hb7
            go_wp2_with fail
            gi_wp2
            refine ⟨(Keep.setCell (Keep.setCell kk7 _ _ (.inl (by first | (intro h; dsimp only at h; omega) | (intro h; omega)))) _ _ (.inl (by first | (intro h; dsimp only at h; omega) | (intro h; omega)))), by omega, ⟨?own0n, ?bel0n, ?dd0n, ?ks0n⟩⟩
            case own0n => dsimp only; rw [hlast.out]; refine Own.eqv (Own.set (Own.set HO7.out 0 rfl (Ne1.cons (by first | omega | (simp; omega)) (Ne1.cons (by first | omega | (simp; omega)) (Ne1.cons (by first | omega | (simp; omega)) (Ne1.cons (by first | omega | (simp; omega)) (Ne1.cons (by first | omega | (simp; omega)) (Ne1.cons (by first | omega | (simp; omega)) Ne1.nil))))))) 1 rfl (Ne1.cons (by first | omega | (simp; omega)) (Ne1.cons (by first | omega | (simp; omega)) (Ne1.cons (by first | omega | (simp; omega)) (Ne1.cons (by first | omega | (simp; omega)) (Ne1.cons (by first | omega | (simp; omega)) (Ne1.cons (by first | omega | (simp; omega)) Ne1.nil))))))) ?_; simp only [List.setIfInBounds_toArray, List.set_cons_zero, List.set_cons_succ]; rfl
            case bel0n => exact (Below.setCell (Below.setCell (HVB.out.trans (hwc7.mono (by have := HVB.out.size; omega))) (p := ⟨_, 0, none⟩) (by simp; omega) _) (p := ⟨_, 0, none⟩) (by simp; omega) _)
            case ks0n => exact HVK.out.trans (((Keep.setCell (Keep.setCell kk7 _ _ (.inl (by first | (intro h; dsimp only at h; omega) | (intro h; omega)))) _ _ (.inl (by first | (intro h; dsimp only at h; omega) | (intro h; omega))))).mono (fun q hq => .inl hq))
            case dd0n => exact fun D h => (((KeepsOthers.below hwc7).trans (KeepsOthers.setCell _ _ _)).trans (KeepsOthers.setCell _ _ _)).same _ _ (HVD.out D h) rfl
          · have d3 : decide ((3 : Int) ≤ (k : Int) + 1) = true := by simp; omega
            gi_wp2
            refine regInG (by kernel_rfl) (fun ⟨_, _, h⟩ => h) V2.heap.size 28 0 0 [(0, 0, 309485009821345068724781056, 16384), (1, 0, 618970019642690137449562112, 8192), (2, 3, 1237940039285380274899124224, 928455029464035206174343168), (3, 4, 2475880078570760549798248448, 1237940039285380274899124224), (4, 8, 4951760157141521099596496896, 2475880078570760549798264832), (5, 8, 9903520314283042199192993792, 2475880078570760549798248456), (6, 40, 19807040628566084398385987584, 12379400392853802748991242240), (7, 88, 39614081257132168796771975168, 27234680864278366047780732928), (8, 136, 79228162514264337593543950336, 42089961335702929346570223616), (9, 264, 158456325028528675187087900672, 79228162514264337593543950336), (10, 512, 316912650057057350374175801344, 158456325028528675187087900680), (11, 512, 633825300114114700748351602688, 158456325028528675187087917056), (12, 3584, 1267650600228229401496703205376, 1109194275199700726309615304704), (13, 4608, 2535301200456458802993406410752, 1426106925256758076683791106048), (14, 8704, 5070602400912917605986812821504, 2693757525484987478180494311424), (15, 512, 10141204801825835211973625643008, 158456325028528675187087933440), (16, 49664, 20282409603651670423947251286016, 15370263527767281493147526365184), (17, 66048, 40564819207303340847894502572032, 20440865928680199099134339186688), (18, 131584, 81129638414606681695789005144064, 40564819207303340847894502572032), (19, 262144, 162259276829213363391578010288128, 81129638414606681695789005144072), (20, 262144, 324518553658426726783156020576256, 81129638414606681695789005160448), (21, 1835008, 649037107316853453566312041152512, 567907468902246771870523036008448), (22, 2359296, 1298074214633706907132624082305024, 730166745731460135262101046296576), (23, 4456448, 2596148429267413814265248164610048, 1379203853048313588828413087449088), (24, 262144, 5192296858534827628530496329220096, 81129638414606681695789005144192), (25, 25427968, 10384593717069655257060992658440192, 7869574926216848124491533498974208), (26, 33816576, 20769187434139310514121985316880384, 10465723355484261938756781663584256), (27, 67371008, 41538374868278621028243970633760768, 20850317072553917195817774322024448)] [(.p 0, 1), (.p 1, 3), (.p 2, 7), (.p 3, 15), (.p 4, 31), (.p 5, 63), (.p 6, 127), (.p 7, 255), (.p 8, 511), (.p 9, 1023), (.p 10, 2047), (.p 11, 4095), (.p 12, 8191), (.p 13, 16383), (.q 14, 32767), (.p 15, 65535), (.p 16, 131071), (.p 17, 262143), (.p 18, 524287), (.p 19, 1048575), (.p 20, 2097151), (.p 21, 4194303), (.p 22, 8388607), (.q 23, 16777215), (.p 24, 33554431), (.p 25, 67108863), (.p 26, 134217727), (.p 27, 268435455)] [] _ (fun p hp => hp) (by first | omega | (simp; done) | (simp; omega)) (by kernel_rfl) (by kernel_rfl) HO6.out ?_
            refine wpG_move (i := 0) rfl rfl rfl (by rfl) rfl ?_
            simp only [List.set_cons_zero, List.set_cons_succ]
            refine wpG_pure (i := 1) (v := ?v8x1) rfl rfl (by rfl) (fun w hB hG K hK => ?h8x1) ?_
            case h8x1 =>
              have cx := Own.cell hG 0 rfl
              go_wp2_with fail
              exact hK _ (Below.refl _ _)
            simp only [List.set_cons_zero, List.set_cons_succ]
            refine wpG_pure (i := 2) (v := ?v8x2) rfl rfl (by rfl) (fun w hB hG K hK => ?h8x2) ?_
            case h8x2 =>
              go_wp2_with fail
              exact hK _ (Below.refl _ _)
            simp only [List.set_cons_zero, List.set_cons_succ]
            refine wpG_move (i := 3) rfl rfl rfl (by rfl) rfl ?_
            simp only [List.set_cons_zero, List.set_cons_succ]
            refine wpG_move (i := 4) rfl rfl rfl (by rfl) rfl ?_
            simp only [List.set_cons_zero, List.set_cons_succ]
            refine wpG_pure (i := 5) (v := ?v8x5) rfl rfl (by rfl) (fun w hB hG K hK => ?h8x5) ?_
            case h8x5 =>
              have cx := Own.cell hG 6 rfl
              go_wp2_with fail
              exact hK _ (Below.refl _ _)
            simp only [List.set_cons_zero, List.set_cons_succ]
            refine wpG_pure (i := 6) (v := ?v8x6) rfl rfl (by rfl) (fun w hB hG K hK => ?h8x6) ?_
            case h8x6 =>
              go_wp2_with fail
              exact hK _ (Below.refl _ _)
            simp only [List.set_cons_zero, List.set_cons_succ]
            refine wpG_pure (i := 7) (v := ?v8x7) rfl rfl (by rfl) (fun w hB hG K hK => ?h8x7) ?_
            case h8x7 =>
              go_wp2_with fail
              exact hK _ (Below.refl _ _)
            simp only [List.set_cons_zero, List.set_cons_succ]
            refine wpG_pure (i := 8) (v := ?v8x8) rfl rfl (by rfl) (fun w hB hG K hK => ?h8x8) ?_
            case h8x8 =>
              go_wp2_with fail
              exact hK _ (Below.refl _ _)
            simp only [List.set_cons_zero, List.set_cons_succ]
            refine wpG_move (i := 9) rfl rfl rfl (by rfl) rfl ?_
            simp only [List.set_cons_zero, List.set_cons_succ]
            refine wpG_pure (i := 10) (v := ?v8x10) rfl rfl (by rfl) (fun w hB hG K hK => ?h8x10) ?_
            case h8x10 =>
              have cx := Own.cell hG 6 rfl
              go_wp2_with fail
              exact hK _ (Below.refl _ _)
            simp only [List.set_cons_zero, List.set_cons_succ]
            refine wpG_move (i := 11) rfl rfl rfl (by rfl) rfl ?_
            simp only [List.set_cons_zero, List.set_cons_succ]
            refine wpG_pure (i := 12) (v := ?v8x12) rfl rfl (by rfl) (fun w hB hG K hK => ?h8x12) ?_
            case h8x12 =>
              go_wp2_with fail
              exact hK _ (Below.refl _ _)
            simp only [List.set_cons_zero, List.set_cons_succ]
            refine wpG_pure (i := 13) (v := ?v8x13) rfl rfl (by rfl) (fun w hB hG K hK => ?h8x13) ?_
            case h8x13 =>
              go_wp2_with fail
              exact hK _ (Below.refl _ _)
            simp only [List.set_cons_zero, List.set_cons_succ]
            refine wpG_op (i := 14) (v := ?v8x14) rfl rfl (by rfl) (fun w hB hG K hK => ?h8x14) ?_
            case h8x14 =>
              have hcx := (hB.cell (p := ⟨b', off + x.1 * 2, none⟩) (World.block_lt_of_cell? V2 _ hc0)).trans hc0
              go_wp2_with fail
              exact hK _ (Below.refl _ _)
            simp only [List.set_cons_zero, List.set_cons_succ]
            refine wpG_move (i := 15) rfl rfl rfl (by rfl) rfl ?_
            simp only [List.set_cons_zero, List.set_cons_succ]
            refine wpG_pure (i := 16) (v := ?v8x16) rfl rfl (by rfl) (fun w hB hG K hK => ?h8x16) ?_
            case h8x16 =>
              go_wp2_with fail
              exact hK _ (Below.refl _ _)
            simp only [List.set_cons_zero, List.set_cons_succ]
            refine wpG_pure (i := 17) (v := ?v8x17) rfl rfl (by rfl) (fun w hB hG K hK => ?h8x17) ?_
            case h8x17 =>
              go_wp2_with fail
              exact hK _ (Below.refl _ _)
            simp only [List.set_cons_zero, List.set_cons_succ]
            refine wpG_move (i := 18) rfl rfl rfl (by rfl) rfl ?_
            simp only [List.set_cons_zero, List.set_cons_succ]
            refine wpG_pure (i := 19) (v := ?v8x19) rfl rfl (by rfl) (fun w hB hG K hK => ?h8x19) ?_
            case h8x19 =>
              have cx := Own.cell hG 6 rfl
              go_wp2_with fail
              exact hK _ (Below.refl _ _)
            simp only [List.set_cons_zero, List.set_cons_succ]
            refine wpG_move (i := 20) rfl rfl rfl (by rfl) rfl ?_
            simp only [List.set_cons_zero, List.set_cons_succ]
            refine wpG_pure (i := 21) (v := ?v8x21) rfl rfl (by rfl) (fun w hB hG K hK => ?h8x21) ?_
            case h8x21 =>
              go_wp2_with fail
              exact hK _ (Below.refl _ _)
            simp only [List.set_cons_zero, List.set_cons_succ]
            refine wpG_pure (i := 22) (v := ?v8x22) rfl rfl (by rfl) (fun w hB hG K hK => ?h8x22) ?_
            case h8x22 =>
              go_wp2_with fail
              exact hK _ (Below.refl _ _)
            simp only [List.set_cons_zero, List.set_cons_succ]
            refine wpG_op (i := 23) (v := ?v8x23) rfl rfl (by rfl) (fun w hB hG K hK => ?h8x23) ?_
            case h8x23 =>
              have hcx := (hB.cell (p := ⟨b', off + x.1 * 2 + 1, none⟩) (World.block_lt_of_cell? V2 _ hc1)).trans hc1
              go_wp2_with fail
              exact hK _ (Below.refl _ _)
            simp only [List.set_cons_zero, List.set_cons_succ]
            refine wpG_pure (i := 24) (v := ?v8x24) rfl rfl (by rfl) (fun w hB hG K hK => ?h8x24) ?_
            case h8x24 =>
              have cx := Own.cell hG 3 rfl
              go_wp2_with fail
              exact hK _ (Below.refl _ _)
            simp only [List.set_cons_zero, List.set_cons_succ]
            refine wpG_pure (i := 25) (v := ?v8x25) rfl rfl (by rfl) (fun w hB hG K hK => ?h8x25) ?_
            case h8x25 =>
              go_wp2_with fail
              refine (hRX _).mono ?_
              rintro e wx ⟨rfl, rfl⟩
              exact hK _ (Below.refl _ _)
            simp only [List.set_cons_zero, List.set_cons_succ]
            refine wpG_pure (i := 26) (v := ?v8x26) rfl rfl (by rfl) (fun w hB hG K hK => ?h8x26) ?_
            case h8x26 =>
              go_wp2_with fail
              exact hK _ (Below.refl _ _)
            simp only [List.set_cons_zero, List.set_cons_succ]
            refine wpG_pure (i := 27) (v := ?v8x27) rfl rfl (by rfl) (fun w hB hG K hK => ?h8x27) ?_
            case h8x27 =>
              go_wp2_with fail
              exact hK _ (Below.refl _ _)
            simp only [List.set_cons_zero, List.set_cons_succ]
            refine wpG_nil (fun w8 hb8 hG8 => ?_)
            simp only [List.append_eq, List.cons_append, List.nil_append, List.drop_succ_cons, List.drop_zero, List.drop_nil]
            have O8 := Own.of hG8
            try simp only [List.setIfInBounds_toArray, List.set_cons_zero, List.set_cons_succ] at O8
            have bw8 : Below w.heap.size w w8 := Below.trans (by go_grown) (Below.mono hb8 (by first | omega | (simp; done) | (simp; omega)))
            have zw8 := Below.size hb8
            try simp only [World.size_alloc, World.size_drew, World.size_setCell] at zw8
            have kk8 := Keep.below (Keep.refl (fun b => (n0 ≤ b ∧ b < w1.heap.size) ∨ WL0.heap.size ≤ b) V2) hb8
            have hwc8 : Below V2.heap.size V2 w8 := Below.trans (by go_grown) (Below.mono hb8 (by first | omega | (simp; done) | (simp; omega)))
            clear c6x0 f6x0 l6x0 l6x0d0 l6x0d1 c6x1 f6x1 l6x1 l6x1d0 l6x1d1 c6x2 f6x2 l6x2 l6x2d0 l6x2d1 c6x3 f6x3 l6x3 l6x3d0 l6x3d1 c6x4 f6x4 l6x4 l6x4d0 l6x4d1 c6x5 f6x5 l6x5 l6x5d0 l6x5d1 c6x6 f6x6 l6x6 l6x6d0 l6x6d1
            have c8x0 := Own.cell O8 0 rfl
            have f8x0 := Own.free O8 0 rfl
            have l8x0 := Own.lt O8 0 rfl
            have l8x0d0 := le_up 0 l8x0
            have l8x0d1 := le_up 1 l8x0
            simp only [upN] at l8x0d0 l8x0d1
            have c8x1 := Own.cell O8 1 rfl
            have f8x1 := Own.free O8 1 rfl
            have l8x1 := Own.lt O8 1 rfl
            have l8x1d0 := le_up 0 l8x1
            have l8x1d1 := le_up 1 l8x1
            simp only [upN] at l8x1d0 l8x1d1
            have c8x2 := Own.cell O8 2 rfl
            have f8x2 := Own.free O8 2 rfl
            have l8x2 := Own.lt O8 2 rfl
            have l8x2d0 := le_up 0 l8x2
            have l8x2d1 := le_up 1 l8x2
            simp only [upN] at l8x2d0 l8x2d1
            have c8x3 := Own.cell O8 3 rfl
            have f8x3 := Own.free O8 3 rfl
            have l8x3 := Own.lt O8 3 rfl
            have l8x3d0 := le_up 0 l8x3
            have l8x3d1 := le_up 1 l8x3
            simp only [upN] at l8x3d0 l8x3d1
            have c8x4 := Own.cell O8 4 rfl
            have f8x4 := Own.free O8 4 rfl
            have l8x4 := Own.lt O8 4 rfl
            have l8x4d0 := le_up 0 l8x4
            have l8x4d1 := le_up 1 l8x4
            simp only [upN] at l8x4d0 l8x4d1
            have c8x5 := Own.cell O8 5 rfl
            have f8x5 := Own.free O8 5 rfl
            have l8x5 := Own.lt O8 5 rfl
            have l8x5d0 := le_up 0 l8x5
            have l8x5d1 := le_up 1 l8x5
            simp only [upN] at l8x5d0 l8x5d1
            have c8x6 := Own.cell O8 6 rfl
            have f8x6 := Own.free O8 6 rfl
            have l8x6 := Own.lt O8 6 rfl
            have l8x6d0 := le_up 0 l8x6
            have l8x6d1 := le_up 1 l8x6
            simp only [upN] at l8x6d0 l8x6d1
            have HO8 := Lib.hid O8
            clear O8 hb8
            go_wp2_with fail
            gi_wp2
            refine ⟨((Keep.setCell (Keep.setCell kk8 _ _ (.inl (by first | (intro h; dsimp only at h; omega) | (intro h; omega)))) _ _ (.inl (by first | (intro h; dsimp only at h; omega) | (intro h; omega))))).mono (fun q hq => .inr hq), rfl, by omega, ⟨?own0e, ?bel0e, ?dd0e, ?ks0e⟩⟩
            case own0e => dsimp only; rw [hlast.out]; refine Own.eqv (Own.set (Own.set HO8.out 0 rfl (Ne1.cons (by first | omega | (simp; omega)) (Ne1.cons (by first | omega | (simp; omega)) (Ne1.cons (by first | omega | (simp; omega)) (Ne1.cons (by first | omega | (simp; omega)) (Ne1.cons (by first | omega | (simp; omega)) (Ne1.cons (by first | omega | (simp; omega)) Ne1.nil))))))) 1 rfl (Ne1.cons (by first | omega | (simp; omega)) (Ne1.cons (by first | omega | (simp; omega)) (Ne1.cons (by first | omega | (simp; omega)) (Ne1.cons (by first | omega | (simp; omega)) (Ne1.cons (by first | omega | (simp; omega)) (Ne1.cons (by first | omega | (simp; omega)) Ne1.nil))))))) ?_; simp only [List.setIfInBounds_toArray, List.set_cons_zero, List.set_cons_succ]; rfl
            case bel0e => exact (Below.setCell (Below.setCell (HVB.out.trans (hwc8.mono (by have := HVB.out.size; omega))) (p := ⟨_, 0, none⟩) (by simp; omega) _) (p := ⟨_, 0, none⟩) (by simp; omega) _)
            case ks0e => exact HVK.out.trans (((Keep.setCell (Keep.setCell kk8 _ _ (.inl (by first | (intro h; dsimp only at h; omega) | (intro h; omega)))) _ _ (.inl (by first | (intro h; dsimp only at h; omega) | (intro h; omega))))).mono (fun q hq => .inl hq))
            case dd0e => exact fun D h => (((KeepsOthers.below hwc8).trans (KeepsOthers.setCell _ _ _)).trans (KeepsOthers.setCell _ _ _)).same _ _ (HVD.out D h) rfl
      case hend0 =>
        intro k0 V0 hend hD0
        obtain ⟨hk, ⟨hO, hb0, _, hkV0⟩⟩ : k0 = min (knownL x4 xs).length 3 ∧ EI (fun (k : Nat) => [(wr.heap.size + 1 + 1, #[.int .i64 (lastI (knownL x4 xs) k)], 3), (wr.heap.size + 1, #[.int .i64 (k : Nat)], 3), (wr.heap.size, #[.int .i64 0], 3), (w.heap.size + 1 + 1 + 1, #[.int .u64 x4], 35), (w.heap.size + 1 + 1, #[.bool false], 4), (w.heap.size + 1, #[.int .u64 x0, .int .u64 x1, .int .u64 x2, .int .u64 x3, .int .u64 x4, .int .u64 x5, .int .u64 x6, .int .u64 x7, .int .u64 x8, .int .u64 x9], 49), (w.heap.size, #[.slice A n cap], 22)]) w.heap.size w [] (fun k => n0 ≤ k ∧ k < w1.heap.size) w1 k0 V0 := by
          rcases hend with ⟨h1, h2, h3⟩ | ⟨h1, h2, h3⟩
          · exact ⟨by omega, h3⟩
          · exact ⟨by omega, h3⟩
        have hmn : (if (3 : Int) < LI then (3 : Int) else LI) = (k0 : Nat) := by rw [HLI.out]; split <;> omega
        clear hk hend
        have O9 := hO
        have c9x0 := Own.cell O9 0 rfl
        have f9x0 := Own.free O9 0 rfl
        have l9x0 := Own.lt O9 0 rfl
        have l9x0d0 := le_up 0 l9x0
        have l9x0d1 := le_up 1 l9x0
        simp only [upN] at l9x0d0 l9x0d1
        have c9x1 := Own.cell O9 1 rfl
        have f9x1 := Own.free O9 1 rfl
        have l9x1 := Own.lt O9 1 rfl
        have l9x1d0 := le_up 0 l9x1
        have l9x1d1 := le_up 1 l9x1
        simp only [upN] at l9x1d0 l9x1d1
        have c9x2 := Own.cell O9 2 rfl
        have f9x2 := Own.free O9 2 rfl
        have l9x2 := Own.lt O9 2 rfl
        have l9x2d0 := le_up 0 l9x2
        have l9x2d1 := le_up 1 l9x2
        simp only [upN] at l9x2d0 l9x2d1
        have c9x3 := Own.cell O9 3 rfl
        have f9x3 := Own.free O9 3 rfl
        have l9x3 := Own.lt O9 3 rfl
        have l9x3d0 := le_up 0 l9x3
        have l9x3d1 := le_up 1 l9x3
        simp only [upN] at l9x3d0 l9x3d1
        have c9x4 := Own.cell O9 4 rfl
        have f9x4 := Own.free O9 4 rfl
        have l9x4 := Own.lt O9 4 rfl
        have l9x4d0 := le_up 0 l9x4
        have l9x4d1 := le_up 1 l9x4
        simp only [upN] at l9x4d0 l9x4d1
        have c9x5 := Own.cell O9 5 rfl
        have f9x5 := Own.free O9 5 rfl
        have l9x5 := Own.lt O9 5 rfl
        have l9x5d0 := le_up 0 l9x5
        have l9x5d1 := le_up 1 l9x5
        simp only [upN] at l9x5d0 l9x5d1
        have c9x6 := Own.cell O9 6 rfl
        have f9x6 := Own.free O9 6 rfl
        have l9x6 := Own.lt O9 6 rfl
        have l9x6d0 := le_up 0 l9x6
        have l9x6d1 := le_up 1 l9x6
        simp only [upN] at l9x6d0 l9x6d1
        have HO9 := Lib.hid O9
        clear O9
        have hbV0 := hb0
        clear hb0
        have zV0 : WL0.heap.size < V0.heap.size := (Array.getElem?_eq_some_iff.1 hD0).1
        go_wp2_with fail
        rw [rounds_succ]
        go_wp2_with fail
        refine wp_name fun WL1 hWL1 => ?_
        have zWL1 : WL1.heap.size = V0.heap.size + 3 := by rw [hWL1]; simp
        have hbWL1 : Below w.heap.size w WL1 := by rw [hWL1]; go_grown
        have hkS1 : Keep (fun k => n0 ≤ k ∧ k < w1.heap.size) w1 WL1 := by rw [hWL1]; exact (Keep.alloc (Keep.alloc (Keep.alloc hkV0 _) _) _)
        have hoL1 := Lib.hid (show Own _ WL1 by rw [hWL1]; exact (Own.new (Own.new (Own.new HO9.out (V0.heap.size) rfl) (V0.heap.size + 1) (by simp)) (V0.heap.size + 1 + 1) (by simp)))
        have hD0L : WL1.heap[WL0.heap.size]? = some (.deferred (some [])) := by rw [hWL1]; exact ((((KeepsOthers.refl _).trans (KeepsOthers.alloc _ _)).trans (KeepsOthers.alloc _ _)).trans (KeepsOthers.alloc _ _)).same _ _ hD0 rfl
        clear hWL1
        have hI1 : OwnFrom WL1.heap.size (EI (fun (k : Nat) => [(V0.heap.size + 1 + 1, #[.int .i64 (lastI (knownL x4 xs) k)], 3), (V0.heap.size + 1, #[.int .i64 (k : Nat)], 3), (V0.heap.size, #[.int .i64 1], 3), (wr.heap.size + 1 + 1, #[.int .i64 (lastI (knownL x4 xs) k0)], 3), (wr.heap.size + 1, #[.int .i64 (k0 : Nat)], 3), (wr.heap.size, #[.int .i64 0], 3), (w.heap.size + 1 + 1 + 1, #[.int .u64 x4], 35), (w.heap.size + 1 + 1, #[.bool false], 4), (w.heap.size + 1, #[.int .u64 x0, .int .u64 x1, .int .u64 x2, .int .u64 x3, .int .u64 x4, .int .u64 x5, .int .u64 x6, .int .u64 x7, .int .u64 x8, .int .u64 x9], 49), (w.heap.size, #[.slice A n cap], 22)]) w.heap.size w [WL0.heap.size] (fun k => n0 ≤ k ∧ k < w1.heap.size) w1) := EI.from (by simp only [List.mem_cons, List.not_mem_nil, or_false, forall_eq, forall_eq_or_imp]; first | omega | exact fun _ h => h.elim | simp) (Nat.le_refl _) (by have := hbWL1.size; omega) (fun k hk => by omega)
        refine wp_each_block (w0 := w1) (S := fun k => n0 ≤ k ∧ k < w1.heap.size) (xs := knownL x4 xs) (encs := encK) rfl (enters_of Try.func49 (by kernel_rfl) rfl) HSEQ.out (fun k hk => by omega) hkS1 (fun _ _ => rfl) (fun k V => EI (fun (k : Nat) => [(V0.heap.size + 1 + 1, #[.int .i64 (lastI (knownL x4 xs) k)], 3), (V0.heap.size + 1, #[.int .i64 (k : Nat)], 3), (V0.heap.size, #[.int .i64 1], 3), (wr.heap.size + 1 + 1, #[.int .i64 (lastI (knownL x4 xs) k0)], 3), (wr.heap.size + 1, #[.int .i64 (k0 : Nat)], 3), (wr.heap.size, #[.int .i64 0], 3), (w.heap.size + 1 + 1 + 1, #[.int .u64 x4], 35), (w.heap.size + 1 + 1, #[.bool false], 4), (w.heap.size + 1, #[.int .u64 x0, .int .u64 x1, .int .u64 x2, .int .u64 x3, .int .u64 x4, .int .u64 x5, .int .u64 x6, .int .u64 x7, .int .u64 x8, .int .u64 x9], 49), (w.heap.size, #[.slice A n cap], 22)]) w.heap.size w [WL0.heap.size] (fun k => n0 ≤ k ∧ k < w1.heap.size) w1 k V) (fun k V => False) ?hI1 ?hIx1 ?h01 ?round1 ?hend1
        case hI1 => exact hI1
        case hIx1 => exact fun k V V2 row h hg hr => h
        case h01 => exact ⟨hoL1.out, hbWL1, fun D h => (by simp only [List.mem_cons, List.not_mem_nil, or_false] at h; subst h; exact hD0L), hkS1⟩
        case round1 =>
          rintro l' k x V hx hE hl'
          gi_wp2
          refine ⟨Keep.refl _ _, EI (fun (k : Nat) => [(V0.heap.size + 1 + 1, #[.int .i64 (lastI (knownL x4 xs) k)], 3), (V0.heap.size + 1, #[.int .i64 (k : Nat)], 3), (V0.heap.size, #[.int .i64 1], 3), (wr.heap.size + 1 + 1, #[.int .i64 (lastI (knownL x4 xs) k0)], 3), (wr.heap.size + 1, #[.int .i64 (k0 : Nat)], 3), (wr.heap.size, #[.int .i64 0], 3), (w.heap.size + 1 + 1 + 1, #[.int .u64 x4], 35), (w.heap.size + 1 + 1, #[.bool false], 4), (w.heap.size + 1, #[.int .u64 x0, .int .u64 x1, .int .u64 x2, .int .u64 x3, .int .u64 x4, .int .u64 x5, .int .u64 x6, .int .u64 x7, .int .u64 x8, .int .u64 x9], 49), (w.heap.size, #[.slice A n cap], 22)]) w.heap.size w [WL0.heap.size] (fun k => n0 ≤ k ∧ k < w1.heap.size) w1 k, fun _ V V2 row h hg hr => hI1 k V V2 row h hg hr, hE, ?body1⟩
          case body1 =>
            rintro V2 ⟨hO2, hb2, hD2, hK2⟩
            obtain ⟨y, hy, hyb, hx2⟩ := knownL_told hx
            have hlast := Lib.hid (lastI_at hx)
            have hlt3 := lastI_lt hx
            obtain ⟨b', off, rfl, hbl, hcell⟩ := (HX.out _ hb2).cell (cellsC_at (j := 0) hy (by rfl))
            have hc0 : V2.cell? ⟨b', off + x.1 * 2, none⟩ = some (.int .u8 y.1) := by have := hcell (x.1 * 2) _ (cellsC_at (j := 0) hy (by rfl)); simpa [Nat.add_assoc] using this
            have hc1 : V2.cell? ⟨b', off + x.1 * 2 + 1, none⟩ = some (.int .u64 y.2) := by have := hcell (x.1 * 2 + 1) _ (cellsC_at (j := 1) hy (by rfl)); simpa [Nat.add_assoc] using this
            clear hcell
            have hkb : k < 200 := by have h1 := (List.getElem?_eq_some_iff.1 hx).1; have h2 := knownL_len x4 xs; omega
            have hxn : x.1 < n := by rw [← hln]; exact (List.getElem?_eq_some_iff.1 hy).1
            have d1 : decide ((x.1 : Int) ≤ lastI (knownL x4 xs) k) = false := by simp; omega
            have d2 : decide ((n : Int) ≤ x.1) = false := by simp; omega
            have d2' : decide (n ≤ x.1) = false := by simp; omega
            have hbr := HBE.out y (List.mem_of_getElem? hy)
            rw [hyb] at hbr
            have hRX := fun V => HRB.out y V (List.mem_of_getElem? hy)
            rw [← hbr] at hRX
            rw [hx2]
            have HVB := Lib.hid hb2
            have HVD := Lib.hid hD2
            have HVK := Lib.hid hK2
            clear hD2 hK2 hbr hE hx2
            generalize hla : lastI (knownL x4 xs) k = la at *
            have O10 := hO2
            have c10x0 := Own.cell O10 0 rfl
            have f10x0 := Own.free O10 0 rfl
            have l10x0 := Own.lt O10 0 rfl
            have l10x0d0 := le_up 0 l10x0
            have l10x0d1 := le_up 1 l10x0
            simp only [upN] at l10x0d0 l10x0d1
            have c10x1 := Own.cell O10 1 rfl
            have f10x1 := Own.free O10 1 rfl
            have l10x1 := Own.lt O10 1 rfl
            have l10x1d0 := le_up 0 l10x1
            have l10x1d1 := le_up 1 l10x1
            simp only [upN] at l10x1d0 l10x1d1
            have c10x2 := Own.cell O10 2 rfl
            have f10x2 := Own.free O10 2 rfl
            have l10x2 := Own.lt O10 2 rfl
            have l10x2d0 := le_up 0 l10x2
            have l10x2d1 := le_up 1 l10x2
            simp only [upN] at l10x2d0 l10x2d1
            have c10x3 := Own.cell O10 3 rfl
            have f10x3 := Own.free O10 3 rfl
            have l10x3 := Own.lt O10 3 rfl
            have l10x3d0 := le_up 0 l10x3
            have l10x3d1 := le_up 1 l10x3
            simp only [upN] at l10x3d0 l10x3d1
            have c10x4 := Own.cell O10 4 rfl
            have f10x4 := Own.free O10 4 rfl
            have l10x4 := Own.lt O10 4 rfl
            have l10x4d0 := le_up 0 l10x4
            have l10x4d1 := le_up 1 l10x4
            simp only [upN] at l10x4d0 l10x4d1
            have c10x5 := Own.cell O10 5 rfl
            have f10x5 := Own.free O10 5 rfl
            have l10x5 := Own.lt O10 5 rfl
            have l10x5d0 := le_up 0 l10x5
            have l10x5d1 := le_up 1 l10x5
            simp only [upN] at l10x5d0 l10x5d1
            have c10x6 := Own.cell O10 6 rfl
            have f10x6 := Own.free O10 6 rfl
            have l10x6 := Own.lt O10 6 rfl
            have l10x6d0 := le_up 0 l10x6
            have l10x6d1 := le_up 1 l10x6
            simp only [upN] at l10x6d0 l10x6d1
            have c10x7 := Own.cell O10 7 rfl
            have f10x7 := Own.free O10 7 rfl
            have l10x7 := Own.lt O10 7 rfl
            have l10x7d0 := le_up 0 l10x7
            have l10x7d1 := le_up 1 l10x7
            simp only [upN] at l10x7d0 l10x7d1
            have c10x8 := Own.cell O10 8 rfl
            have f10x8 := Own.free O10 8 rfl
            have l10x8 := Own.lt O10 8 rfl
            have l10x8d0 := le_up 0 l10x8
            have l10x8d1 := le_up 1 l10x8
            simp only [upN] at l10x8d0 l10x8d1
            have c10x9 := Own.cell O10 9 rfl
            have f10x9 := Own.free O10 9 rfl
            have l10x9 := Own.lt O10 9 rfl
            have l10x9d0 := le_up 0 l10x9
            have l10x9d1 := le_up 1 l10x9
            simp only [upN] at l10x9d0 l10x9d1
            have HO10 := Lib.hid O10
            clear O10
            gi_wp2
            refine regInG (by kernel_rfl) (fun ⟨_, _, h⟩ => h) V2.heap.size 28 0 0 [(0, 0, 309485009821345068724781056, 16384), (1, 0, 618970019642690137449562112, 8192), (2, 3, 1237940039285380274899124224, 928455029464035206174343168), (3, 4, 2475880078570760549798248448, 1237940039285380274899124224), (4, 8, 4951760157141521099596496896, 2475880078570760549798264832), (5, 8, 9903520314283042199192993792, 2475880078570760549798248456), (6, 40, 19807040628566084398385987584, 12379400392853802748991242240), (7, 88, 39614081257132168796771975168, 27234680864278366047780732928), (8, 136, 79228162514264337593543950336, 42089961335702929346570223616), (9, 264, 158456325028528675187087900672, 79228162514264337593543950336), (10, 512, 316912650057057350374175801344, 158456325028528675187087900680), (11, 512, 633825300114114700748351602688, 158456325028528675187087917056), (12, 3584, 1267650600228229401496703205376, 1109194275199700726309615304704), (13, 4608, 2535301200456458802993406410752, 1426106925256758076683791106048), (14, 8704, 5070602400912917605986812821504, 2693757525484987478180494311424), (15, 512, 10141204801825835211973625643008, 158456325028528675187087933440), (16, 49664, 20282409603651670423947251286016, 15370263527767281493147526365184), (17, 66048, 40564819207303340847894502572032, 20440865928680199099134339186688), (18, 131584, 81129638414606681695789005144064, 40564819207303340847894502572032), (19, 262144, 162259276829213363391578010288128, 81129638414606681695789005144072), (20, 262144, 324518553658426726783156020576256, 81129638414606681695789005160448), (21, 1835008, 649037107316853453566312041152512, 567907468902246771870523036008448), (22, 2359296, 1298074214633706907132624082305024, 730166745731460135262101046296576), (23, 4456448, 2596148429267413814265248164610048, 1379203853048313588828413087449088), (24, 262144, 5192296858534827628530496329220096, 81129638414606681695789005144192), (25, 25427968, 10384593717069655257060992658440192, 7869574926216848124491533498974208), (26, 33816576, 20769187434139310514121985316880384, 10465723355484261938756781663584256), (27, 67371008, 41538374868278621028243970633760768, 20850317072553917195817774322024448)] [(.p 0, 1), (.p 1, 3), (.p 2, 7), (.p 3, 15), (.p 4, 31), (.p 5, 63), (.p 6, 127), (.p 7, 255), (.p 8, 511), (.p 9, 1023), (.p 10, 2047), (.p 11, 4095), (.p 12, 8191), (.p 13, 16383), (.q 14, 32767), (.p 15, 65535), (.p 16, 131071), (.p 17, 262143), (.p 18, 524287), (.p 19, 1048575), (.p 20, 2097151), (.p 21, 4194303), (.p 22, 8388607), (.q 23, 16777215), (.p 24, 33554431), (.p 25, 67108863), (.p 26, 134217727), (.p 27, 268435455)] [] _ (fun p hp => hp) (by first | omega | (simp; done) | (simp; omega)) (by kernel_rfl) (by kernel_rfl) HO10.out ?_
            refine wpG_move (i := 0) rfl rfl rfl (by rfl) rfl ?_
            simp only [List.set_cons_zero, List.set_cons_succ]
            refine wpG_pure (i := 1) (v := ?v11x1) rfl rfl (by rfl) (fun w hB hG K hK => ?h11x1) ?_
            case h11x1 =>
              have cx := Own.cell hG 0 rfl
              go_wp2_with fail
              exact hK _ (Below.refl _ _)
            simp only [List.set_cons_zero, List.set_cons_succ]
            refine wpG_pure (i := 2) (v := ?v11x2) rfl rfl (by rfl) (fun w hB hG K hK => ?h11x2) ?_
            case h11x2 =>
              go_wp2_with fail
              exact hK _ (Below.refl _ _)
            simp only [List.set_cons_zero, List.set_cons_succ]
            refine wpG_move (i := 3) rfl rfl rfl (by rfl) rfl ?_
            simp only [List.set_cons_zero, List.set_cons_succ]
            refine wpG_move (i := 4) rfl rfl rfl (by rfl) rfl ?_
            simp only [List.set_cons_zero, List.set_cons_succ]
            refine wpG_pure (i := 5) (v := ?v11x5) rfl rfl (by rfl) (fun w hB hG K hK => ?h11x5) ?_
            case h11x5 =>
              have cx := Own.cell hG 9 rfl
              go_wp2_with fail
              exact hK _ (Below.refl _ _)
            simp only [List.set_cons_zero, List.set_cons_succ]
            refine wpG_pure (i := 6) (v := ?v11x6) rfl rfl (by rfl) (fun w hB hG K hK => ?h11x6) ?_
            case h11x6 =>
              go_wp2_with fail
              exact hK _ (Below.refl _ _)
            simp only [List.set_cons_zero, List.set_cons_succ]
            refine wpG_pure (i := 7) (v := ?v11x7) rfl rfl (by rfl) (fun w hB hG K hK => ?h11x7) ?_
            case h11x7 =>
              go_wp2_with fail
              exact hK _ (Below.refl _ _)
            simp only [List.set_cons_zero, List.set_cons_succ]
            refine wpG_pure (i := 8) (v := ?v11x8) rfl rfl (by rfl) (fun w hB hG K hK => ?h11x8) ?_
            case h11x8 =>
              go_wp2_with fail
              exact hK _ (Below.refl _ _)
            simp only [List.set_cons_zero, List.set_cons_succ]
            refine wpG_move (i := 9) rfl rfl rfl (by rfl) rfl ?_
            simp only [List.set_cons_zero, List.set_cons_succ]
            refine wpG_pure (i := 10) (v := ?v11x10) rfl rfl (by rfl) (fun w hB hG K hK => ?h11x10) ?_
            case h11x10 =>
              have cx := Own.cell hG 9 rfl
              go_wp2_with fail
              exact hK _ (Below.refl _ _)
            simp only [List.set_cons_zero, List.set_cons_succ]
            refine wpG_move (i := 11) rfl rfl rfl (by rfl) rfl ?_
            simp only [List.set_cons_zero, List.set_cons_succ]
            refine wpG_pure (i := 12) (v := ?v11x12) rfl rfl (by rfl) (fun w hB hG K hK => ?h11x12) ?_
            case h11x12 =>
              go_wp2_with fail
              exact hK _ (Below.refl _ _)
            simp only [List.set_cons_zero, List.set_cons_succ]
            refine wpG_pure (i := 13) (v := ?v11x13) rfl rfl (by rfl) (fun w hB hG K hK => ?h11x13) ?_
            case h11x13 =>
              go_wp2_with fail
              exact hK _ (Below.refl _ _)
            simp only [List.set_cons_zero, List.set_cons_succ]
            refine wpG_op (i := 14) (v := ?v11x14) rfl rfl (by rfl) (fun w hB hG K hK => ?h11x14) ?_
            case h11x14 =>
              have hcx := (hB.cell (p := ⟨b', off + x.1 * 2, none⟩) (World.block_lt_of_cell? V2 _ hc0)).trans hc0
              go_wp2_with fail
              exact hK _ (Below.refl _ _)
            simp only [List.set_cons_zero, List.set_cons_succ]
            refine wpG_move (i := 15) rfl rfl rfl (by rfl) rfl ?_
            simp only [List.set_cons_zero, List.set_cons_succ]
            refine wpG_pure (i := 16) (v := ?v11x16) rfl rfl (by rfl) (fun w hB hG K hK => ?h11x16) ?_
            case h11x16 =>
              go_wp2_with fail
              exact hK _ (Below.refl _ _)
            simp only [List.set_cons_zero, List.set_cons_succ]
            refine wpG_pure (i := 17) (v := ?v11x17) rfl rfl (by rfl) (fun w hB hG K hK => ?h11x17) ?_
            case h11x17 =>
              go_wp2_with fail
              exact hK _ (Below.refl _ _)
            simp only [List.set_cons_zero, List.set_cons_succ]
            refine wpG_move (i := 18) rfl rfl rfl (by rfl) rfl ?_
            simp only [List.set_cons_zero, List.set_cons_succ]
            refine wpG_pure (i := 19) (v := ?v11x19) rfl rfl (by rfl) (fun w hB hG K hK => ?h11x19) ?_
            case h11x19 =>
              have cx := Own.cell hG 9 rfl
              go_wp2_with fail
              exact hK _ (Below.refl _ _)
            simp only [List.set_cons_zero, List.set_cons_succ]
            refine wpG_move (i := 20) rfl rfl rfl (by rfl) rfl ?_
            simp only [List.set_cons_zero, List.set_cons_succ]
            refine wpG_pure (i := 21) (v := ?v11x21) rfl rfl (by rfl) (fun w hB hG K hK => ?h11x21) ?_
            case h11x21 =>
              go_wp2_with fail
              exact hK _ (Below.refl _ _)
            simp only [List.set_cons_zero, List.set_cons_succ]
            refine wpG_pure (i := 22) (v := ?v11x22) rfl rfl (by rfl) (fun w hB hG K hK => ?h11x22) ?_
            case h11x22 =>
              go_wp2_with fail
              exact hK _ (Below.refl _ _)
            simp only [List.set_cons_zero, List.set_cons_succ]
            refine wpG_op (i := 23) (v := ?v11x23) rfl rfl (by rfl) (fun w hB hG K hK => ?h11x23) ?_
            case h11x23 =>
              have hcx := (hB.cell (p := ⟨b', off + x.1 * 2 + 1, none⟩) (World.block_lt_of_cell? V2 _ hc1)).trans hc1
              go_wp2_with fail
              exact hK _ (Below.refl _ _)
            simp only [List.set_cons_zero, List.set_cons_succ]
            refine wpG_pure (i := 24) (v := ?v11x24) rfl rfl (by rfl) (fun w hB hG K hK => ?h11x24) ?_
            case h11x24 =>
              have cx := Own.cell hG 6 rfl
              go_wp2_with fail
              exact hK _ (Below.refl _ _)
            simp only [List.set_cons_zero, List.set_cons_succ]
            refine wpG_pure (i := 25) (v := ?v11x25) rfl rfl (by rfl) (fun w hB hG K hK => ?h11x25) ?_
            case h11x25 =>
              go_wp2_with fail
              refine (hRX _).mono ?_
              rintro e wx ⟨rfl, rfl⟩
              exact hK _ (Below.refl _ _)
            simp only [List.set_cons_zero, List.set_cons_succ]
            refine wpG_pure (i := 26) (v := ?v11x26) rfl rfl (by rfl) (fun w hB hG K hK => ?h11x26) ?_
            case h11x26 =>
              go_wp2_with fail
              exact hK _ (Below.refl _ _)
            simp only [List.set_cons_zero, List.set_cons_succ]
            refine wpG_pure (i := 27) (v := ?v11x27) rfl rfl (by rfl) (fun w hB hG K hK => ?h11x27) ?_
            case h11x27 =>
              go_wp2_with fail
              exact hK _ (Below.refl _ _)
            simp only [List.set_cons_zero, List.set_cons_succ]
            refine wpG_nil (fun w11 hb11 hG11 => ?_)
            simp only [List.append_eq, List.cons_append, List.nil_append, List.drop_succ_cons, List.drop_zero, List.drop_nil]
            have O11 := Own.of hG11
            try simp only [List.setIfInBounds_toArray, List.set_cons_zero, List.set_cons_succ] at O11
            have bw11 : Below w.heap.size w w11 := Below.trans (by go_grown) (Below.mono hb11 (by first | omega | (simp; done) | (simp; omega)))
            have zw11 := Below.size hb11
            try simp only [World.size_alloc, World.size_drew, World.size_setCell] at zw11
            have kk11 := Keep.below (Keep.refl (fun b => (n0 ≤ b ∧ b < w1.heap.size) ∨ WL1.heap.size ≤ b) V2) hb11
            have hwc11 : Below V2.heap.size V2 w11 := Below.trans (by go_grown) (Below.mono hb11 (by first | omega | (simp; done) | (simp; omega)))
            clear c10x0 f10x0 l10x0 l10x0d0 l10x0d1 c10x1 f10x1 l10x1 l10x1d0 l10x1d1 c10x2 f10x2 l10x2 l10x2d0 l10x2d1 c10x3 f10x3 l10x3 l10x3d0 l10x3d1 c10x4 f10x4 l10x4 l10x4d0 l10x4d1 c10x5 f10x5 l10x5 l10x5d0 l10x5d1 c10x6 f10x6 l10x6 l10x6d0 l10x6d1 c10x7 f10x7 l10x7 l10x7d0 l10x7d1 c10x8 f10x8 l10x8 l10x8d0 l10x8d1 c10x9 f10x9 l10x9 l10x9d0 l10x9d1
            have c11x0 := Own.cell O11 0 rfl
            have f11x0 := Own.free O11 0 rfl
            have l11x0 := Own.lt O11 0 rfl
            have l11x0d0 := le_up 0 l11x0
            have l11x0d1 := le_up 1 l11x0
            simp only [upN] at l11x0d0 l11x0d1
            have c11x1 := Own.cell O11 1 rfl
            have f11x1 := Own.free O11 1 rfl
            have l11x1 := Own.lt O11 1 rfl
            have l11x1d0 := le_up 0 l11x1
            have l11x1d1 := le_up 1 l11x1
            simp only [upN] at l11x1d0 l11x1d1
            have c11x2 := Own.cell O11 2 rfl
            have f11x2 := Own.free O11 2 rfl
            have l11x2 := Own.lt O11 2 rfl
            have l11x2d0 := le_up 0 l11x2
            have l11x2d1 := le_up 1 l11x2
            simp only [upN] at l11x2d0 l11x2d1
            have c11x3 := Own.cell O11 3 rfl
            have f11x3 := Own.free O11 3 rfl
            have l11x3 := Own.lt O11 3 rfl
            have l11x3d0 := le_up 0 l11x3
            have l11x3d1 := le_up 1 l11x3
            simp only [upN] at l11x3d0 l11x3d1
            have c11x4 := Own.cell O11 4 rfl
            have f11x4 := Own.free O11 4 rfl
            have l11x4 := Own.lt O11 4 rfl
            have l11x4d0 := le_up 0 l11x4
            have l11x4d1 := le_up 1 l11x4
            simp only [upN] at l11x4d0 l11x4d1
            have c11x5 := Own.cell O11 5 rfl
            have f11x5 := Own.free O11 5 rfl
            have l11x5 := Own.lt O11 5 rfl
            have l11x5d0 := le_up 0 l11x5
            have l11x5d1 := le_up 1 l11x5
            simp only [upN] at l11x5d0 l11x5d1
            have c11x6 := Own.cell O11 6 rfl
            have f11x6 := Own.free O11 6 rfl
            have l11x6 := Own.lt O11 6 rfl
            have l11x6d0 := le_up 0 l11x6
            have l11x6d1 := le_up 1 l11x6
            simp only [upN] at l11x6d0 l11x6d1
            have c11x7 := Own.cell O11 7 rfl
            have f11x7 := Own.free O11 7 rfl
            have l11x7 := Own.lt O11 7 rfl
            have l11x7d0 := le_up 0 l11x7
            have l11x7d1 := le_up 1 l11x7
            simp only [upN] at l11x7d0 l11x7d1
            have c11x8 := Own.cell O11 8 rfl
            have f11x8 := Own.free O11 8 rfl
            have l11x8 := Own.lt O11 8 rfl
            have l11x8d0 := le_up 0 l11x8
            have l11x8d1 := le_up 1 l11x8
            simp only [upN] at l11x8d0 l11x8d1
            have c11x9 := Own.cell O11 9 rfl
            have f11x9 := Own.free O11 9 rfl
            have l11x9 := Own.lt O11 9 rfl
            have l11x9d0 := le_up 0 l11x9
            have l11x9d1 := le_up 1 l11x9
            simp only [upN] at l11x9d0 l11x9d1
            have HO11 := Lib.hid O11
            clear O11 hb11
            go_wp2_with fail
            gi_wp2
            refine ⟨(Keep.setCell (Keep.setCell kk11 _ _ (.inl (by first | (intro h; dsimp only at h; omega) | (intro h; omega)))) _ _ (.inl (by first | (intro h; dsimp only at h; omega) | (intro h; omega)))), ⟨?own1n, ?bel1n, ?dd1n, ?ks1n⟩⟩
            case own1n => dsimp only; rw [hlast.out]; refine Own.eqv (Own.set (Own.set HO11.out 0 rfl (Ne1.cons (by first | omega | (simp; omega)) (Ne1.cons (by first | omega | (simp; omega)) (Ne1.cons (by first | omega | (simp; omega)) (Ne1.cons (by first | omega | (simp; omega)) (Ne1.cons (by first | omega | (simp; omega)) (Ne1.cons (by first | omega | (simp; omega)) (Ne1.cons (by first | omega | (simp; omega)) (Ne1.cons (by first | omega | (simp; omega)) (Ne1.cons (by first | omega | (simp; omega)) Ne1.nil)))))))))) 1 rfl (Ne1.cons (by first | omega | (simp; omega)) (Ne1.cons (by first | omega | (simp; omega)) (Ne1.cons (by first | omega | (simp; omega)) (Ne1.cons (by first | omega | (simp; omega)) (Ne1.cons (by first | omega | (simp; omega)) (Ne1.cons (by first | omega | (simp; omega)) (Ne1.cons (by first | omega | (simp; omega)) (Ne1.cons (by first | omega | (simp; omega)) (Ne1.cons (by first | omega | (simp; omega)) Ne1.nil)))))))))) ?_; simp only [List.setIfInBounds_toArray, List.set_cons_zero, List.set_cons_succ]; rfl
            case bel1n => exact (Below.setCell (Below.setCell (HVB.out.trans (hwc11.mono (by have := HVB.out.size; omega))) (p := ⟨_, 0, none⟩) (by simp; omega) _) (p := ⟨_, 0, none⟩) (by simp; omega) _)
            case ks1n => exact HVK.out.trans (((Keep.setCell (Keep.setCell kk11 _ _ (.inl (by first | (intro h; dsimp only at h; omega) | (intro h; omega)))) _ _ (.inl (by first | (intro h; dsimp only at h; omega) | (intro h; omega))))).mono (fun q hq => .inl hq))
            case dd1n => exact fun D h => (((KeepsOthers.below hwc11).trans (KeepsOthers.setCell _ _ _)).trans (KeepsOthers.setCell _ _ _)).same _ _ (HVD.out D h) rfl
        case hend1 =>
          intro k1 V1 hend hD1
          obtain ⟨hk, ⟨hO, hb0, hDD, hkV1⟩⟩ : k1 = (knownL x4 xs).length ∧ EI (fun (k : Nat) => [(V0.heap.size + 1 + 1, #[.int .i64 (lastI (knownL x4 xs) k)], 3), (V0.heap.size + 1, #[.int .i64 (k : Nat)], 3), (V0.heap.size, #[.int .i64 1], 3), (wr.heap.size + 1 + 1, #[.int .i64 (lastI (knownL x4 xs) k0)], 3), (wr.heap.size + 1, #[.int .i64 (k0 : Nat)], 3), (wr.heap.size, #[.int .i64 0], 3), (w.heap.size + 1 + 1 + 1, #[.int .u64 x4], 35), (w.heap.size + 1 + 1, #[.bool false], 4), (w.heap.size + 1, #[.int .u64 x0, .int .u64 x1, .int .u64 x2, .int .u64 x3, .int .u64 x4, .int .u64 x5, .int .u64 x6, .int .u64 x7, .int .u64 x8, .int .u64 x9], 49), (w.heap.size, #[.slice A n cap], 22)]) w.heap.size w [WL0.heap.size] (fun k => n0 ≤ k ∧ k < w1.heap.size) w1 k1 V1 := by
            rcases hend with ⟨h1, h3⟩ | ⟨h1, h3⟩
            · exact ⟨by omega, h3⟩
            · exact h3.elim
          have hkl : LI = (k1 : Nat) := by rw [HLI.out, hk]
          subst hkl
          replace hD0 := hDD _ (List.mem_singleton.2 rfl)
          clear hDD
          clear hk hend
          have O12 := hO
          have c12x0 := Own.cell O12 0 rfl
          have f12x0 := Own.free O12 0 rfl
          have l12x0 := Own.lt O12 0 rfl
          have l12x0d0 := le_up 0 l12x0
          have l12x0d1 := le_up 1 l12x0
          simp only [upN] at l12x0d0 l12x0d1
          have c12x1 := Own.cell O12 1 rfl
          have f12x1 := Own.free O12 1 rfl
          have l12x1 := Own.lt O12 1 rfl
          have l12x1d0 := le_up 0 l12x1
          have l12x1d1 := le_up 1 l12x1
          simp only [upN] at l12x1d0 l12x1d1
          have c12x2 := Own.cell O12 2 rfl
          have f12x2 := Own.free O12 2 rfl
          have l12x2 := Own.lt O12 2 rfl
          have l12x2d0 := le_up 0 l12x2
          have l12x2d1 := le_up 1 l12x2
          simp only [upN] at l12x2d0 l12x2d1
          have c12x3 := Own.cell O12 3 rfl
          have f12x3 := Own.free O12 3 rfl
          have l12x3 := Own.lt O12 3 rfl
          have l12x3d0 := le_up 0 l12x3
          have l12x3d1 := le_up 1 l12x3
          simp only [upN] at l12x3d0 l12x3d1
          have c12x4 := Own.cell O12 4 rfl
          have f12x4 := Own.free O12 4 rfl
          have l12x4 := Own.lt O12 4 rfl
          have l12x4d0 := le_up 0 l12x4
          have l12x4d1 := le_up 1 l12x4
          simp only [upN] at l12x4d0 l12x4d1
          have c12x5 := Own.cell O12 5 rfl
          have f12x5 := Own.free O12 5 rfl
          have l12x5 := Own.lt O12 5 rfl
          have l12x5d0 := le_up 0 l12x5
          have l12x5d1 := le_up 1 l12x5
          simp only [upN] at l12x5d0 l12x5d1
          have c12x6 := Own.cell O12 6 rfl
          have f12x6 := Own.free O12 6 rfl
          have l12x6 := Own.lt O12 6 rfl
          have l12x6d0 := le_up 0 l12x6
          have l12x6d1 := le_up 1 l12x6
          simp only [upN] at l12x6d0 l12x6d1
          have c12x7 := Own.cell O12 7 rfl
          have f12x7 := Own.free O12 7 rfl
          have l12x7 := Own.lt O12 7 rfl
          have l12x7d0 := le_up 0 l12x7
          have l12x7d1 := le_up 1 l12x7
          simp only [upN] at l12x7d0 l12x7d1
          have c12x8 := Own.cell O12 8 rfl
          have f12x8 := Own.free O12 8 rfl
          have l12x8 := Own.lt O12 8 rfl
          have l12x8d0 := le_up 0 l12x8
          have l12x8d1 := le_up 1 l12x8
          simp only [upN] at l12x8d0 l12x8d1
          have c12x9 := Own.cell O12 9 rfl
          have f12x9 := Own.free O12 9 rfl
          have l12x9 := Own.lt O12 9 rfl
          have l12x9d0 := le_up 0 l12x9
          have l12x9d1 := le_up 1 l12x9
          simp only [upN] at l12x9d0 l12x9d1
          have HO12 := Lib.hid O12
          clear O12
          have hbV1 := hb0
          clear hb0
          have zV1 : WL1.heap.size < V1.heap.size := (Array.getElem?_eq_some_iff.1 hD1).1
          go_wp2_with fail
          rw [rounds_succ]
          go_wp2_with fail
          refine (works_any _).mono ?_
          rintro e w13 ⟨rfl, hb13⟩
          have O13 := Own.grow' hb13 (Own.new HO12.out (V1.heap.size) rfl)
          try simp only [List.setIfInBounds_toArray, List.set_cons_zero, List.set_cons_succ] at O13
          have bw13 : Below w.heap.size w w13 := Below.trans (by go_grown) (Below.mono hb13 (by first | omega | (simp; done) | (simp; omega)))
          have zw13 := Below.size hb13
          try simp only [World.size_alloc, World.size_drew, World.size_setCell] at zw13
          replace hD0 := (((KeepsOthers.refl _).trans (KeepsOthers.alloc _ _)).trans (KeepsOthers.below hb13)).same _ _ hD0 rfl
          replace hD1 := (((KeepsOthers.refl _).trans (KeepsOthers.alloc _ _)).trans (KeepsOthers.below hb13)).same _ _ hD1 rfl
          have kk13 := Keep.below (Keep.alloc hkV1 _) hb13
          clear c12x0 f12x0 l12x0 l12x0d0 l12x0d1 c12x1 f12x1 l12x1 l12x1d0 l12x1d1 c12x2 f12x2 l12x2 l12x2d0 l12x2d1 c12x3 f12x3 l12x3 l12x3d0 l12x3d1 c12x4 f12x4 l12x4 l12x4d0 l12x4d1 c12x5 f12x5 l12x5 l12x5d0 l12x5d1 c12x6 f12x6 l12x6 l12x6d0 l12x6d1 c12x7 f12x7 l12x7 l12x7d0 l12x7d1 c12x8 f12x8 l12x8 l12x8d0 l12x8d1 c12x9 f12x9 l12x9 l12x9d0 l12x9d1
          have c13x0 := Own.cell O13 0 rfl
          have f13x0 := Own.free O13 0 rfl
          have l13x0 := Own.lt O13 0 rfl
          have l13x0d0 := le_up 0 l13x0
          have l13x0d1 := le_up 1 l13x0
          simp only [upN] at l13x0d0 l13x0d1
          have c13x1 := Own.cell O13 1 rfl
          have f13x1 := Own.free O13 1 rfl
          have l13x1 := Own.lt O13 1 rfl
          have l13x1d0 := le_up 0 l13x1
          have l13x1d1 := le_up 1 l13x1
          simp only [upN] at l13x1d0 l13x1d1
          have c13x2 := Own.cell O13 2 rfl
          have f13x2 := Own.free O13 2 rfl
          have l13x2 := Own.lt O13 2 rfl
          have l13x2d0 := le_up 0 l13x2
          have l13x2d1 := le_up 1 l13x2
          simp only [upN] at l13x2d0 l13x2d1
          have c13x3 := Own.cell O13 3 rfl
          have f13x3 := Own.free O13 3 rfl
          have l13x3 := Own.lt O13 3 rfl
          have l13x3d0 := le_up 0 l13x3
          have l13x3d1 := le_up 1 l13x3
          simp only [upN] at l13x3d0 l13x3d1
          have c13x4 := Own.cell O13 4 rfl
          have f13x4 := Own.free O13 4 rfl
          have l13x4 := Own.lt O13 4 rfl
          have l13x4d0 := le_up 0 l13x4
          have l13x4d1 := le_up 1 l13x4
          simp only [upN] at l13x4d0 l13x4d1
          have c13x5 := Own.cell O13 5 rfl
          have f13x5 := Own.free O13 5 rfl
          have l13x5 := Own.lt O13 5 rfl
          have l13x5d0 := le_up 0 l13x5
          have l13x5d1 := le_up 1 l13x5
          simp only [upN] at l13x5d0 l13x5d1
          have c13x6 := Own.cell O13 6 rfl
          have f13x6 := Own.free O13 6 rfl
          have l13x6 := Own.lt O13 6 rfl
          have l13x6d0 := le_up 0 l13x6
          have l13x6d1 := le_up 1 l13x6
          simp only [upN] at l13x6d0 l13x6d1
          have c13x7 := Own.cell O13 7 rfl
          have f13x7 := Own.free O13 7 rfl
          have l13x7 := Own.lt O13 7 rfl
          have l13x7d0 := le_up 0 l13x7
          have l13x7d1 := le_up 1 l13x7
          simp only [upN] at l13x7d0 l13x7d1
          have c13x8 := Own.cell O13 8 rfl
          have f13x8 := Own.free O13 8 rfl
          have l13x8 := Own.lt O13 8 rfl
          have l13x8d0 := le_up 0 l13x8
          have l13x8d1 := le_up 1 l13x8
          simp only [upN] at l13x8d0 l13x8d1
          have c13x9 := Own.cell O13 9 rfl
          have f13x9 := Own.free O13 9 rfl
          have l13x9 := Own.lt O13 9 rfl
          have l13x9d0 := le_up 0 l13x9
          have l13x9d1 := le_up 1 l13x9
          simp only [upN] at l13x9d0 l13x9d1
          have c13x10 := Own.cell O13 10 rfl
          have f13x10 := Own.free O13 10 rfl
          have l13x10 := Own.lt O13 10 rfl
          have l13x10d0 := le_up 0 l13x10
          have l13x10d1 := le_up 1 l13x10
          simp only [upN] at l13x10d0 l13x10d1
          have HO13 := Lib.hid O13
          clear O13 hb13
          go_wp2_with fail
          try rw [zWL0] at hD0
          try rw [zWL1] at hD1
          refine ret_mark2 (D := wr.heap.size + 3) (E := V0.heap.size + 3) (v := .bool true) (((KeepsOthers.refl _).trans (KeepsOthers.setCell _ _ _)).same _ _ hD0 rfl) (((KeepsOthers.refl _).trans (KeepsOthers.setCell _ _ _)).same _ _ hD1 rfl) (by omega) ?_ ?_
          · have c6 : ((((w13).setCell ⟨w.heap.size + 1 + 1, 0, none⟩ (.bool true)).putObj (V0.heap.size + 3) (.deferred none)).putObj (wr.heap.size + 3) (.deferred none)).cell? ⟨w.heap.size + 1 + 1, 0, none⟩ = some (.bool true) := (((Own.get (Own.set HO13.out 8 rfl (Ne1.cons (by first | omega | (simp; omega)) (Ne1.cons (by first | omega | (simp; omega)) (Ne1.cons (by first | omega | (simp; omega)) (Ne1.cons (by first | omega | (simp; omega)) (Ne1.cons (by first | omega | (simp; omega)) (Ne1.cons (by first | omega | (simp; omega)) (Ne1.cons (by first | omega | (simp; omega)) (Ne1.cons (by first | omega | (simp; omega)) (Ne1.cons (by first | omega | (simp; omega)) (Ne1.cons (by first | omega | (simp; omega)) Ne1.nil))))))))))) 8 rfl).put (D := V0.heap.size + 3) (.deferred none) (by omega)).put (D := wr.heap.size + 3) (.deferred none) (by omega)).cell 0
            simp [results, Try.results6, go_sem, c6]
          · exact ⟨rfl, Below.put (Below.put (by go_grown) _ (by omega)) _ (by omega)⟩

theorem talike_any (A : Option Addr) (xs : List (Int × Int)) (cap : Nat) (B : Option Addr) (ys : List (Int × Int)) (capb : Nat) (x0 x1 x2 x3 x4 x5 x6 x7 x8 x9 : Int) (w : World) (hS : SlAt w A (cellsC xs)) (hcap : xs.length ≤ cap) (hnil : A = none → xs = [] ∧ cap = 0) (hT : SlAt w B (cellsC ys)) (hcapb : ys.length ≤ capb) (hl : ∀ x ∈ xs, U x.2) (hu : U x4) :
    Calls Try.prog 6 #[.slice A xs.length cap, .slice B ys.length capb, .agg #[.int .u64 x0, .int .u64 x1, .int .u64 x2, .int .u64 x3, .int .u64 x4, .int .u64 x5, .int .u64 x6, .int .u64 x7, .int .u64 x8, .int .u64 x9]] w fun e w' => e = .returned (.bool true) ∧ Below w.heap.size w w' := by
  by_cases hn : 200 < xs.length
  · exact talike_s1 _ _ _ _ _ _ _ _ _ _ _ _ _ _ _ _ _ hn
  by_cases hm : 200 < ys.length
  · exact talike_s2 _ _ _ _ _ _ _ _ _ _ _ _ _ _ _ _ _ (by omega) hm
  exact talike_g A xs cap B ys capb x0 x1 x2 x3 x4 x5 x6 x7 x8 x9 w hS hcap (by omega) hnil hT hcapb (by omega) hl hu
end Go.Proofs.Ytknkepokkenokaa
