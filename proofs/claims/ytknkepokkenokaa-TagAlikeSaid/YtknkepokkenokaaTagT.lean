/- The law TagHolds: its walks. -/
import Derived.Test.YtknkepokkenokaaTagS
set_option linter.unusedVariables false
set_option linter.unusedSimpArgs false
namespace Go.Proofs.Ytknkepokkenokaa
open Go.RowKit


set_option maxHeartbeats 16000000 in
set_option maxRecDepth 100000 in
theorem tholds_s0 (A : Option Addr) (n cap : Nat) (B : Option Addr) (m capb : Nat) (x0 x1 x2 x3 x4 : Int) (w : World)  (h0 : 100 < n) :
    Calls Try.prog 5 #[.slice A n cap, .slice B m capb, .agg #[.int .i64 x0, .int .i64 x1, .int .i64 x2, .int .i64 x3, .int .i64 x4]] w
      fun e w' => e = .returned (.bool true) ∧ Below w.heap.size w w' := by
  have d0 : decide ((100 : Int) < n) = true := by simp <;> omega
  go_enter Try.func5, Try.ntmps5
  go_wp2_with fail
  refine (works_any _).mono ?_
  rintro e w1 ⟨rfl, hb1⟩
  have O1 := Own.grow' hb1 (Own.new (Own.nil w) (w.heap.size) rfl)
  try simp only [List.setIfInBounds_toArray, List.set_cons_zero, List.set_cons_succ] at O1
  have bw1 : Below w.heap.size w w1 := Below.trans (by go_grown) (Below.mono hb1 (by first | omega | (simp; done) | (simp; omega)))
  have zw1 := Below.size hb1
  try simp only [World.size_alloc, World.size_drew, World.size_setCell] at zw1
  have c1x0 := Own.cell O1 0 rfl
  have f1x0 := Own.free O1 0 rfl
  have l1x0 := Own.lt O1 0 rfl
  have l1x0d0 := le_up 0 l1x0
  have l1x0d1 := le_up 1 l1x0
  simp only [upN] at l1x0d0 l1x0d1
  have HO1 := Lib.hid O1
  clear O1 hb1
  go_wp2_with fail
  go_ret
  exact ⟨rfl, by go_grown⟩

set_option maxHeartbeats 16000000 in
set_option maxRecDepth 100000 in
theorem tholds_s1 (A : Option Addr) (n cap : Nat) (B : Option Addr) (m capb : Nat) (x0 x1 x2 x3 x4 : Int) (w : World) (h0 : n ≤ 100) (h1 : 100 < m) :
    Calls Try.prog 5 #[.slice A n cap, .slice B m capb, .agg #[.int .i64 x0, .int .i64 x1, .int .i64 x2, .int .i64 x3, .int .i64 x4]] w
      fun e w' => e = .returned (.bool true) ∧ Below w.heap.size w w' := by
  have d0 : decide ((100 : Int) < n) = false := by simp <;> omega
  have d1 : decide ((100 : Int) < m) = true := by simp <;> omega
  go_enter Try.func5, Try.ntmps5
  go_wp2_with fail
  refine (works_any _).mono ?_
  rintro e w1 ⟨rfl, hb1⟩
  have O1 := Own.grow' hb1 (Own.new (Own.nil w) (w.heap.size) rfl)
  try simp only [List.setIfInBounds_toArray, List.set_cons_zero, List.set_cons_succ] at O1
  have bw1 : Below w.heap.size w w1 := Below.trans (by go_grown) (Below.mono hb1 (by first | omega | (simp; done) | (simp; omega)))
  have zw1 := Below.size hb1
  try simp only [World.size_alloc, World.size_drew, World.size_setCell] at zw1
  have c1x0 := Own.cell O1 0 rfl
  have f1x0 := Own.free O1 0 rfl
  have l1x0 := Own.lt O1 0 rfl
  have l1x0d0 := le_up 0 l1x0
  have l1x0d1 := le_up 1 l1x0
  simp only [upN] at l1x0d0 l1x0d1
  have HO1 := Lib.hid O1
  clear O1 hb1
  go_wp2_with fail
  go_ret
  exact ⟨rfl, by go_grown⟩

set_option maxHeartbeats 16000000 in
set_option maxRecDepth 100000 in
theorem tholds_s2 (A : Option Addr) (n cap : Nat) (B : Option Addr) (m capb : Nat) (x0 x1 x2 x3 x4 : Int) (w : World) (h0 : n ≤ 100) (h1 : m ≤ 100) (h2 : x3 < 0) :
    Calls Try.prog 5 #[.slice A n cap, .slice B m capb, .agg #[.int .i64 x0, .int .i64 x1, .int .i64 x2, .int .i64 x3, .int .i64 x4]] w
      fun e w' => e = .returned (.bool true) ∧ Below w.heap.size w w' := by
  have d0 : decide ((100 : Int) < n) = false := by simp <;> omega
  have d1 : decide ((100 : Int) < m) = false := by simp <;> omega
  have d2 : decide (x3 < 0) = true := by simp <;> omega
  go_enter Try.func5, Try.ntmps5
  go_wp2_with fail
  refine (works_any _).mono ?_
  rintro e w1 ⟨rfl, hb1⟩
  have O1 := Own.grow' hb1 (Own.new (Own.nil w) (w.heap.size) rfl)
  try simp only [List.setIfInBounds_toArray, List.set_cons_zero, List.set_cons_succ] at O1
  have bw1 : Below w.heap.size w w1 := Below.trans (by go_grown) (Below.mono hb1 (by first | omega | (simp; done) | (simp; omega)))
  have zw1 := Below.size hb1
  try simp only [World.size_alloc, World.size_drew, World.size_setCell] at zw1
  have c1x0 := Own.cell O1 0 rfl
  have f1x0 := Own.free O1 0 rfl
  have l1x0 := Own.lt O1 0 rfl
  have l1x0d0 := le_up 0 l1x0
  have l1x0d1 := le_up 1 l1x0
  simp only [upN] at l1x0d0 l1x0d1
  have HO1 := Lib.hid O1
  clear O1 hb1
  go_wp2_with fail
  go_ret
  exact ⟨rfl, by go_grown⟩

set_option maxHeartbeats 16000000 in
set_option maxRecDepth 100000 in
theorem tholds_s3 (A : Option Addr) (n cap : Nat) (B : Option Addr) (m capb : Nat) (x0 x1 x2 x3 x4 : Int) (w : World) (h0 : n ≤ 100) (h1 : m ≤ 100) (h2 : 0 ≤ x3) (h3 : 100 < x3) :
    Calls Try.prog 5 #[.slice A n cap, .slice B m capb, .agg #[.int .i64 x0, .int .i64 x1, .int .i64 x2, .int .i64 x3, .int .i64 x4]] w
      fun e w' => e = .returned (.bool true) ∧ Below w.heap.size w w' := by
  have d0 : decide ((100 : Int) < n) = false := by simp <;> omega
  have d1 : decide ((100 : Int) < m) = false := by simp <;> omega
  have d2 : decide (x3 < 0) = false := by simp <;> omega
  have d3 : decide (100 < x3) = true := by simp <;> omega
  go_enter Try.func5, Try.ntmps5
  go_wp2_with fail
  refine (works_any _).mono ?_
  rintro e w1 ⟨rfl, hb1⟩
  have O1 := Own.grow' hb1 (Own.new (Own.nil w) (w.heap.size) rfl)
  try simp only [List.setIfInBounds_toArray, List.set_cons_zero, List.set_cons_succ] at O1
  have bw1 : Below w.heap.size w w1 := Below.trans (by go_grown) (Below.mono hb1 (by first | omega | (simp; done) | (simp; omega)))
  have zw1 := Below.size hb1
  try simp only [World.size_alloc, World.size_drew, World.size_setCell] at zw1
  have c1x0 := Own.cell O1 0 rfl
  have f1x0 := Own.free O1 0 rfl
  have l1x0 := Own.lt O1 0 rfl
  have l1x0d0 := le_up 0 l1x0
  have l1x0d1 := le_up 1 l1x0
  simp only [upN] at l1x0d0 l1x0d1
  have HO1 := Lib.hid O1
  clear O1 hb1
  go_wp2_with fail
  go_ret
  exact ⟨rfl, by go_grown⟩

set_option maxHeartbeats 16000000 in
set_option maxRecDepth 100000 in
theorem tholds_s4 (A : Option Addr) (n cap : Nat) (B : Option Addr) (m capb : Nat) (x0 x1 x2 x3 x4 : Int) (w : World) (h0 : n ≤ 100) (h1 : m ≤ 100) (h2 : 0 ≤ x3) (h3 : x3 ≤ 100) (h4 : x4 < 0) :
    Calls Try.prog 5 #[.slice A n cap, .slice B m capb, .agg #[.int .i64 x0, .int .i64 x1, .int .i64 x2, .int .i64 x3, .int .i64 x4]] w
      fun e w' => e = .returned (.bool true) ∧ Below w.heap.size w w' := by
  have d0 : decide ((100 : Int) < n) = false := by simp <;> omega
  have d1 : decide ((100 : Int) < m) = false := by simp <;> omega
  have d2 : decide (x3 < 0) = false := by simp <;> omega
  have d3 : decide (100 < x3) = false := by simp <;> omega
  have d4 : decide (x4 < 0) = true := by simp <;> omega
  go_enter Try.func5, Try.ntmps5
  go_wp2_with fail
  refine (works_any _).mono ?_
  rintro e w1 ⟨rfl, hb1⟩
  have O1 := Own.grow' hb1 (Own.new (Own.nil w) (w.heap.size) rfl)
  try simp only [List.setIfInBounds_toArray, List.set_cons_zero, List.set_cons_succ] at O1
  have bw1 : Below w.heap.size w w1 := Below.trans (by go_grown) (Below.mono hb1 (by first | omega | (simp; done) | (simp; omega)))
  have zw1 := Below.size hb1
  try simp only [World.size_alloc, World.size_drew, World.size_setCell] at zw1
  have c1x0 := Own.cell O1 0 rfl
  have f1x0 := Own.free O1 0 rfl
  have l1x0 := Own.lt O1 0 rfl
  have l1x0d0 := le_up 0 l1x0
  have l1x0d1 := le_up 1 l1x0
  simp only [upN] at l1x0d0 l1x0d1
  have HO1 := Lib.hid O1
  clear O1 hb1
  go_wp2_with fail
  go_ret
  exact ⟨rfl, by go_grown⟩

set_option maxHeartbeats 16000000 in
set_option maxRecDepth 100000 in
theorem tholds_s5 (A : Option Addr) (n cap : Nat) (B : Option Addr) (m capb : Nat) (x0 x1 x2 x3 x4 : Int) (w : World) (h0 : n ≤ 100) (h1 : m ≤ 100) (h2 : 0 ≤ x3) (h3 : x3 ≤ 100) (h4 : 0 ≤ x4) (h5 : 100 < x4) :
    Calls Try.prog 5 #[.slice A n cap, .slice B m capb, .agg #[.int .i64 x0, .int .i64 x1, .int .i64 x2, .int .i64 x3, .int .i64 x4]] w
      fun e w' => e = .returned (.bool true) ∧ Below w.heap.size w w' := by
  have d0 : decide ((100 : Int) < n) = false := by simp <;> omega
  have d1 : decide ((100 : Int) < m) = false := by simp <;> omega
  have d2 : decide (x3 < 0) = false := by simp <;> omega
  have d3 : decide (100 < x3) = false := by simp <;> omega
  have d4 : decide (x4 < 0) = false := by simp <;> omega
  have d5 : decide (100 < x4) = true := by simp <;> omega
  go_enter Try.func5, Try.ntmps5
  go_wp2_with fail
  refine (works_any _).mono ?_
  rintro e w1 ⟨rfl, hb1⟩
  have O1 := Own.grow' hb1 (Own.new (Own.nil w) (w.heap.size) rfl)
  try simp only [List.setIfInBounds_toArray, List.set_cons_zero, List.set_cons_succ] at O1
  have bw1 : Below w.heap.size w w1 := Below.trans (by go_grown) (Below.mono hb1 (by first | omega | (simp; done) | (simp; omega)))
  have zw1 := Below.size hb1
  try simp only [World.size_alloc, World.size_drew, World.size_setCell] at zw1
  have c1x0 := Own.cell O1 0 rfl
  have f1x0 := Own.free O1 0 rfl
  have l1x0 := Own.lt O1 0 rfl
  have l1x0d0 := le_up 0 l1x0
  have l1x0d1 := le_up 1 l1x0
  simp only [upN] at l1x0d0 l1x0d1
  have HO1 := Lib.hid O1
  clear O1 hb1
  go_wp2_with fail
  go_ret
  exact ⟨rfl, by go_grown⟩

set_option maxHeartbeats 16000000 in
set_option maxRecDepth 100000 in
theorem tholds_no (A : Option Addr) (xs : List (Int × Int)) (cap : Nat) (B : Option Addr) (ys : List (Int × Int)) (capb : Nat) (x0 x1 x2 : Int) (x3 x4 : Nat) (w : World) (hS : SlAt w A (cellsC xs)) (hcap : xs.length ≤ cap) (hn : xs.length ≤ 100) (hT : SlAt w B (cellsC ys)) (hcapb : ys.length ≤ capb) (hm : ys.length ≤ 100) (h3 : x3 ≤ 100) (h4 : x4 ≤ 100) (hno : alikeL belowI (IntKind.u64.wrap x0) xs ys = false) :
    Calls Try.prog 5 #[.slice A xs.length cap, .slice B ys.length capb, .agg #[.int .i64 x0, .int .i64 x1, .int .i64 x2, .int .i64 (x3 : Nat), .int .i64 (x4 : Nat)]] w
      fun e w' => e = .returned (.bool true) ∧ Below w.heap.size w w' := by
  have HAL := Lib.hid hno
  have hA := fun (W : World) (hW : SlAt W A (cellsC xs)) (hW2 : SlAt W B (cellsC ys)) => alikes_any A B xs ys cap capb (IntKind.u64.wrap x0) W hW hW2 hcap hcapb (by omega) (by omega)
  rw [hno] at hA
  have HA := Lib.hid hA
  clear hA hno
  generalize xs.length = n at *
  generalize ys.length = m at *
  have d0 : decide ((100 : Int) < n) = false := by simp <;> omega
  have d1 : decide ((100 : Int) < m) = false := by simp <;> omega
  have d2 : decide ((x3 : Int) < 0) = false := by simp <;> omega
  have d3 : decide ((100 : Int) < x3) = false := by simp <;> omega
  have d4 : decide ((x4 : Int) < 0) = false := by simp <;> omega
  have d5 : decide ((100 : Int) < x4) = false := by simp <;> omega
  go_enter Try.func5, Try.ntmps5
  go_wp2_with fail
  refine wp_region_grow w.heap.size 15 0 0 [(0, 0, 35184372088832, 32), (1, 1, 70368744177664, 35184372088832), (2, 2, 140737488355328, 70368744177664), (3, 0, 281474976710656, 32), (4, 8, 562949953421312, 281474976710656), (5, 0, 1125899906842624, 32), (6, 32, 2251799813685248, 1125899906842624), (7, 80, 4503599627370496, 2814749767106560), (8, 128, 9007199254740992, 4503599627370496), (9, 0, 18014398509481984, 32), (10, 512, 36028797018963968, 18014398509481984), (11, 1024, 72057594037927936, 36028797018963968), (12, 7, 128, 140737488355328), (13, 4607, 256, 9007199254740992), (14, 16383, 512, 72057594037927936)] [(.p 0, 1), (.p 1, 3), (.p 2, 7), (.p 3, 15), (.p 4, 31), (.p 5, 63), (.p 6, 127), (.p 7, 255), (.p 8, 511), (.p 9, 1023), (.p 10, 2047), (.p 11, 4095), (.p 12, 8191), (.p 13, 16383), (.p 14, 32767)] [] _ (fun p hp => hp) (by first | omega | (simp; done) | (simp; omega)) (by kernel_rfl) (by kernel_rfl) (Own.new (Own.nil w) (w.heap.size) rfl) ?_
  refine wpG_pure (i := 0) (v := ?v1x0) rfl rfl (by rfl) (fun w hB hG K hK => ?h1x0) ?_
  case h1x0 =>
    go_wp2_with fail
    exact hK _ (Below.refl _ _)
  simp only [List.set_cons_zero, List.set_cons_succ]
  refine wpG_pure (i := 1) (v := ?v1x1) rfl rfl (by rfl) (fun w hB hG K hK => ?h1x1) ?_
  case h1x1 =>
    have cx := Own.cell hG 0 rfl
    go_wp2_with fail
    exact hK _ (Below.refl _ _)
  simp only [List.set_cons_zero, List.set_cons_succ]
  refine wpG_pure (i := 2) (v := ?v1x2) rfl rfl (by rfl) (fun w hB hG K hK => ?h1x2) ?_
  case h1x2 =>
    go_wp2_with fail
    exact hK _ (Below.refl _ _)
  simp only [List.set_cons_zero, List.set_cons_succ]
  refine wpG_pure (i := 3) (v := ?v1x3) rfl rfl (by rfl) (fun w hB hG K hK => ?h1x3) ?_
  case h1x3 =>
    go_wp2_with fail
    exact hK _ (Below.refl _ _)
  simp only [List.set_cons_zero, List.set_cons_succ]
  refine wpG_pure (i := 4) (v := ?v1x4) rfl rfl (by rfl) (fun w hB hG K hK => ?h1x4) ?_
  case h1x4 =>
    have cx := Own.cell hG 0 rfl
    go_wp2_with fail
    exact hK _ (Below.refl _ _)
  simp only [List.set_cons_zero, List.set_cons_succ]
  refine wpG_pure (i := 5) (v := ?v1x5) rfl rfl (by rfl) (fun w hB hG K hK => ?h1x5) ?_
  case h1x5 =>
    go_wp2_with fail
    exact hK _ (Below.refl _ _)
  simp only [List.set_cons_zero, List.set_cons_succ]
  refine wpG_pure (i := 6) (v := ?v1x6) rfl rfl (by rfl) (fun w hB hG K hK => ?h1x6) ?_
  case h1x6 =>
    have cx := Own.cell hG 0 rfl
    go_wp2_with fail
    exact hK _ (Below.refl _ _)
  simp only [List.set_cons_zero, List.set_cons_succ]
  refine wpG_pure (i := 7) (v := ?v1x7) rfl rfl (by rfl) (fun w hB hG K hK => ?h1x7) ?_
  case h1x7 =>
    go_wp2_with fail
    exact hK _ (Below.refl _ _)
  simp only [List.set_cons_zero, List.set_cons_succ]
  refine wpG_pure (i := 8) (v := ?v1x8) rfl rfl (by rfl) (fun w hB hG K hK => ?h1x8) ?_
  case h1x8 =>
    go_wp2_with fail
    exact hK _ (Below.refl _ _)
  simp only [List.set_cons_zero, List.set_cons_succ]
  refine wpG_pure (i := 9) (v := ?v1x9) rfl rfl (by rfl) (fun w hB hG K hK => ?h1x9) ?_
  case h1x9 =>
    go_wp2_with fail
    exact hK _ (Below.refl _ _)
  simp only [List.set_cons_zero, List.set_cons_succ]
  refine wpG_pure (i := 10) (v := ?v1x10) rfl rfl (by rfl) (fun w hB hG K hK => ?h1x10) ?_
  case h1x10 =>
    have cx := Own.cell hG 0 rfl
    go_wp2_with fail
    exact hK _ (Below.refl _ _)
  simp only [List.set_cons_zero, List.set_cons_succ]
  refine wpG_pure (i := 11) (v := ?v1x11) rfl rfl (by rfl) (fun w hB hG K hK => ?h1x11) ?_
  case h1x11 =>
    go_wp2_with fail
    exact hK _ (Below.refl _ _)
  simp only [List.set_cons_zero, List.set_cons_succ]
  refine wpG_assign (i := 12) rfl rfl rfl (by rfl) rfl ?_
  simp only [List.set_cons_zero, List.set_cons_succ]
  refine wpG_assign (i := 13) rfl rfl rfl (by rfl) rfl ?_
  simp only [List.set_cons_zero, List.set_cons_succ]
  refine wpG_assign (i := 14) rfl rfl rfl (by rfl) rfl ?_
  simp only [List.set_cons_zero, List.set_cons_succ]
  refine wpG_nil (fun w1 hb1 hG1 => ?_)
  simp only [List.append_eq, List.cons_append, List.nil_append, List.drop_succ_cons, List.drop_zero, List.drop_nil]
  have O1 := Own.of hG1
  try simp only [List.setIfInBounds_toArray, List.set_cons_zero, List.set_cons_succ] at O1
  have bw1 : Below w.heap.size w w1 := Below.trans (by go_grown) (Below.mono hb1 (by first | omega | (simp; done) | (simp; omega)))
  have zw1 := Below.size hb1
  try simp only [World.size_alloc, World.size_drew, World.size_setCell] at zw1
  have pw1 : Below w.heap.size w w1 := Below.trans (by go_grown) (Below.mono hb1 (by first | omega | (simp; done) | (simp; omega)))
  replace hS := SlAt.grow hS pw1
  replace hT := SlAt.grow hT pw1
  clear pw1
  have c1x0 := Own.cell O1 0 rfl
  have f1x0 := Own.free O1 0 rfl
  have l1x0 := Own.lt O1 0 rfl
  have l1x0d0 := le_up 0 l1x0
  have l1x0d1 := le_up 1 l1x0
  simp only [upN] at l1x0d0 l1x0d1
  have HO1 := Lib.hid O1
  clear O1 hb1
  go_wp2_with fail
  refine (HA.out _ hS hT).mono ?_
  rintro e w2 ⟨rfl, hb2⟩
  have O2 := Own.grow' hb2 HO1.out
  try simp only [List.setIfInBounds_toArray, List.set_cons_zero, List.set_cons_succ] at O2
  have bw2 : Below w.heap.size w w2 := Below.trans (by go_grown) (Below.mono hb2 (by first | omega | (simp; done) | (simp; omega)))
  have zw2 := Below.size hb2
  try simp only [World.size_alloc, World.size_drew, World.size_setCell] at zw2
  have pw2 : Below w1.heap.size w1 w2 := Below.trans (by go_grown) (Below.mono hb2 (by first | omega | (simp; done) | (simp; omega)))
  replace hS := SlAt.grow hS pw2
  replace hT := SlAt.grow hT pw2
  clear pw2
  clear c1x0 f1x0 l1x0 l1x0d0 l1x0d1
  have c2x0 := Own.cell O2 0 rfl
  have f2x0 := Own.free O2 0 rfl
  have l2x0 := Own.lt O2 0 rfl
  have l2x0d0 := le_up 0 l2x0
  have l2x0d1 := le_up 1 l2x0
  simp only [upN] at l2x0d0 l2x0d1
  have HO2 := Lib.hid O2
  clear O2 hb2
  go_wp2_with fail
  refine (works_any _).mono ?_
  rintro e w3 ⟨rfl, hb3⟩
  have O3 := Own.grow' hb3 HO2.out
  try simp only [List.setIfInBounds_toArray, List.set_cons_zero, List.set_cons_succ] at O3
  have bw3 : Below w.heap.size w w3 := Below.trans (by go_grown) (Below.mono hb3 (by first | omega | (simp; done) | (simp; omega)))
  have zw3 := Below.size hb3
  try simp only [World.size_alloc, World.size_drew, World.size_setCell] at zw3
  have pw3 : Below w2.heap.size w2 w3 := Below.trans (by go_grown) (Below.mono hb3 (by first | omega | (simp; done) | (simp; omega)))
  replace hS := SlAt.grow hS pw3
  replace hT := SlAt.grow hT pw3
  clear pw3
  clear c2x0 f2x0 l2x0 l2x0d0 l2x0d1
  have c3x0 := Own.cell O3 0 rfl
  have f3x0 := Own.free O3 0 rfl
  have l3x0 := Own.lt O3 0 rfl
  have l3x0d0 := le_up 0 l3x0
  have l3x0d1 := le_up 1 l3x0
  simp only [upN] at l3x0d0 l3x0d1
  have HO3 := Lib.hid O3
  clear O3 hb3
  go_wp2_with fail
  go_ret
  exact ⟨rfl, by go_grown⟩

theorem wrap_U (x : Int) : U (IntKind.u64.wrap x) := by rw [IntKind.wrap_u64]; unfold U; omega
theorem AlikeP.less {x0 : Int} {xs ys : List (Int × Int)} (h : AlikeP (IntKind.u64.wrap x0) xs ys) (hx : ∀ c ∈ xs, U c.2) (x1 : Int) : AlikeP (IntKind.u64.wrap (bits .and .i64 x0 x1)) xs ys :=
  ⟨h.1, fun j x y hjx hjy => ⟨(h.2 j x y hjx hjy).1, fun hb => (h.2 j x y hjx hjy).2 (below_less (hx x (List.mem_of_getElem? hjx)) hb)⟩⟩
theorem alike_yes (A A' : Option Addr) (xs ys : List (Int × Int)) (n m cap cap' : Nat) (up : Int) (w : World) (hxs : SlAt w A (cellsC xs)) (hys : SlAt w A' (cellsC ys)) (hln : xs.length = n) (hlm : ys.length = m) (hcap : n ≤ cap) (hcap' : m ≤ cap') (hn : n ≤ 100000) (hn' : m ≤ 100000) (h : alikeL belowI up xs ys = true) :
    Calls Try.prog 24 #[.slice A n cap, .slice A' m cap', .int .u64 up] w fun e w' => e = .returned (.bool true) ∧ Below w.heap.size w w' := by
  subst hln; subst hlm
  have := alikes_any A A' xs ys cap cap' up w hxs hys hcap hcap' hn hn'
  rwa [h] at this
theorem same_yes (w : World) (xs ys : List (Int × Int)) (up : Int) (h : wordL xs = wordL ys ∧ (belowI (wordL xs) up = true → wordX xs = wordX ys)) :
    Calls Try.prog 25 #[.agg #[.int .u64 (wordX xs 0), .int .u64 (wordX xs 1), .int .u64 (wordX xs 2), .int .u64 (wordX xs 3), .int .u64 (wordL xs)], .agg #[.int .u64 (wordX ys 0), .int .u64 (wordX ys 1), .int .u64 (wordX ys 2), .int .u64 (wordX ys 3), .int .u64 (wordL ys)], .int .u64 up] w
      fun e w' => e = .returned (.bool true) ∧ Below w.heap.size w w' := by
  have := same_any ⟨wordX xs 0, wordX xs 1, wordX xs 2, wordX xs 3, wordL xs⟩ ⟨wordX ys 0, wordX ys 1, wordX ys 2, wordX ys 3, wordL ys⟩ up w
  have e := same_words (X := wordX xs) (Y := wordX ys) (l := wordL xs) (up := up) h.2
  rw [← h.1, e] at this
  rw [← h.1]
  exact this
theorem cells_any' (xs : List (Int × Int)) (w : World) (hx : ∀ c ∈ xs, 0 ≤ c.1 ∧ c.1 < 256) :
    Calls Try.prog 20 #[.agg #[.int .u64 (wordX xs 0), .int .u64 (wordX xs 1), .int .u64 (wordX xs 2), .int .u64 (wordX xs 3), .int .u64 (wordL xs)]] w (Gives w (cellsC (wcells (wordX xs) (wordL xs))) 32) :=
  cells_any (wordX xs) (wordL xs) w (wordX_lt hx)
theorem cells_alike {xs ys : List (Int × Int)} {up : Int} (h : wordL xs = wordL ys ∧ (belowI (wordL xs) up = true → wordX xs = wordX ys)) : AlikeP up (wcells (wordX xs) (wordL xs)) (wcells (wordX ys) (wordL ys)) := by
  rw [← h.1]; exact alike_wcells h.2
theorem word_back (A : Option Addr) (xs : List (Int × Int)) (c : Nat) (w : World) (hs : SlAt w A (cellsC (wcells (wordX xs) (wordL xs)))) (hc : 32 ≤ c) (hx : ∀ c ∈ xs, 0 ≤ c.1 ∧ c.1 < 256) :
    Calls Try.prog 22 #[.slice A 32 c] w fun e w' => e = .returned (.agg #[.int .u64 (wordX xs 0), .int .u64 (wordX xs 1), .int .u64 (wordX xs 2), .int .u64 (wordX xs 3), .int .u64 (wordL xs)]) ∧ Below w.heap.size w w' := by
  have h := word_any A (wcells (wordX xs) (wordL xs)) c w hs (by rw [wcells_len]; exact hc) (by rw [wcells_len]; omega) (fun q hq => by
    obtain ⟨b, hb, rfl⟩ := List.mem_map.1 hq
    obtain ⟨k, _, rfl⟩ := List.mem_map.1 hb
    have : byteAt (wordX xs) (31 - k) < 256 := Nat.mod_lt _ (by decide)
    exact ⟨by simp, by simp; omega⟩)
  rw [wcells_len] at h
  have e := fun q hq => word_cells (x := wordX xs) (l := wordL xs) (wordX_lt hx) (wordL_U xs) q hq
  refine h.mono fun e' w' ⟨he, hb⟩ => ⟨he.trans ?_, hb⟩
  unfold valV
  rw [(e 0 (by omega)).1, (e 1 (by omega)).1, (e 2 (by omega)).1, (e 3 (by omega)).1, (e 0 (by omega)).2]

set_option maxHeartbeats 16000000 in
set_option maxRecDepth 100000 in
theorem tholds_g (A : Option Addr) (xs : List (Int × Int)) (cap : Nat) (B : Option Addr) (ys : List (Int × Int)) (capb : Nat) (x0 x1 x2 : Int) (x3 x4 : Nat) (w : World) (hS : SlAt w A (cellsC xs)) (hcap : xs.length ≤ cap) (hn : xs.length ≤ 100) (hT : SlAt w B (cellsC ys)) (hcapb : ys.length ≤ capb) (hm : ys.length ≤ 100) (h3 : x3 ≤ 100) (h4 : x4 ≤ 100) (hx0 : ∀ c ∈ xs, 0 ≤ c.1 ∧ c.1 < 256) (hy0 : ∀ c ∈ ys, 0 ≤ c.1 ∧ c.1 < 256) (hx1 : ∀ c ∈ xs, U c.2) (hyes : alikeL belowI (IntKind.u64.wrap x0) xs ys = true) :
    Calls Try.prog 5 #[.slice A xs.length cap, .slice B ys.length capb, .agg #[.int .i64 x0, .int .i64 x1, .int .i64 x2, .int .i64 (x3 : Nat), .int .i64 (x4 : Nat)]] w
      fun e w' => e = .returned (.bool true) ∧ Below w.heap.size w w' := by
  have hal := of_alike hyes
  have hal2 := hal.less hx1
  have hw := hal.word (wrap_U x0) hx1
  have hlen := hal.1
  have HA := Lib.hid (fun (W : World) (hW : SlAt W A (cellsC xs)) (hW2 : SlAt W B (cellsC ys)) => alike_yes A B xs ys xs.length ys.length cap capb (IntKind.u64.wrap x0) W hW hW2 rfl rfl hcap hcapb (by omega) (by omega) hyes)
  have HAl := Lib.hid (fun (W : World) (hW : SlAt W A (cellsC xs)) (hW2 : SlAt W B (cellsC ys)) => alike_yes A B xs ys xs.length ys.length cap capb (IntKind.u64.wrap (bits .and .i64 x0 x1)) W hW hW2 rfl rfl hcap hcapb (by omega) (by omega) (alike_of (hal2 x1)))
  have HP := Lib.hid (fun (W : World) (hW : SlAt W A (cellsC xs)) => part_any A xs cap x3 x4 W hW hcap (by omega) (by omega))
  have HQ := Lib.hid (fun (W : World) (hW : SlAt W B (cellsC ys)) => part_any B ys capb x3 x4 W hW hcapb (by omega) (by omega))
  have HV := Lib.hid (fun (W : World) (hW : SlAt W A (cellsC xs)) => show Calls Try.prog 22 #[.slice A xs.length cap] W (fun e w' => e = .returned (.agg #[.int .u64 (wordX xs 0), .int .u64 (wordX xs 1), .int .u64 (wordX xs 2), .int .u64 (wordX xs 3), .int .u64 (wordL xs)]) ∧ Below W.heap.size W w') from word_any A xs cap W hW hcap (by omega) hx0)
  have HW := Lib.hid (fun (W : World) (hW : SlAt W B (cellsC ys)) => show Calls Try.prog 22 #[.slice B ys.length capb] W (fun e w' => e = .returned (.agg #[.int .u64 (wordX ys 0), .int .u64 (wordX ys 1), .int .u64 (wordX ys 2), .int .u64 (wordX ys 3), .int .u64 (wordL ys)]) ∧ Below W.heap.size W w') from word_any B ys capb W hW hcapb (by omega) hy0)
  have HAp := Lib.hid (fun (A' B' : Option Addr) (ca cb : Nat) (W : World) (hW : SlAt W A' (cellsC (partL xs x3 x4))) (hW2 : SlAt W B' (cellsC (partL ys x3 x4))) (hca : x4 ≤ ca) (hcb : x4 ≤ cb) => alike_yes A' B' (partL xs x3 x4) (partL ys x3 x4) x4 x4 ca cb (IntKind.u64.wrap x0) W hW hW2 (partL_len _ _ _) (partL_len _ _ _) hca hcb (by omega) (by omega) (alike_of (hal.part x3 x4)))
  have HJx := Lib.hid (fun (W : World) (hW : SlAt W A (cellsC xs)) => joins_any A xs cap (IntKind.u64.wrap x2) W hW hcap (by omega))
  have HJy := Lib.hid (fun (W : World) (hW : SlAt W B (cellsC ys)) => joins_any B ys capb (IntKind.u64.wrap x2) W hW hcapb (by omega))
  have HAj := Lib.hid (fun (A' B' : Option Addr) (ca cb : Nat) (W : World) (hW : SlAt W A' (cellsC (xs.map fun c => (c.1, orI (orI 0 c.2) (IntKind.u64.wrap x2))))) (hW2 : SlAt W B' (cellsC (ys.map fun c => (c.1, orI (orI 0 c.2) (IntKind.u64.wrap x2))))) (hca : xs.length ≤ ca) (hcb : ys.length ≤ cb) => alike_yes A' B' (xs.map fun c => (c.1, orI (orI 0 c.2) (IntKind.u64.wrap x2))) (ys.map fun c => (c.1, orI (orI 0 c.2) (IntKind.u64.wrap x2))) xs.length ys.length ca cb (IntKind.u64.wrap x0) W hW hW2 (by simp) (by simp) hca hcb (by omega) (by omega) (alike_of (hal.join (wrap_U x0) (wrap_U x2) hx1)))
  have HSa := Lib.hid (fun (W : World) => same_yes W xs ys (IntKind.u64.wrap x0) hw)
  have HCx := Lib.hid (fun (W : World) => cells_any' xs W hx0)
  have HCy := Lib.hid (fun (W : World) => cells_any' ys W hy0)
  have HAc := Lib.hid (fun (A' B' : Option Addr) (ca cb : Nat) (W : World) (hW : SlAt W A' (cellsC (wcells (wordX xs) (wordL xs)))) (hW2 : SlAt W B' (cellsC (wcells (wordX ys) (wordL ys)))) (hca : 32 ≤ ca) (hcb : 32 ≤ cb) => alike_yes A' B' (wcells (wordX xs) (wordL xs)) (wcells (wordX ys) (wordL ys)) 32 32 ca cb (IntKind.u64.wrap x0) W hW hW2 (wcells_len _ _) (wcells_len _ _) hca hcb (by omega) (by omega) (alike_of (cells_alike hw)))
  have HWc := Lib.hid (fun (A' : Option Addr) (ca : Nat) (W : World) (hW : SlAt W A' (cellsC (wcells (wordX xs) (wordL xs)))) (hca : 32 ≤ ca) => word_back A' xs ca W hW hca hx0)
  clear hal hal2 hw hyes hx0 hy0 hx1 hlen
  generalize xs.length = n at *
  generalize ys.length = m at *
  generalize (wordX xs 0 : Int) = e0 at *
  generalize (wordX xs 1 : Int) = e1 at *
  generalize (wordX xs 2 : Int) = e2 at *
  generalize (wordX xs 3 : Int) = e3 at *
  generalize (wordX ys 0 : Int) = f0 at *
  generalize (wordX ys 1 : Int) = f1 at *
  generalize (wordX ys 2 : Int) = f2 at *
  generalize (wordX ys 3 : Int) = f3 at *
  have d0 : decide ((100 : Int) < n) = false := by simp <;> omega
  have d1 : decide ((100 : Int) < m) = false := by simp <;> omega
  have d2 : decide ((x3 : Int) < 0) = false := by simp <;> omega
  have d3 : decide ((100 : Int) < x3) = false := by simp <;> omega
  have d4 : decide ((x4 : Int) < 0) = false := by simp <;> omega
  have d5 : decide ((100 : Int) < x4) = false := by simp <;> omega
  go_enter Try.func5, Try.ntmps5
  go_wp2_with fail
  refine wp_region_grow w.heap.size 15 0 0 [(0, 0, 35184372088832, 32), (1, 1, 70368744177664, 35184372088832), (2, 2, 140737488355328, 70368744177664), (3, 0, 281474976710656, 32), (4, 8, 562949953421312, 281474976710656), (5, 0, 1125899906842624, 32), (6, 32, 2251799813685248, 1125899906842624), (7, 80, 4503599627370496, 2814749767106560), (8, 128, 9007199254740992, 4503599627370496), (9, 0, 18014398509481984, 32), (10, 512, 36028797018963968, 18014398509481984), (11, 1024, 72057594037927936, 36028797018963968), (12, 7, 128, 140737488355328), (13, 4607, 256, 9007199254740992), (14, 16383, 512, 72057594037927936)] [(.p 0, 1), (.p 1, 3), (.p 2, 7), (.p 3, 15), (.p 4, 31), (.p 5, 63), (.p 6, 127), (.p 7, 255), (.p 8, 511), (.p 9, 1023), (.p 10, 2047), (.p 11, 4095), (.p 12, 8191), (.p 13, 16383), (.p 14, 32767)] [] _ (fun p hp => hp) (by first | omega | (simp; done) | (simp; omega)) (by kernel_rfl) (by kernel_rfl) (Own.new (Own.nil w) (w.heap.size) rfl) ?_
  refine wpG_pure (i := 0) (v := ?v1x0) rfl rfl (by rfl) (fun w hB hG K hK => ?h1x0) ?_
  case h1x0 =>
    go_wp2_with fail
    exact hK _ (Below.refl _ _)
  simp only [List.set_cons_zero, List.set_cons_succ]
  refine wpG_pure (i := 1) (v := ?v1x1) rfl rfl (by rfl) (fun w hB hG K hK => ?h1x1) ?_
  case h1x1 =>
    have cx := Own.cell hG 0 rfl
    go_wp2_with fail
    exact hK _ (Below.refl _ _)
  simp only [List.set_cons_zero, List.set_cons_succ]
  refine wpG_pure (i := 2) (v := ?v1x2) rfl rfl (by rfl) (fun w hB hG K hK => ?h1x2) ?_
  case h1x2 =>
    go_wp2_with fail
    exact hK _ (Below.refl _ _)
  simp only [List.set_cons_zero, List.set_cons_succ]
  refine wpG_pure (i := 3) (v := ?v1x3) rfl rfl (by rfl) (fun w hB hG K hK => ?h1x3) ?_
  case h1x3 =>
    go_wp2_with fail
    exact hK _ (Below.refl _ _)
  simp only [List.set_cons_zero, List.set_cons_succ]
  refine wpG_pure (i := 4) (v := ?v1x4) rfl rfl (by rfl) (fun w hB hG K hK => ?h1x4) ?_
  case h1x4 =>
    have cx := Own.cell hG 0 rfl
    go_wp2_with fail
    exact hK _ (Below.refl _ _)
  simp only [List.set_cons_zero, List.set_cons_succ]
  refine wpG_pure (i := 5) (v := ?v1x5) rfl rfl (by rfl) (fun w hB hG K hK => ?h1x5) ?_
  case h1x5 =>
    go_wp2_with fail
    exact hK _ (Below.refl _ _)
  simp only [List.set_cons_zero, List.set_cons_succ]
  refine wpG_pure (i := 6) (v := ?v1x6) rfl rfl (by rfl) (fun w hB hG K hK => ?h1x6) ?_
  case h1x6 =>
    have cx := Own.cell hG 0 rfl
    go_wp2_with fail
    exact hK _ (Below.refl _ _)
  simp only [List.set_cons_zero, List.set_cons_succ]
  refine wpG_pure (i := 7) (v := ?v1x7) rfl rfl (by rfl) (fun w hB hG K hK => ?h1x7) ?_
  case h1x7 =>
    go_wp2_with fail
    exact hK _ (Below.refl _ _)
  simp only [List.set_cons_zero, List.set_cons_succ]
  refine wpG_pure (i := 8) (v := ?v1x8) rfl rfl (by rfl) (fun w hB hG K hK => ?h1x8) ?_
  case h1x8 =>
    go_wp2_with fail
    exact hK _ (Below.refl _ _)
  simp only [List.set_cons_zero, List.set_cons_succ]
  refine wpG_pure (i := 9) (v := ?v1x9) rfl rfl (by rfl) (fun w hB hG K hK => ?h1x9) ?_
  case h1x9 =>
    go_wp2_with fail
    exact hK _ (Below.refl _ _)
  simp only [List.set_cons_zero, List.set_cons_succ]
  refine wpG_pure (i := 10) (v := ?v1x10) rfl rfl (by rfl) (fun w hB hG K hK => ?h1x10) ?_
  case h1x10 =>
    have cx := Own.cell hG 0 rfl
    go_wp2_with fail
    exact hK _ (Below.refl _ _)
  simp only [List.set_cons_zero, List.set_cons_succ]
  refine wpG_pure (i := 11) (v := ?v1x11) rfl rfl (by rfl) (fun w hB hG K hK => ?h1x11) ?_
  case h1x11 =>
    go_wp2_with fail
    exact hK _ (Below.refl _ _)
  simp only [List.set_cons_zero, List.set_cons_succ]
  refine wpG_assign (i := 12) rfl rfl rfl (by rfl) rfl ?_
  simp only [List.set_cons_zero, List.set_cons_succ]
  refine wpG_assign (i := 13) rfl rfl rfl (by rfl) rfl ?_
  simp only [List.set_cons_zero, List.set_cons_succ]
  refine wpG_assign (i := 14) rfl rfl rfl (by rfl) rfl ?_
  simp only [List.set_cons_zero, List.set_cons_succ]
  refine wpG_nil (fun w1 hb1 hG1 => ?_)
  simp only [List.append_eq, List.cons_append, List.nil_append, List.drop_succ_cons, List.drop_zero, List.drop_nil]
  have O1 := Own.of hG1
  try simp only [List.setIfInBounds_toArray, List.set_cons_zero, List.set_cons_succ] at O1
  have bw1 : Below w.heap.size w w1 := Below.trans (by go_grown) (Below.mono hb1 (by first | omega | (simp; done) | (simp; omega)))
  have zw1 := Below.size hb1
  try simp only [World.size_alloc, World.size_drew, World.size_setCell] at zw1
  have pw1 : Below w.heap.size w w1 := Below.trans (by go_grown) (Below.mono hb1 (by first | omega | (simp; done) | (simp; omega)))
  replace hS := SlAt.grow hS pw1
  replace hT := SlAt.grow hT pw1
  clear pw1
  have c1x0 := Own.cell O1 0 rfl
  have f1x0 := Own.free O1 0 rfl
  have l1x0 := Own.lt O1 0 rfl
  have l1x0d0 := le_up 0 l1x0
  have l1x0d1 := le_up 1 l1x0
  simp only [upN] at l1x0d0 l1x0d1
  have HO1 := Lib.hid O1
  clear O1 hb1
  go_wp2_with fail
  refine (HA.out _ hS hT).mono ?_
  rintro e w2 ⟨rfl, hb2⟩
  have O2 := Own.grow' hb2 HO1.out
  try simp only [List.setIfInBounds_toArray, List.set_cons_zero, List.set_cons_succ] at O2
  have bw2 : Below w.heap.size w w2 := Below.trans (by go_grown) (Below.mono hb2 (by first | omega | (simp; done) | (simp; omega)))
  have zw2 := Below.size hb2
  try simp only [World.size_alloc, World.size_drew, World.size_setCell] at zw2
  have pw2 : Below w1.heap.size w1 w2 := Below.trans (by go_grown) (Below.mono hb2 (by first | omega | (simp; done) | (simp; omega)))
  replace hS := SlAt.grow hS pw2
  replace hT := SlAt.grow hT pw2
  clear pw2
  clear c1x0 f1x0 l1x0 l1x0d0 l1x0d1
  have c2x0 := Own.cell O2 0 rfl
  have f2x0 := Own.free O2 0 rfl
  have l2x0 := Own.lt O2 0 rfl
  have l2x0d0 := le_up 0 l2x0
  have l2x0d1 := le_up 1 l2x0
  simp only [upN] at l2x0d0 l2x0d1
  have HO2 := Lib.hid O2
  clear O2 hb2
  go_wp2_with fail
  refine (HP.out _ hS).mono ?_
  rintro e w3 ⟨A1, c1, rfl, s1, m1, hb3⟩
  have O3 := Own.grow' hb3 HO2.out
  try simp only [List.setIfInBounds_toArray, List.set_cons_zero, List.set_cons_succ] at O3
  have bw3 : Below w.heap.size w w3 := Below.trans (by go_grown) (Below.mono hb3 (by first | omega | (simp; done) | (simp; omega)))
  have zw3 := Below.size hb3
  try simp only [World.size_alloc, World.size_drew, World.size_setCell] at zw3
  have pw3 : Below w2.heap.size w2 w3 := Below.trans (by go_grown) (Below.mono hb3 (by first | omega | (simp; done) | (simp; omega)))
  replace hS := SlAt.grow hS pw3
  replace hT := SlAt.grow hT pw3
  clear pw3
  clear c2x0 f2x0 l2x0 l2x0d0 l2x0d1
  have c3x0 := Own.cell O3 0 rfl
  have f3x0 := Own.free O3 0 rfl
  have l3x0 := Own.lt O3 0 rfl
  have l3x0d0 := le_up 0 l3x0
  have l3x0d1 := le_up 1 l3x0
  simp only [upN] at l3x0d0 l3x0d1
  have HO3 := Lib.hid O3
  clear O3 hb3
  go_wp2_with fail
  refine (HQ.out _ hT).mono ?_
  rintro e w4 ⟨A2, c2, rfl, s2, m2, hb4⟩
  have O4 := Own.grow' hb4 HO3.out
  try simp only [List.setIfInBounds_toArray, List.set_cons_zero, List.set_cons_succ] at O4
  have bw4 : Below w.heap.size w w4 := Below.trans (by go_grown) (Below.mono hb4 (by first | omega | (simp; done) | (simp; omega)))
  have zw4 := Below.size hb4
  try simp only [World.size_alloc, World.size_drew, World.size_setCell] at zw4
  have pw4 : Below w3.heap.size w3 w4 := Below.trans (by go_grown) (Below.mono hb4 (by first | omega | (simp; done) | (simp; omega)))
  replace hS := SlAt.grow hS pw4
  replace hT := SlAt.grow hT pw4
  replace s1 := SlAt.grow s1 pw4
  clear pw4
  clear c3x0 f3x0 l3x0 l3x0d0 l3x0d1
  have c4x0 := Own.cell O4 0 rfl
  have f4x0 := Own.free O4 0 rfl
  have l4x0 := Own.lt O4 0 rfl
  have l4x0d0 := le_up 0 l4x0
  have l4x0d1 := le_up 1 l4x0
  simp only [upN] at l4x0d0 l4x0d1
  have HO4 := Lib.hid O4
  clear O4 hb4
  go_wp2_with fail
  refine (HV.out _ hS).mono ?_
  rintro e w5 ⟨rfl, hb5⟩
  have O5 := Own.grow' hb5 HO4.out
  try simp only [List.setIfInBounds_toArray, List.set_cons_zero, List.set_cons_succ] at O5
  have bw5 : Below w.heap.size w w5 := Below.trans (by go_grown) (Below.mono hb5 (by first | omega | (simp; done) | (simp; omega)))
  have zw5 := Below.size hb5
  try simp only [World.size_alloc, World.size_drew, World.size_setCell] at zw5
  have pw5 : Below w4.heap.size w4 w5 := Below.trans (by go_grown) (Below.mono hb5 (by first | omega | (simp; done) | (simp; omega)))
  replace hS := SlAt.grow hS pw5
  replace hT := SlAt.grow hT pw5
  replace s1 := SlAt.grow s1 pw5
  replace s2 := SlAt.grow s2 pw5
  clear pw5
  clear c4x0 f4x0 l4x0 l4x0d0 l4x0d1
  have c5x0 := Own.cell O5 0 rfl
  have f5x0 := Own.free O5 0 rfl
  have l5x0 := Own.lt O5 0 rfl
  have l5x0d0 := le_up 0 l5x0
  have l5x0d1 := le_up 1 l5x0
  simp only [upN] at l5x0d0 l5x0d1
  have HO5 := Lib.hid O5
  clear O5 hb5
  go_wp2_with fail
  refine (HW.out _ hT).mono ?_
  rintro e w6 ⟨rfl, hb6⟩
  have O6 := Own.grow' hb6 HO5.out
  try simp only [List.setIfInBounds_toArray, List.set_cons_zero, List.set_cons_succ] at O6
  have bw6 : Below w.heap.size w w6 := Below.trans (by go_grown) (Below.mono hb6 (by first | omega | (simp; done) | (simp; omega)))
  have zw6 := Below.size hb6
  try simp only [World.size_alloc, World.size_drew, World.size_setCell] at zw6
  have pw6 : Below w5.heap.size w5 w6 := Below.trans (by go_grown) (Below.mono hb6 (by first | omega | (simp; done) | (simp; omega)))
  replace hS := SlAt.grow hS pw6
  replace hT := SlAt.grow hT pw6
  replace s1 := SlAt.grow s1 pw6
  replace s2 := SlAt.grow s2 pw6
  clear pw6
  clear c5x0 f5x0 l5x0 l5x0d0 l5x0d1
  have c6x0 := Own.cell O6 0 rfl
  have f6x0 := Own.free O6 0 rfl
  have l6x0 := Own.lt O6 0 rfl
  have l6x0d0 := le_up 0 l6x0
  have l6x0d1 := le_up 1 l6x0
  simp only [upN] at l6x0d0 l6x0d1
  have HO6 := Lib.hid O6
  clear O6 hb6
  go_wp2_with fail
  refine wp_region_grow w6.heap.size 52 0 17935802302464 [(0, 0, 38685626227668133590597632, 1), (1, 0, 77371252455336267181195264, 2), (2, 0, 154742504910672534362390528, 256), (3, 7, 309485009821345068724781056, 270799383593676935134183424), (4, 8, 618970019642690137449562112, 309485009821345068724781056), (5, 16, 1237940039285380274899124224, 618970019642690137449564160), (6, 48, 2475880078570760549798248448, 1856910058928070412348686336), (7, 16, 4951760157141521099596496896, 618970019642690137449570304), (8, 208, 9903520314283042199192993792, 5570730176784211237046059008), (9, 336, 19807040628566084398385987584, 12998370412496492886440804352), (10, 528, 39614081257132168796771975168, 20426010648208774535835549696), (11, 1040, 79228162514264337593543950336, 40233051276774858934221537280), (12, 2304, 158456325028528675187087900672, 79228162514264337593543950336), (13, 4096, 316912650057057350374175801344, 158456325028528675187087901696), (14, 4096, 633825300114114700748351602688, 158456325028528675187087904768), (15, 4096, 1267650600228229401496703205376, 158456325028528675187087900800), (16, 61440, 2535301200456458802993406410752, 2376844875427930127806318510080), (17, 69632, 5070602400912917605986812821504, 2693757525484987478180494311424), (18, 196608, 10141204801825835211973625643008, 5070602400912917605986812821504), (19, 262144, 20282409603651670423947251286016, 10141204801825835211973625643520), (20, 262144, 40564819207303340847894502572032, 10141204801825835211973625643009), (21, 1835008, 81129638414606681695789005144064, 70988433612780846483815379501056), (22, 262144, 162259276829213363391578010288128, 10141204801825835211973625643520), (23, 262144, 324518553658426726783156020576256, 10141204801825835211973625643010), (24, 14942208, 649037107316853453566312041152512, 496919035289465925386707656507392), (25, 262144, 1298074214633706907132624082305024, 10141204801825835211973625643136), (26, 52690944, 2596148429267413814265248164610048, 2038382165166992877606698754244608), (27, 67371008, 5192296858534827628530496329220096, 2606289634069239649477221790253056), (28, 201326592, 10384593717069655257060992658440192, 5192296858534827628530496329220096), (29, 268435456, 20769187434139310514121985316880384, 10384593717069655257060992658456576), (30, 268435456, 41538374868278621028243970633760768, 10384593717069655257060992658472960), (31, 268435456, 83076749736557242056487941267521536, 10384593717069655257060992658440320), (32, 4026531840, 166153499473114484112975882535043072, 155768905756044828855914889876602880), (33, 4563402752, 332306998946228968225951765070086144, 176538093190184139370036875193483264), (34, 12884901888, 664613997892457936451903530140172288, 332306998946228968225951765070086144), (35, 17179869184, 1329227995784915872903807060280344576, 664613997892457936451903530140188672), (36, 51539607552, 2658455991569831745807614120560689152, 1993841993677373809355710590420516864), (37, 17179869184, 5316911983139663491615228241121378304, 664613997892457936451903530140205056), (38, 223338299392, 10633823966279326983230456482242756608, 5981525981032121428067131771261550592), (39, 17179869184, 21267647932558653966460912964485513216, 664613997892457936451903530140172416), (40, 910533066752, 42535295865117307932921825928971026432, 35224541888300270631950887097429131264), (41, 1116691496960, 85070591730234615865843651857942052864, 43199909863009765869373729459111198720), (42, 3298534883328, 170141183460469231731687303715884105728, 85070591730234615865843651857942052864), (43, 4398046511104, 340282366920938463463374607431768211456, 170141183460469231731687303715884122112), (44, 13194139533312, 680564733841876926926749214863536422912, 510423550381407695195061911147652317184), (45, 21990232555520, 1361129467683753853853498429727072845824, 850705917302346158658436518579420528640), (46, 4398046511104, 2722258935367507707706996859454145691648, 170141183460469231731687303715884122112), (47, 109951162777600, 5444517870735015415413993718908291383296, 4253529586511730793292182592897102643200), (48, 145135534866432, 10889035741470030830827987437816582766592, 5614659054195484647145681022624175489024), (49, 316659348799488, 21778071482940061661655974875633165533184, 10889035741470030830827987437816582766592), (50, 562949953421312, 43556142965880123323311949751266331066368, 21778071482940061661655974875633165533184), (51, 1688849860263936, 87112285931760246646623899502532662132736, 65334214448820184984967924626899496599552), (52, 4503599627370495, 64, 87112285931760246646623899502532662132736)] [(.p 0, 1), (.p 1, 3), (.p 2, 7), (.p 3, 15), (.p 4, 31), (.p 5, 63), (.p 6, 127), (.p 7, 255), (.p 8, 511), (.p 9, 1023), (.p 10, 2047), (.p 11, 4095), (.p 12, 8191), (.p 13, 16383), (.p 14, 32767), (.p 15, 65535), (.p 16, 131071), (.p 17, 262143), (.p 18, 524287), (.p 19, 1048575), (.p 20, 2097151), (.p 22, 6291455), (.p 23, 14680063), (.p 25, 48234495), (.g 21, 50331647), (.g 24, 67108863), (.q 26, 134217727), (.p 27, 268435455), (.p 28, 536870911), (.p 29, 1073741823), (.p 30, 2147483647), (.p 31, 4294967295), (.p 32, 8589934591), (.p 33, 17179869183), (.p 34, 34359738367), (.p 35, 68719476735), (.p 37, 206158430207), (.p 39, 755914244095), (.g 36, 824633720831), (.g 38, 1099511627775), (.q 40, 2199023255551), (.p 41, 4398046511103), (.p 42, 8796093022207), (.p 43, 17592186044415), (.p 46, 87960930222079), (.g 44, 105553116266495), (.q 45, 140737488355327), (.p 47, 281474976710655), (.p 48, 562949953421311), (.p 49, 1125899906842623), (.p 50, 2251799813685247), (.p 51, 4503599627370495)] [(52, 9007199254740991)] _ (fun p hp => hp) (by first | omega | (simp; done) | (simp; omega)) (by kernel_rfl) (by kernel_rfl) (Own.new (Own.new HO6.out (w6.heap.size) rfl) (w6.heap.size + 1) (by simp)) ?_
  refine wpG_move (i := 0) rfl rfl rfl (by rfl) rfl ?_
  simp only [List.set_cons_zero, List.set_cons_succ]
  refine wpG_move (i := 1) rfl rfl rfl (by rfl) rfl ?_
  simp only [List.set_cons_zero, List.set_cons_succ]
  refine wpG_move (i := 2) rfl rfl rfl (by rfl) rfl ?_
  simp only [List.set_cons_zero, List.set_cons_succ]
  refine wpG_pure (i := 3) (v := ?v7x3) rfl rfl (by rfl) (fun w hB hG K hK => ?h7x3) ?_
  case h7x3 =>
    go_wp2_with fail
    refine (HAl.out _ (hS.below rfl (Below.trans (by go_grown) hB)) (hT.below rfl (Below.trans (by go_grown) hB))).mono ?_
    rintro e wx ⟨rfl, hbx⟩
    exact hK _ hbx
  simp only [List.set_cons_zero, List.set_cons_succ]
  refine wpG_move (i := 4) rfl rfl rfl (by rfl) rfl ?_
  simp only [List.set_cons_zero, List.set_cons_succ]
  refine wpG_move (i := 5) rfl rfl rfl (by rfl) rfl ?_
  simp only [List.set_cons_zero, List.set_cons_succ]
  refine wpG_pure (i := 6) (v := ?v7x6) rfl rfl (by rfl) (fun w hB hG K hK => ?h7x6) ?_
  case h7x6 =>
    go_wp2_with fail
    refine (num_any _ _).mono ?_
    rintro e wx ⟨rfl, rfl⟩
    exact hK _ (Below.refl _ _)
  simp only [List.set_cons_zero, List.set_cons_succ]
  refine wpG_move (i := 7) rfl rfl rfl (by rfl) rfl ?_
  simp only [List.set_cons_zero, List.set_cons_succ]
  refine wpG_pure (i := 8) (v := ?v7x8) rfl rfl (by rfl) (fun w hB hG K hK => ?h7x8) ?_
  case h7x8 =>
    go_wp2_with fail
    refine (num_any _ _).mono ?_
    rintro e wx ⟨rfl, rfl⟩
    exact hK _ (Below.refl _ _)
  simp only [List.set_cons_zero, List.set_cons_succ]
  refine wpG_pure (i := 9) (v := ?v7x9) rfl rfl (by rfl) (fun w hB hG K hK => ?h7x9) ?_
  case h7x9 =>
    go_wp2_with fail
    exact hK _ (Below.refl _ _)
  simp only [List.set_cons_zero, List.set_cons_succ]
  refine wpG_pure (i := 10) (v := ?v7x10) rfl rfl (by rfl) (fun w hB hG K hK => ?h7x10) ?_
  case h7x10 =>
    go_wp2_with fail
    exact hK _ (Below.refl _ _)
  simp only [List.set_cons_zero, List.set_cons_succ]
  refine wpG_pure (i := 11) (v := ?v7x11) rfl rfl (by rfl) (fun w hB hG K hK => ?h7x11) ?_
  case h7x11 =>
    go_wp2_with fail
    exact hK _ (Below.refl _ _)
  simp only [List.set_cons_zero, List.set_cons_succ]
  refine wpG_move (i := 12) rfl rfl rfl (by rfl) rfl ?_
  simp only [List.set_cons_zero, List.set_cons_succ]
  refine wpG_move (i := 13) rfl rfl rfl (by rfl) rfl ?_
  simp only [List.set_cons_zero, List.set_cons_succ]
  refine wpG_move (i := 14) rfl rfl rfl (by rfl) rfl ?_
  simp only [List.set_cons_zero, List.set_cons_succ]
  refine wpG_move (i := 15) rfl rfl rfl (by rfl) rfl ?_
  simp only [List.set_cons_zero, List.set_cons_succ]
  refine wpG_pure (i := 16) (v := ?v7x16) rfl rfl (by rfl) (fun w hB hG K hK => ?h7x16) ?_
  case h7x16 =>
    go_wp2_with fail
    refine (HAp.out _ _ _ _ _ (s1.below rfl (Below.trans (by go_grown) hB)) (s2.below rfl (Below.trans (by go_grown) hB)) m1 m2).mono ?_
    rintro e wx ⟨rfl, hbx⟩
    exact hK _ hbx
  simp only [List.set_cons_zero, List.set_cons_succ]
  refine wpG_pure (i := 17) (v := ?v7x17) rfl rfl (by rfl) (fun w hB hG K hK => ?h7x17) ?_
  case h7x17 =>
    go_wp2_with fail
    exact hK _ (Below.refl _ _)
  simp only [List.set_cons_zero, List.set_cons_succ]
  refine wpG_move (i := 18) rfl rfl rfl (by rfl) rfl ?_
  simp only [List.set_cons_zero, List.set_cons_succ]
  refine wpG_move (i := 19) rfl rfl rfl (by rfl) rfl ?_
  simp only [List.set_cons_zero, List.set_cons_succ]
  refine wpG_move (i := 20) rfl rfl rfl (by rfl) rfl ?_
  simp only [List.set_cons_zero, List.set_cons_succ]
  refine wpG_move (i := 22) rfl rfl rfl (by rfl) rfl ?_
  simp only [List.set_cons_zero, List.set_cons_succ]
  refine wpG_move (i := 23) rfl rfl rfl (by rfl) rfl ?_
  simp only [List.set_cons_zero, List.set_cons_succ]
  refine wpG_move (i := 25) rfl rfl rfl (by rfl) rfl ?_
  simp only [List.set_cons_zero, List.set_cons_succ]
  refine wpG_gen (GivesT (cellsC (xs.map fun c => (c.1, orI (orI 0 c.2) (IntKind.u64.wrap x2)))) (n)) (i := 21) rfl rfl (by rfl) (fun w hB hG K hK => ?h7x21) (fun v7g1 T7g1 N7g1 lT7g1 nT7g1 => ?_)
  case h7x21 =>
    go_wp2_with fail
    refine (HJx.out _ (hS.below rfl (Below.trans (by go_grown) hB))).mono ?_
    rintro e wx ⟨Ax, cx, rfl, _, _, hbx, Tx, h1x, h2x, h3x⟩
    exact hK _ _ _ h1x hbx h2x h3x
  simp only [List.set_cons_zero, List.set_cons_succ]
  obtain ⟨A7g1, c7g1, rfl, m7g1, S7g1⟩ := N7g1
  refine wpG_gen (GivesT (cellsC (ys.map fun c => (c.1, orI (orI 0 c.2) (IntKind.u64.wrap x2)))) (m)) (i := 24) rfl rfl (by rfl) (fun w hB hG K hK => ?h7x24) (fun v7g2 T7g2 N7g2 lT7g2 nT7g2 => ?_)
  case h7x24 =>
    go_wp2_with fail
    refine (HJy.out _ (hT.below rfl (Below.trans (by go_grown) hB))).mono ?_
    rintro e wx ⟨Ax, cx, rfl, _, _, hbx, Tx, h1x, h2x, h3x⟩
    exact hK _ _ _ h1x hbx h2x h3x
  simp only [List.set_cons_zero, List.set_cons_succ]
  obtain ⟨A7g2, c7g2, rfl, m7g2, S7g2⟩ := N7g2
  refine wpG_op (i := 26) (v := ?v7x26) rfl rfl (by rfl) (fun w hB hG K hK => ?h7x26) ?_
  case h7x26 =>
    go_wp2_with fail
    refine (HAj.out _ _ _ _ _ (S7g1 _ (Own.left (Own.right hG))) (S7g2 _ (Own.left hG)) m7g1 m7g2).mono ?_
    rintro e wx ⟨rfl, hbx⟩
    exact hK _ hbx
  simp only [List.set_cons_zero, List.set_cons_succ]
  refine wpG_pure (i := 27) (v := ?v7x27) rfl rfl (by rfl) (fun w hB hG K hK => ?h7x27) ?_
  case h7x27 =>
    go_wp2_with fail
    exact hK _ (Below.refl _ _)
  simp only [List.set_cons_zero, List.set_cons_succ]
  refine wpG_move (i := 28) rfl rfl rfl (by rfl) rfl ?_
  simp only [List.set_cons_zero, List.set_cons_succ]
  refine wpG_pure (i := 29) (v := ?v7x29) rfl rfl (by rfl) (fun w hB hG K hK => ?h7x29) ?_
  case h7x29 =>
    have cx := Own.cell hG 1 rfl
    go_wp2_with fail
    exact hK _ (Below.refl _ _)
  simp only [List.set_cons_zero, List.set_cons_succ]
  refine wpG_pure (i := 30) (v := ?v7x30) rfl rfl (by rfl) (fun w hB hG K hK => ?h7x30) ?_
  case h7x30 =>
    have cx := Own.cell hG 0 rfl
    go_wp2_with fail
    exact hK _ (Below.refl _ _)
  simp only [List.set_cons_zero, List.set_cons_succ]
  refine wpG_move (i := 31) rfl rfl rfl (by rfl) rfl ?_
  simp only [List.set_cons_zero, List.set_cons_succ]
  refine wpG_pure (i := 32) (v := ?v7x32) rfl rfl (by rfl) (fun w hB hG K hK => ?h7x32) ?_
  case h7x32 =>
    go_wp2_with fail
    refine (HSa.out _).mono ?_
    rintro e wx ⟨rfl, hbx⟩
    exact hK _ hbx
  simp only [List.set_cons_zero, List.set_cons_succ]
  refine wpG_pure (i := 33) (v := ?v7x33) rfl rfl (by rfl) (fun w hB hG K hK => ?h7x33) ?_
  case h7x33 =>
    go_wp2_with fail
    exact hK _ (Below.refl _ _)
  simp only [List.set_cons_zero, List.set_cons_succ]
  refine wpG_move (i := 34) rfl rfl rfl (by rfl) rfl ?_
  simp only [List.set_cons_zero, List.set_cons_succ]
  refine wpG_pure (i := 35) (v := ?v7x35) rfl rfl (by rfl) (fun w hB hG K hK => ?h7x35) ?_
  case h7x35 =>
    have cx := Own.cell hG 1 rfl
    go_wp2_with fail
    exact hK _ (Below.refl _ _)
  simp only [List.set_cons_zero, List.set_cons_succ]
  refine wpG_pure (i := 37) (v := ?v7x37) rfl rfl (by rfl) (fun w hB hG K hK => ?h7x37) ?_
  case h7x37 =>
    have cx := Own.cell hG 0 rfl
    go_wp2_with fail
    exact hK _ (Below.refl _ _)
  simp only [List.set_cons_zero, List.set_cons_succ]
  refine wpG_move (i := 39) rfl rfl rfl (by rfl) rfl ?_
  simp only [List.set_cons_zero, List.set_cons_succ]
  refine wpG_gen (GivesT (cellsC (wcells (wordX xs) (wordL xs))) (32)) (i := 36) rfl rfl (by rfl) (fun w hB hG K hK => ?h7x36) (fun v7g3 T7g3 N7g3 lT7g3 nT7g3 => ?_)
  case h7x36 =>
    go_wp2_with fail
    refine (HCx.out _).mono ?_
    rintro e wx ⟨Ax, cx, rfl, _, _, hbx, Tx, h1x, h2x, h3x⟩
    exact hK _ _ _ h1x hbx h2x h3x
  simp only [List.set_cons_zero, List.set_cons_succ]
  obtain ⟨A7g3, c7g3, rfl, m7g3, S7g3⟩ := N7g3
  refine wpG_gen (GivesT (cellsC (wcells (wordX ys) (wordL ys))) (32)) (i := 38) rfl rfl (by rfl) (fun w hB hG K hK => ?h7x38) (fun v7g4 T7g4 N7g4 lT7g4 nT7g4 => ?_)
  case h7x38 =>
    go_wp2_with fail
    refine (HCy.out _).mono ?_
    rintro e wx ⟨Ax, cx, rfl, _, _, hbx, Tx, h1x, h2x, h3x⟩
    exact hK _ _ _ h1x hbx h2x h3x
  simp only [List.set_cons_zero, List.set_cons_succ]
  obtain ⟨A7g4, c7g4, rfl, m7g4, S7g4⟩ := N7g4
  refine wpG_op (i := 40) (v := ?v7x40) rfl rfl (by rfl) (fun w hB hG K hK => ?h7x40) ?_
  case h7x40 =>
    go_wp2_with fail
    refine (HAc.out _ _ _ _ _ (S7g3 _ (Own.left (Own.right hG))) (S7g4 _ (Own.left hG)) m7g3 m7g4).mono ?_
    rintro e wx ⟨rfl, hbx⟩
    exact hK _ hbx
  simp only [List.set_cons_zero, List.set_cons_succ]
  refine wpG_pure (i := 41) (v := ?v7x41) rfl rfl (by rfl) (fun w hB hG K hK => ?h7x41) ?_
  case h7x41 =>
    go_wp2_with fail
    exact hK _ (Below.refl _ _)
  simp only [List.set_cons_zero, List.set_cons_succ]
  refine wpG_move (i := 42) rfl rfl rfl (by rfl) rfl ?_
  simp only [List.set_cons_zero, List.set_cons_succ]
  refine wpG_pure (i := 43) (v := ?v7x43) rfl rfl (by rfl) (fun w hB hG K hK => ?h7x43) ?_
  case h7x43 =>
    have cx := Own.cell hG 1 rfl
    go_wp2_with fail
    exact hK _ (Below.refl _ _)
  simp only [List.set_cons_zero, List.set_cons_succ]
  refine wpG_pure (i := 46) (v := ?v7x46) rfl rfl (by rfl) (fun w hB hG K hK => ?h7x46) ?_
  case h7x46 =>
    have cx := Own.cell hG 1 rfl
    go_wp2_with fail
    exact hK _ (Below.refl _ _)
  simp only [List.set_cons_zero, List.set_cons_succ]
  refine wpG_gen (GivesT (cellsC (wcells (wordX xs) (wordL xs))) (32)) (i := 44) rfl rfl (by rfl) (fun w hB hG K hK => ?h7x44) (fun v7g5 T7g5 N7g5 lT7g5 nT7g5 => ?_)
  case h7x44 =>
    go_wp2_with fail
    refine (HCx.out _).mono ?_
    rintro e wx ⟨Ax, cx, rfl, _, _, hbx, Tx, h1x, h2x, h3x⟩
    exact hK _ _ _ h1x hbx h2x h3x
  simp only [List.set_cons_zero, List.set_cons_succ]
  obtain ⟨A7g5, c7g5, rfl, m7g5, S7g5⟩ := N7g5
  refine wpG_op (i := 45) (v := ?v7x45) rfl rfl (by rfl) (fun w hB hG K hK => ?h7x45) ?_
  case h7x45 =>
    go_wp2_with fail
    refine (HWc.out _ _ _ (S7g5 _ (Own.left hG)) m7g5).mono ?_
    rintro e wx ⟨rfl, hbx⟩
    exact hK _ hbx
  simp only [List.set_cons_zero, List.set_cons_succ]
  refine wpG_pure (i := 47) (v := ?v7x47) rfl rfl (by rfl) (fun w hB hG K hK => ?h7x47) ?_
  case h7x47 =>
    have hq := eqVal0 e0 e1 e2 e3 (wordL xs) e0 e1 e2 e3 (wordL xs)
    go_wp2_with fail
    exact hK _ (Below.refl _ _)
  simp only [List.set_cons_zero, List.set_cons_succ]
  refine wpG_pure (i := 48) (v := ?v7x48) rfl rfl (by rfl) (fun w hB hG K hK => ?h7x48) ?_
  case h7x48 =>
    go_wp2_with fail
    exact hK _ (Below.refl _ _)
  simp only [List.set_cons_zero, List.set_cons_succ]
  refine wpG_move (i := 49) rfl rfl rfl (by rfl) rfl ?_
  simp only [List.set_cons_zero, List.set_cons_succ]
  refine wpG_pure (i := 50) (v := ?v7x50) rfl rfl (by rfl) (fun w hB hG K hK => ?h7x50) ?_
  case h7x50 =>
    go_wp2_with fail
    refine (works_any _).mono ?_
    rintro e wx ⟨rfl, hbx⟩
    exact hK _ hbx
  simp only [List.set_cons_zero, List.set_cons_succ]
  refine wpG_pure (i := 51) (v := ?v7x51) rfl rfl (by rfl) (fun w hB hG K hK => ?h7x51) ?_
  case h7x51 =>
    go_wp2_with fail
    exact hK _ (Below.refl _ _)
  simp only [List.set_cons_zero, List.set_cons_succ]
  refine wpG_nil (fun w7 hb7 hG7 => ?_)
  simp only [List.append_eq, List.cons_append, List.nil_append, List.drop_succ_cons, List.drop_zero, List.drop_nil]
  have O7 := Own.of hG7
  try simp only [List.setIfInBounds_toArray, List.set_cons_zero, List.set_cons_succ] at O7
  have bw7 : Below w.heap.size w w7 := Below.trans (by go_grown) (Below.mono hb7 (by first | omega | (simp; done) | (simp; omega)))
  have zw7 := Below.size hb7
  try simp only [World.size_alloc, World.size_drew, World.size_setCell] at zw7
  have pw7 : Below w6.heap.size w6 w7 := Below.trans (by go_grown) (Below.mono hb7 (by first | omega | (simp; done) | (simp; omega)))
  replace hS := SlAt.grow hS pw7
  replace hT := SlAt.grow hT pw7
  replace s1 := SlAt.grow s1 pw7
  replace s2 := SlAt.grow s2 pw7
  clear pw7
  clear c6x0 f6x0 l6x0 l6x0d0 l6x0d1
  have c7x5 := Own.cell (Own.right (Own.right (Own.right (Own.right (Own.right O7))))) 0 rfl
  have f7x5 := Own.free (Own.right (Own.right (Own.right (Own.right (Own.right O7))))) 0 rfl
  have l7x5 := Own.lt (Own.right (Own.right (Own.right (Own.right (Own.right O7))))) 0 rfl
  have l7x5d0 := le_up 0 l7x5
  have l7x5d1 := le_up 1 l7x5
  simp only [upN] at l7x5d0 l7x5d1
  have c7x6 := Own.cell (Own.tl (Own.right (Own.right (Own.right (Own.right (Own.right O7)))))) 0 rfl
  have f7x6 := Own.free (Own.tl (Own.right (Own.right (Own.right (Own.right (Own.right O7)))))) 0 rfl
  have l7x6 := Own.lt (Own.tl (Own.right (Own.right (Own.right (Own.right (Own.right O7)))))) 0 rfl
  have l7x6d0 := le_up 0 l7x6
  have l7x6d1 := le_up 1 l7x6
  simp only [upN] at l7x6d0 l7x6d1
  have c7x7 := Own.cell (Own.tl (Own.tl (Own.right (Own.right (Own.right (Own.right (Own.right O7))))))) 0 rfl
  have f7x7 := Own.free (Own.tl (Own.tl (Own.right (Own.right (Own.right (Own.right (Own.right O7))))))) 0 rfl
  have l7x7 := Own.lt (Own.tl (Own.tl (Own.right (Own.right (Own.right (Own.right (Own.right O7))))))) 0 rfl
  have l7x7d0 := le_up 0 l7x7
  have l7x7d1 := le_up 1 l7x7
  simp only [upN] at l7x7d0 l7x7d1
  have HO7 := Lib.hid O7
  clear O7 hb7
  go_wp2_with fail
  go_ret
  exact ⟨rfl, by go_grown⟩

theorem tholds_any (A : Option Addr) (xs : List (Int × Int)) (cap : Nat) (B : Option Addr) (ys : List (Int × Int)) (capb : Nat) (x0 x1 x2 x3 x4 : Int) (w : World) (hS : SlAt w A (cellsC xs)) (hcap : xs.length ≤ cap) (hT : SlAt w B (cellsC ys)) (hcapb : ys.length ≤ capb)
    (hx0 : ∀ c ∈ xs, 0 ≤ c.1 ∧ c.1 < 256) (hy0 : ∀ c ∈ ys, 0 ≤ c.1 ∧ c.1 < 256) (hx1 : ∀ c ∈ xs, U c.2) :
    Calls Try.prog 5 #[.slice A xs.length cap, .slice B ys.length capb, .agg #[.int .i64 x0, .int .i64 x1, .int .i64 x2, .int .i64 x3, .int .i64 x4]] w
      fun e w' => e = .returned (.bool true) ∧ Below w.heap.size w w' := by
  by_cases h0 : 100 < xs.length
  · exact tholds_s0 _ _ _ _ _ _ _ _ _ _ _ _ h0
  by_cases h1 : 100 < ys.length
  · exact tholds_s1 _ _ _ _ _ _ _ _ _ _ _ _ (by omega) h1
  by_cases h2 : x3 < 0
  · exact tholds_s2 _ _ _ _ _ _ _ _ _ _ _ _ (by omega) (by omega) h2
  by_cases h3 : 100 < x3
  · exact tholds_s3 _ _ _ _ _ _ _ _ _ _ _ _ (by omega) (by omega) (by omega) h3
  by_cases h4 : x4 < 0
  · exact tholds_s4 _ _ _ _ _ _ _ _ _ _ _ _ (by omega) (by omega) (by omega) (by omega) h4
  by_cases h5 : 100 < x4
  · exact tholds_s5 _ _ _ _ _ _ _ _ _ _ _ _ (by omega) (by omega) (by omega) (by omega) (by omega) h5
  obtain ⟨x3, rfl⟩ : ∃ k : Nat, x3 = k := ⟨x3.toNat, by omega⟩
  obtain ⟨x4, rfl⟩ : ∃ k : Nat, x4 = k := ⟨x4.toNat, by omega⟩
  rcases hal : alikeL belowI (IntKind.u64.wrap x0) xs ys with _ | _
  · exact tholds_no A xs cap B ys capb x0 x1 x2 x3 x4 w hS hcap (by omega) hT hcapb (by omega) (by omega) (by omega) hal
  · exact tholds_g A xs cap B ys capb x0 x1 x2 x3 x4 w hS hcap (by omega) hT hcapb (by omega) (by omega) (by omega) hx0 hy0 hx1 hal
end Go.Proofs.Ytknkepokkenokaa
