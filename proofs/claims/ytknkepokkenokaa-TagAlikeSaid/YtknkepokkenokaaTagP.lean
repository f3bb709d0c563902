/- The law TagParts: its walks. -/
import Derived.Test.YtknkepokkenokaaTagW
set_option linter.unusedVariables false
set_option linter.unusedSimpArgs false
namespace Go.Proofs.Ytknkepokkenokaa
open Go.RowKit

theorem alikeL_self (bl : Int → Int → Bool) (up : Int) (xs : List (Int × Int)) : alikeL bl up xs xs = true :=
  alikeL_true rfl fun j x y hx hy => by rw [hx] at hy; cases hy; simp [alikeC]
theorem refEqual_self (A A' : Option Addr) (xs : List (Int × Int)) (n cap cap' : Nat) (w : World) (hxs : SlAt w A (cellsC xs)) (hys : SlAt w A' (cellsC xs)) (hl : xs.length = n) (hcap : n ≤ cap) (hcap' : n ≤ cap') (hn : n ≤ 100000) (h0 : ∀ x ∈ xs, 0 ≤ x.2) :
    Calls Try.prog 10 #[.slice A n cap, .slice A' n cap'] w fun e w' => e = .returned (.bool true) ∧ Below w.heap.size w w' := by
  subst hl
  have h := refEqual_any A A' xs xs cap cap' w hxs hys hcap hcap' hn hn h0
  rwa [alikeL_self] at h
theorem partL_pos {xs : List (Int × Int)} {p m : Nat} (h : ∀ x ∈ xs, 0 ≤ x.2) : ∀ x ∈ partL xs p m, 0 ≤ x.2 := by
  intro x hx
  unfold partL at hx
  rcases List.mem_append.1 hx with h1 | h1
  · exact h x (List.mem_of_mem_drop (List.mem_of_mem_take h1))
  · rw [(List.mem_replicate.1 h1).2]; decide

set_option maxHeartbeats 4000000 in
set_option maxRecDepth 20000 in
theorem parts_s1 (A : Option Addr) (n cap : Nat) (p m : Int) (w : World) (h : 200 < n) :
    Calls Try.prog 3 #[.slice A n cap, .int .i64 p, .int .i64 m] w
      fun e w' => e = .returned (.bool true) ∧ Below w.heap.size w w' := by
  have d1 : decide ((200 : Int) < n) = true := by simp <;> omega
  go_enter Try.func3, Try.ntmps3
  go_wp2_with fail
  refine (works_any _).mono ?_
  rintro e w1 ⟨rfl, hb1⟩
  have O1 := Own.grow' hb1 (Own.nil w)
  try simp only [List.setIfInBounds_toArray, List.set_cons_zero, List.set_cons_succ] at O1
  have bw1 : Below w.heap.size w w1 := Below.trans (by go_grown) (Below.mono hb1 (by first | omega | (simp; done) | (simp; omega)))
  have zw1 := Below.size hb1
  try simp only [World.size_alloc, World.size_drew, World.size_setCell] at zw1
  have HO1 := Lib.hid O1
  clear O1 hb1
  go_wp2_with fail
  go_ret
  exact ⟨rfl, by go_grown⟩

set_option maxHeartbeats 4000000 in
set_option maxRecDepth 20000 in
theorem parts_s2 (A : Option Addr) (n cap : Nat) (p m : Int) (w : World) (h : n ≤ 200) (h1 : 400 < m) (h2 : m ≤ 65536) :
    Calls Try.prog 3 #[.slice A n cap, .int .i64 p, .int .i64 m] w
      fun e w' => e = .returned (.bool true) ∧ Below w.heap.size w w' := by
  have d1 : decide ((200 : Int) < n) = false := by simp <;> omega
  have d2 : decide (400 < m) = true := by simp <;> omega
  have d3 : decide (m ≤ 65536) = true := by simp <;> omega
  go_enter Try.func3, Try.ntmps3
  go_wp2_with fail
  refine (works_any _).mono ?_
  rintro e w1 ⟨rfl, hb1⟩
  have O1 := Own.grow' hb1 (Own.nil w)
  try simp only [List.setIfInBounds_toArray, List.set_cons_zero, List.set_cons_succ] at O1
  have bw1 : Below w.heap.size w w1 := Below.trans (by go_grown) (Below.mono hb1 (by first | omega | (simp; done) | (simp; omega)))
  have zw1 := Below.size hb1
  try simp only [World.size_alloc, World.size_drew, World.size_setCell] at zw1
  have HO1 := Lib.hid O1
  clear O1 hb1
  go_wp2_with fail
  go_ret
  exact ⟨rfl, by go_grown⟩

set_option maxHeartbeats 4000000 in
set_option maxRecDepth 20000 in
theorem parts_b1 (A : Option Addr) (n cap : Nat) (p m : Int) (w : World) (h : n ≤ 200) (h1 : m ≤ 400) (h2 : p < 0) :
    Calls Try.prog 3 #[.slice A n cap, .int .i64 p, .int .i64 m] w
      fun e w' => e = .returned (.bool true) ∧ Below w.heap.size w w' := by
  have d1 : decide ((200 : Int) < n) = false := by simp <;> omega
  have d2 : decide (400 < m) = false := by simp <;> omega
  have d3 : decide (p < 0) = true := by simp <;> omega
  go_enter Try.func3, Try.ntmps3
  go_wp2_with fail
  refine (part_bad _ _ _ _ _ _ (by omega)).mono ?_
  rintro e w' ⟨rfl, rfl⟩
  go_wp2_with fail
  refine (num_any _ _).mono ?_
  rintro e w' ⟨rfl, rfl⟩
  go_wp2_with fail
  refine (works_any _).mono ?_
  rintro e w1 ⟨rfl, hb1⟩
  have O1 := Own.grow' hb1 (Own.nil w)
  try simp only [List.setIfInBounds_toArray, List.set_cons_zero, List.set_cons_succ] at O1
  have bw1 : Below w.heap.size w w1 := Below.trans (by go_grown) (Below.mono hb1 (by first | omega | (simp; done) | (simp; omega)))
  have zw1 := Below.size hb1
  try simp only [World.size_alloc, World.size_drew, World.size_setCell] at zw1
  have HO1 := Lib.hid O1
  clear O1 hb1
  go_wp2_with fail
  go_ret
  exact ⟨rfl, by go_grown⟩

set_option maxHeartbeats 4000000 in
set_option maxRecDepth 20000 in
theorem parts_b2 (A : Option Addr) (n cap : Nat) (p m : Int) (w : World) (h : n ≤ 200) (h1 : m < 0) (h2 : 0 ≤ p) :
    Calls Try.prog 3 #[.slice A n cap, .int .i64 p, .int .i64 m] w
      fun e w' => e = .returned (.bool true) ∧ Below w.heap.size w w' := by
  have d1 : decide ((200 : Int) < n) = false := by simp <;> omega
  have d2 : decide (400 < m) = false := by simp <;> omega
  have d3 : decide (p < 0) = false := by simp <;> omega
  have d4 : decide (m < 0) = true := by simp <;> omega
  go_enter Try.func3, Try.ntmps3
  go_wp2_with fail
  refine (part_bad _ _ _ _ _ _ (by omega)).mono ?_
  rintro e w' ⟨rfl, rfl⟩
  go_wp2_with fail
  refine (num_any _ _).mono ?_
  rintro e w' ⟨rfl, rfl⟩
  go_wp2_with fail
  refine (works_any _).mono ?_
  rintro e w1 ⟨rfl, hb1⟩
  have O1 := Own.grow' hb1 (Own.nil w)
  try simp only [List.setIfInBounds_toArray, List.set_cons_zero, List.set_cons_succ] at O1
  have bw1 : Below w.heap.size w w1 := Below.trans (by go_grown) (Below.mono hb1 (by first | omega | (simp; done) | (simp; omega)))
  have zw1 := Below.size hb1
  try simp only [World.size_alloc, World.size_drew, World.size_setCell] at zw1
  have HO1 := Lib.hid O1
  clear O1 hb1
  go_wp2_with fail
  go_ret
  exact ⟨rfl, by go_grown⟩

set_option maxHeartbeats 4000000 in
set_option maxRecDepth 20000 in
theorem parts_b3 (A : Option Addr) (n cap : Nat) (p m : Int) (w : World) (h : n ≤ 200) (h1 : 65536 < m) (h2 : p < 0) :
    Calls Try.prog 3 #[.slice A n cap, .int .i64 p, .int .i64 m] w
      fun e w' => e = .returned (.bool true) ∧ Below w.heap.size w w' := by
  have d1 : decide ((200 : Int) < n) = false := by simp <;> omega
  have d2 : decide (400 < m) = true := by simp <;> omega
  have d3 : decide (m ≤ 65536) = false := by simp <;> omega
  have d4 : decide (p < 0) = true := by simp <;> omega
  go_enter Try.func3, Try.ntmps3
  go_wp2_with fail
  refine (part_bad _ _ _ _ _ _ (by omega)).mono ?_
  rintro e w' ⟨rfl, rfl⟩
  go_wp2_with fail
  refine (num_any _ _).mono ?_
  rintro e w' ⟨rfl, rfl⟩
  go_wp2_with fail
  refine (works_any _).mono ?_
  rintro e w1 ⟨rfl, hb1⟩
  have O1 := Own.grow' hb1 (Own.nil w)
  try simp only [List.setIfInBounds_toArray, List.set_cons_zero, List.set_cons_succ] at O1
  have bw1 : Below w.heap.size w w1 := Below.trans (by go_grown) (Below.mono hb1 (by first | omega | (simp; done) | (simp; omega)))
  have zw1 := Below.size hb1
  try simp only [World.size_alloc, World.size_drew, World.size_setCell] at zw1
  have HO1 := Lib.hid O1
  clear O1 hb1
  go_wp2_with fail
  go_ret
  exact ⟨rfl, by go_grown⟩

set_option maxHeartbeats 4000000 in
set_option maxRecDepth 20000 in
theorem parts_b4 (A : Option Addr) (n cap : Nat) (p m : Int) (w : World) (h : n ≤ 200) (h1 : 65536 < m) (h2 : 0 ≤ p) :
    Calls Try.prog 3 #[.slice A n cap, .int .i64 p, .int .i64 m] w
      fun e w' => e = .returned (.bool true) ∧ Below w.heap.size w w' := by
  have d1 : decide ((200 : Int) < n) = false := by simp <;> omega
  have d2 : decide (400 < m) = true := by simp <;> omega
  have d3 : decide (m ≤ 65536) = false := by simp <;> omega
  have d4 : decide (p < 0) = false := by simp <;> omega
  have d5 : decide (m < 0) = false := by simp <;> omega
  have d6 : decide (65536 < m) = true := by simp <;> omega
  go_enter Try.func3, Try.ntmps3
  go_wp2_with fail
  refine (part_bad _ _ _ _ _ _ (by omega)).mono ?_
  rintro e w' ⟨rfl, rfl⟩
  go_wp2_with fail
  refine (num_any _ _).mono ?_
  rintro e w' ⟨rfl, rfl⟩
  go_wp2_with fail
  refine (works_any _).mono ?_
  rintro e w1 ⟨rfl, hb1⟩
  have O1 := Own.grow' hb1 (Own.nil w)
  try simp only [List.setIfInBounds_toArray, List.set_cons_zero, List.set_cons_succ] at O1
  have bw1 : Below w.heap.size w w1 := Below.trans (by go_grown) (Below.mono hb1 (by first | omega | (simp; done) | (simp; omega)))
  have zw1 := Below.size hb1
  try simp only [World.size_alloc, World.size_drew, World.size_setCell] at zw1
  have HO1 := Lib.hid O1
  clear O1 hb1
  go_wp2_with fail
  go_ret
  exact ⟨rfl, by go_grown⟩

set_option maxHeartbeats 4000000 in
set_option maxRecDepth 20000 in
theorem parts_g (A : Option Addr) (xs : List (Int × Int)) (cap p m : Nat) (w : World) (hS : SlAt w A (cellsC xs)) (hcap : xs.length ≤ cap) (h0 : ∀ x ∈ xs, 0 ≤ x.2) (hn : xs.length ≤ 200) (h1 : m ≤ 400) (h2 : p ≤ 9223372036854775807) :
    Calls Try.prog 3 #[.slice A xs.length cap, .int .i64 p, .int .i64 m] w
      fun e w' => e = .returned (.bool true) ∧ Below w.heap.size w w' := by
  have HP := Lib.hid (part_any A xs cap p m w hS hcap (by omega) (by omega))
  have HR := Lib.hid (fun (W : World) (hW : SlAt W A (cellsC xs)) => refPart_any A xs cap p m W hW hcap (by omega) (by omega) h2)
  have HQ := Lib.hid (partL_pos (p := p) (m := m) h0)
  clear h0
  generalize xs.length = n at *
  have d1 : decide ((200 : Int) < n) = false := by simp <;> omega
  have d2 : decide ((400 : Int) < m) = false := by simp <;> omega
  have d3 : decide ((p : Int) < 0) = false := by simp <;> omega
  have d4 : decide ((m : Int) < 0) = false := by simp <;> omega
  have d5 : decide ((65536 : Int) < m) = false := by simp <;> omega
  go_enter Try.func3, Try.ntmps3
  go_wp2_with fail
  refine (HP.out).mono ?_
  rintro e w1 ⟨A1, c1, rfl, s1, m1, hb1⟩
  have O1 := Own.grow' hb1 (Own.nil w)
  try simp only [List.setIfInBounds_toArray, List.set_cons_zero, List.set_cons_succ] at O1
  have bw1 : Below w.heap.size w w1 := Below.trans (by go_grown) (Below.mono hb1 (by first | omega | (simp; done) | (simp; omega)))
  have zw1 := Below.size hb1
  try simp only [World.size_alloc, World.size_drew, World.size_setCell] at zw1
  have pw1 : Below w.heap.size w w1 := Below.trans (by go_grown) (Below.mono hb1 (by first | omega | (simp; done) | (simp; omega)))
  replace hS := SlAt.grow hS pw1
  clear pw1
  have HO1 := Lib.hid O1
  clear O1 hb1
  go_wp2_with fail
  refine (HR.out _ hS).mono ?_
  rintro e w2 ⟨A2, c2, rfl, s2, m2, hb2, _⟩
  have O2 := Own.grow' hb2 HO1.out
  try simp only [List.setIfInBounds_toArray, List.set_cons_zero, List.set_cons_succ] at O2
  have bw2 : Below w.heap.size w w2 := Below.trans (by go_grown) (Below.mono hb2 (by first | omega | (simp; done) | (simp; omega)))
  have zw2 := Below.size hb2
  try simp only [World.size_alloc, World.size_drew, World.size_setCell] at zw2
  have pw2 : Below w1.heap.size w1 w2 := Below.trans (by go_grown) (Below.mono hb2 (by first | omega | (simp; done) | (simp; omega)))
  replace hS := SlAt.grow hS pw2
  replace s1 := SlAt.grow s1 pw2
  clear pw2
  have HO2 := Lib.hid O2
  clear O2 hb2
  go_wp2_with fail
  refine (refEqual_self _ _ _ _ _ _ _ s1 s2 (partL_len _ _ _) m1 m2 (by omega) HQ.out).mono ?_
  rintro e w3 ⟨rfl, hb3⟩
  have O3 := Own.grow' hb3 HO2.out
  try simp only [List.setIfInBounds_toArray, List.set_cons_zero, List.set_cons_succ] at O3
  have bw3 : Below w.heap.size w w3 := Below.trans (by go_grown) (Below.mono hb3 (by first | omega | (simp; done) | (simp; omega)))
  have zw3 := Below.size hb3
  try simp only [World.size_alloc, World.size_drew, World.size_setCell] at zw3
  have pw3 : Below w2.heap.size w2 w3 := Below.trans (by go_grown) (Below.mono hb3 (by first | omega | (simp; done) | (simp; omega)))
  replace hS := SlAt.grow hS pw3
  replace s1 := SlAt.grow s1 pw3
  replace s2 := SlAt.grow s2 pw3
  clear pw3
  have HO3 := Lib.hid O3
  clear O3 hb3
  go_wp2_with fail
  refine (num_any _ _).mono ?_
  rintro e w' ⟨rfl, rfl⟩
  go_wp2_with fail
  refine (works_any _).mono ?_
  rintro e w4 ⟨rfl, hb4⟩
  have O4 := Own.grow' hb4 HO3.out
  try simp only [List.setIfInBounds_toArray, List.set_cons_zero, List.set_cons_succ] at O4
  have bw4 : Below w.heap.size w w4 := Below.trans (by go_grown) (Below.mono hb4 (by first | omega | (simp; done) | (simp; omega)))
  have zw4 := Below.size hb4
  try simp only [World.size_alloc, World.size_drew, World.size_setCell] at zw4
  have pw4 : Below w3.heap.size w3 w4 := Below.trans (by go_grown) (Below.mono hb4 (by first | omega | (simp; done) | (simp; omega)))
  replace hS := SlAt.grow hS pw4
  replace s1 := SlAt.grow s1 pw4
  replace s2 := SlAt.grow s2 pw4
  clear pw4
  have HO4 := Lib.hid O4
  clear O4 hb4
  go_wp2_with fail
  go_ret
  exact ⟨rfl, by go_grown⟩

theorem parts_any (A : Option Addr) (xs : List (Int × Int)) (cap : Nat) (p m : Int) (w : World) (hS : SlAt w A (cellsC xs)) (hcap : xs.length ≤ cap) (h0 : ∀ x ∈ xs, 0 ≤ x.2) (hp : p ≤ 9223372036854775807) :
    Calls Try.prog 3 #[.slice A xs.length cap, .int .i64 p, .int .i64 m] w
      fun e w' => e = .returned (.bool true) ∧ Below w.heap.size w w' := by
  by_cases h1 : 200 < xs.length
  · exact parts_s1 _ _ _ _ _ _ h1
  by_cases h2 : 400 < m
  · by_cases h3 : m ≤ 65536
    · exact parts_s2 _ _ _ _ _ _ (by omega) h2 h3
    · by_cases h4 : p < 0
      · exact parts_b3 _ _ _ _ _ _ (by omega) (by omega) h4
      · exact parts_b4 _ _ _ _ _ _ (by omega) (by omega) (by omega)
  · by_cases h4 : p < 0
    · exact parts_b1 _ _ _ _ _ _ (by omega) (by omega) h4
    · by_cases h5 : m < 0
      · exact parts_b2 _ _ _ _ _ _ (by omega) h5 (by omega)
      · obtain ⟨p, rfl⟩ : ∃ k : Nat, p = k := ⟨p.toNat, by omega⟩
        obtain ⟨m, rfl⟩ : ∃ k : Nat, m = k := ⟨m.toNat, by omega⟩
        exact parts_g A xs cap p m w hS hcap h0 (by omega) (by omega) (by omega)
end Go.Proofs.Ytknkepokkenokaa
