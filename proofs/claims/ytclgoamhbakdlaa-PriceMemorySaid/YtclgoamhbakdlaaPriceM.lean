/- Walks: the law PriceMemory. -/
import Derived.Test.YtclgoamhbakdlaaPriceW
set_option linter.unusedVariables false
set_option linter.unusedSimpArgs false
namespace Go.Proofs.Ytclgoamhbakdlaa
open Go.RowKit

set_option maxHeartbeats 4000000 in
set_option maxRecDepth 100000 in
theorem memory_n (n : Int) (w : World) (h : okI n = false) :
    Calls Try.prog 3 #[.int .i64 n] w fun e w' => e = .returned (.bool true) ∧ Below w.heap.size w w' := by
  have H1 := fun V : World => wordsOf_any n V
  have H2 := fun V : World => memory_any n V
  have H3 := fun V : World => refRight_any n V
  rw [h] at H1 H2 H3
  go_enter Try.func3, Try.ntmps3
  go_wp2_with fail
  refine (H1 _).mono ?_
  rintro e w1 ⟨rfl, hb1⟩
  have O1 := Own.grow' hb1 (Own.nil w)
  try simp only [List.setIfInBounds_toArray, List.set_cons_zero, List.set_cons_succ] at O1
  have bw1 : Below w.heap.size w w1 := Below.trans (by go_grown) (Below.mono hb1 (by first | omega | (simp; done) | (simp; omega)))
  have zw1 := Below.size hb1
  try simp only [World.size_alloc, World.size_drew, World.size_setCell] at zw1
  have HO1 := Lib.hid O1
  clear O1 hb1
  go_wp2_with fail
  refine (H2 _).mono ?_
  rintro e w2 ⟨rfl, hb2⟩
  have O2 := Own.grow' hb2 HO1.out
  try simp only [List.setIfInBounds_toArray, List.set_cons_zero, List.set_cons_succ] at O2
  have bw2 : Below w.heap.size w w2 := Below.trans (by go_grown) (Below.mono hb2 (by first | omega | (simp; done) | (simp; omega)))
  have zw2 := Below.size hb2
  try simp only [World.size_alloc, World.size_drew, World.size_setCell] at zw2
  have HO2 := Lib.hid O2
  clear O2 hb2
  go_wp2_with fail
  refine (H3 _).mono ?_
  rintro e w' ⟨rfl, rfl⟩
  go_wp2_with fail
  refine (num_any _ _).mono ?_
  rintro e w' ⟨rfl, rfl⟩
  go_wp2_with fail
  refine (num_any _ _).mono ?_
  rintro e w' ⟨rfl, rfl⟩
  go_wp2_with fail
  refine (works_any _).mono ?_
  rintro e w3 ⟨rfl, hb3⟩
  have O3 := Own.grow' hb3 HO2.out
  try simp only [List.setIfInBounds_toArray, List.set_cons_zero, List.set_cons_succ] at O3
  have bw3 : Below w.heap.size w w3 := Below.trans (by go_grown) (Below.mono hb3 (by first | omega | (simp; done) | (simp; omega)))
  have zw3 := Below.size hb3
  try simp only [World.size_alloc, World.size_drew, World.size_setCell] at zw3
  have HO3 := Lib.hid O3
  clear O3 hb3
  go_wp2_with fail
  go_ret
  exact ⟨rfl, by go_grown⟩

set_option maxHeartbeats 4000000 in
set_option maxRecDepth 100000 in
theorem memory_y (n : Int) (w : World) (h : okI n = true) :
    Calls Try.prog 3 #[.int .i64 n] w fun e w' => e = .returned (.bool true) ∧ Below w.heap.size w w' := by
  have H1 := fun V : World => wordsOf_any n V
  have H2 := fun V : World => memory_any n V
  have H3 := fun V : World => refRight_any n V
  rw [h] at H1 H2 H3
  have hn : 0 ≤ n ∧ n ≤ 16777216 := by simp only [okI, Bool.and_eq_true, decide_eq_true_eq] at h; exact h
  have H4 := fun V : World => refWords_any n V hn.1 hn.2
  have H5 := fun V : World => refMemory_any n V hn.1 hn.2
  generalize wordsI n = W0 at *
  generalize costI n = C0 at *
  go_enter Try.func3, Try.ntmps3
  go_wp2_with fail
  refine (H1 _).mono ?_
  rintro e w1 ⟨rfl, hb1⟩
  have O1 := Own.grow' hb1 (Own.nil w)
  try simp only [List.setIfInBounds_toArray, List.set_cons_zero, List.set_cons_succ] at O1
  have bw1 : Below w.heap.size w w1 := Below.trans (by go_grown) (Below.mono hb1 (by first | omega | (simp; done) | (simp; omega)))
  have zw1 := Below.size hb1
  try simp only [World.size_alloc, World.size_drew, World.size_setCell] at zw1
  have HO1 := Lib.hid O1
  clear O1 hb1
  go_wp2_with fail
  refine (H2 _).mono ?_
  rintro e w2 ⟨rfl, hb2⟩
  have O2 := Own.grow' hb2 HO1.out
  try simp only [List.setIfInBounds_toArray, List.set_cons_zero, List.set_cons_succ] at O2
  have bw2 : Below w.heap.size w w2 := Below.trans (by go_grown) (Below.mono hb2 (by first | omega | (simp; done) | (simp; omega)))
  have zw2 := Below.size hb2
  try simp only [World.size_alloc, World.size_drew, World.size_setCell] at zw2
  have HO2 := Lib.hid O2
  clear O2 hb2
  go_wp2_with fail
  refine (H3 _).mono ?_
  rintro e w' ⟨rfl, rfl⟩
  go_wp2_with fail
  refine (H4 _).mono ?_
  rintro e w' ⟨rfl, rfl⟩
  go_wp2_with fail
  refine (H5 _).mono ?_
  rintro e w' ⟨rfl, rfl⟩
  go_wp2_with fail
  refine (num_any _ _).mono ?_
  rintro e w' ⟨rfl, rfl⟩
  go_wp2_with fail
  refine (num_any _ _).mono ?_
  rintro e w' ⟨rfl, rfl⟩
  go_wp2_with fail
  refine (works_any _).mono ?_
  rintro e w3 ⟨rfl, hb3⟩
  have O3 := Own.grow' hb3 HO2.out
  try simp only [List.setIfInBounds_toArray, List.set_cons_zero, List.set_cons_succ] at O3
  have bw3 : Below w.heap.size w w3 := Below.trans (by go_grown) (Below.mono hb3 (by first | omega | (simp; done) | (simp; omega)))
  have zw3 := Below.size hb3
  try simp only [World.size_alloc, World.size_drew, World.size_setCell] at zw3
  have HO3 := Lib.hid O3
  clear O3 hb3
  go_wp2_with fail
  go_ret
  exact ⟨rfl, by go_grown⟩

theorem pmemory_any (n : Int) (w : World) : Calls Try.prog 3 #[.int .i64 n] w fun e w' => e = .returned (.bool true) ∧ Below w.heap.size w w' := by
  rcases h : okI n with _ | _
  · exact memory_n n w h
  · exact memory_y n w h
end Go.Proofs.Ytclgoamhbakdlaa
