/- Walks: works. -/
import Derived.Test.YtclgoamhbakdlaaPriceG
set_option linter.unusedVariables false
set_option linter.unusedSimpArgs false
namespace Go.Proofs.Ytclgoamhbakdlaa
open Go.RowKit
theorem wk1 (w : World) : Calls Try.prog 7 #[.int .i64 33] w fun e w' => e = .returned (.tuple #[.int .i64 2, .int .i64 0]) ∧ Below w.heap.size w w' :=
  (wordsOf_any 33 w).mono fun e w' ⟨he, hb⟩ => ⟨he.trans (congrArg Ending.returned (by kernel_rfl)), hb⟩
theorem wk2 (w : World) : Calls Try.prog 8 #[.int .i64 32] w fun e w' => e = .returned (.tuple #[.int .u64 98, .int .i64 0]) ∧ Below w.heap.size w w' :=
  (memory_any 32 w).mono fun e w' ⟨he, hb⟩ => ⟨he.trans (congrArg Ending.returned (by kernel_rfl)), hb⟩
theorem wk3 (w : World) : Calls Try.prog 8 #[.int .i64 1024] w fun e w' => e = .returned (.tuple #[.int .u64 5120, .int .i64 0]) ∧ Below w.heap.size w w' :=
  (memory_any 1024 w).mono fun e w' ⟨he, hb⟩ => ⟨he.trans (congrArg Ending.returned (by kernel_rfl)), hb⟩
theorem wk4 (w : World) : Calls Try.prog 25 #[.int .i64 1, .int .u64 0, .int .u64 64] w fun e w' => e = .returned (.tuple #[.int .i64 2, .int .u64 3, .int .i64 0]) ∧ Below w.heap.size w w' :=
  (lreach_any 1 0 64 w (by omega) (by omega) (by omega) (by omega)).mono fun e w' ⟨he, hb⟩ => ⟨he.trans (congrArg Ending.returned (by kernel_rfl)), hb⟩
theorem wk5 (w : World) : Calls Try.prog 25 #[.int .i64 5, .int .u64 10, .int .u64 0] w fun e w' => e = .returned (.tuple #[.int .i64 5, .int .u64 0, .int .i64 0]) ∧ Below w.heap.size w w' :=
  (lreach_any 5 10 0 w (by omega) (by omega) (by omega) (by omega)).mono fun e w' ⟨he, hb⟩ => ⟨he.trans (congrArg Ending.returned (by kernel_rfl)), hb⟩
theorem wk6 (w : World) : Calls Try.prog 25 #[.int .i64 0, .int .u64 16777216, .int .u64 1] w fun e w' => e = .returned (.tuple #[.int .i64 0, .int .u64 0, .int .i64 4]) ∧ Below w.heap.size w w' :=
  (lreach_any 0 16777216 1 w (by omega) (by omega) (by omega) (by omega)).mono fun e w' ⟨he, hb⟩ => ⟨he.trans (congrArg Ending.returned (by kernel_rfl)), hb⟩
theorem wk7 (w : World) : Calls Try.prog 14 #[.int .i64 2, .int .i64 33] w fun e w' => e = .returned (.tuple #[.int .u64 12, .int .i64 0]) ∧ Below w.heap.size w w' :=
  (of_any 2 33 w).mono fun e w' ⟨he, hb⟩ => ⟨he.trans (congrArg Ending.returned (by kernel_rfl)), hb⟩
theorem wk8 (w : World) : Calls Try.prog 14 #[.int .i64 5, .int .i64 2] w fun e w' => e = .returned (.tuple #[.int .u64 100, .int .i64 0]) ∧ Below w.heap.size w w' :=
  (of_any 5 2 w).mono fun e w' ⟨he, hb⟩ => ⟨he.trans (congrArg Ending.returned (by kernel_rfl)), hb⟩
theorem wk9 (b b' : Nat) (t t' : TypeId) (w : World) (hl : Blk w b #[.slice (some ⟨b', 0, none⟩) 2 2] t) (hx : Blk w b' #[.int .u8 0, .int .u8 1] t') :
    Calls Try.prog 16 #[.slice (some ⟨b, 0, none⟩) 1 1] w fun e w' => e = .returned (.int .u64 20) ∧ Below w.heap.size w w' :=
  data_any (some ⟨b, 0, none⟩) [⟨some ⟨b', 0, none⟩, [0, 1], 2⟩] 1 w (SlAt.of_blk hl) (fun p hp => by simp at hp; subst hp; exact ⟨SlAt.of_blk hx, Nat.le_refl _, fun h => by cases h⟩) (by simp) (by simp) (by simp [lenP])

set_option maxHeartbeats 4000000 in
set_option maxRecDepth 100000 in
theorem works_any  (w : World)  :
    Calls Try.prog 11 #[] w fun e w' => e = .returned (.bool true) ∧ Below w.heap.size w w' := by
  go_enter Try.func11, Try.ntmps11
  go_wp2_with fail
  refine (wk1 _).mono ?_
  rintro e w1 ⟨rfl, hb1⟩
  have O1 := Own.grow' hb1 (Own.nil w)
  try simp only [List.setIfInBounds_toArray, List.set_cons_zero, List.set_cons_succ] at O1
  have bw1 : Below w.heap.size w w1 := Below.trans (by go_grown) (Below.mono hb1 (by first | omega | (simp; done) | (simp; omega)))
  have zw1 := Below.size hb1
  try simp only [World.size_alloc, World.size_drew, World.size_setCell] at zw1
  have HO1 := Lib.hid O1
  clear O1 hb1
  go_wp2_with fail
  refine (wk2 _).mono ?_
  rintro e w2 ⟨rfl, hb2⟩
  have O2 := Own.grow' hb2 HO1.out
  try simp only [List.setIfInBounds_toArray, List.set_cons_zero, List.set_cons_succ] at O2
  have bw2 : Below w.heap.size w w2 := Below.trans (by go_grown) (Below.mono hb2 (by first | omega | (simp; done) | (simp; omega)))
  have zw2 := Below.size hb2
  try simp only [World.size_alloc, World.size_drew, World.size_setCell] at zw2
  have HO2 := Lib.hid O2
  clear O2 hb2
  go_wp2_with fail
  refine (wk3 _).mono ?_
  rintro e w3 ⟨rfl, hb3⟩
  have O3 := Own.grow' hb3 HO2.out
  try simp only [List.setIfInBounds_toArray, List.set_cons_zero, List.set_cons_succ] at O3
  have bw3 : Below w.heap.size w w3 := Below.trans (by go_grown) (Below.mono hb3 (by first | omega | (simp; done) | (simp; omega)))
  have zw3 := Below.size hb3
  try simp only [World.size_alloc, World.size_drew, World.size_setCell] at zw3
  have HO3 := Lib.hid O3
  clear O3 hb3
  go_wp2_with fail
  refine (wk4 _).mono ?_
  rintro e w4 ⟨rfl, hb4⟩
  have O4 := Own.grow' hb4 HO3.out
  try simp only [List.setIfInBounds_toArray, List.set_cons_zero, List.set_cons_succ] at O4
  have bw4 : Below w.heap.size w w4 := Below.trans (by go_grown) (Below.mono hb4 (by first | omega | (simp; done) | (simp; omega)))
  have zw4 := Below.size hb4
  try simp only [World.size_alloc, World.size_drew, World.size_setCell] at zw4
  have HO4 := Lib.hid O4
  clear O4 hb4
  go_wp2_with fail
  refine (wk5 _).mono ?_
  rintro e w5 ⟨rfl, hb5⟩
  have O5 := Own.grow' hb5 HO4.out
  try simp only [List.setIfInBounds_toArray, List.set_cons_zero, List.set_cons_succ] at O5
  have bw5 : Below w.heap.size w w5 := Below.trans (by go_grown) (Below.mono hb5 (by first | omega | (simp; done) | (simp; omega)))
  have zw5 := Below.size hb5
  try simp only [World.size_alloc, World.size_drew, World.size_setCell] at zw5
  have HO5 := Lib.hid O5
  clear O5 hb5
  go_wp2_with fail
  refine (wk6 _).mono ?_
  rintro e w6 ⟨rfl, hb6⟩
  have O6 := Own.grow' hb6 HO5.out
  try simp only [List.setIfInBounds_toArray, List.set_cons_zero, List.set_cons_succ] at O6
  have bw6 : Below w.heap.size w w6 := Below.trans (by go_grown) (Below.mono hb6 (by first | omega | (simp; done) | (simp; omega)))
  have zw6 := Below.size hb6
  try simp only [World.size_alloc, World.size_drew, World.size_setCell] at zw6
  have HO6 := Lib.hid O6
  clear O6 hb6
  go_wp2_with fail
  refine (wk7 _).mono ?_
  rintro e w7 ⟨rfl, hb7⟩
  have O7 := Own.grow' hb7 HO6.out
  try simp only [List.setIfInBounds_toArray, List.set_cons_zero, List.set_cons_succ] at O7
  have bw7 : Below w.heap.size w w7 := Below.trans (by go_grown) (Below.mono hb7 (by first | omega | (simp; done) | (simp; omega)))
  have zw7 := Below.size hb7
  try simp only [World.size_alloc, World.size_drew, World.size_setCell] at zw7
  have HO7 := Lib.hid O7
  clear O7 hb7
  go_wp2_with fail
  refine (wk8 _).mono ?_
  rintro e w8 ⟨rfl, hb8⟩
  have O8 := Own.grow' hb8 HO7.out
  try simp only [List.setIfInBounds_toArray, List.set_cons_zero, List.set_cons_succ] at O8
  have bw8 : Below w.heap.size w w8 := Below.trans (by go_grown) (Below.mono hb8 (by first | omega | (simp; done) | (simp; omega)))
  have zw8 := Below.size hb8
  try simp only [World.size_alloc, World.size_drew, World.size_setCell] at zw8
  have HO8 := Lib.hid O8
  clear O8 hb8
  go_wp2_with fail
  refine (num_any _ _).mono ?_
  rintro e w' ⟨rfl, rfl⟩
  go_wp2_with fail
  refine (num_any _ _).mono ?_
  rintro e w' ⟨rfl, rfl⟩
  go_wp2_with fail
  refine (num_any _ _).mono ?_
  rintro e w' ⟨rfl, rfl⟩
  go_wp2_with fail
  refine (num_any _ _).mono ?_
  rintro e w' ⟨rfl, rfl⟩
  go_wp2_with fail
  refine (num_any _ _).mono ?_
  rintro e w' ⟨rfl, rfl⟩
  go_wp2_with fail
  refine (wk9 _ _ _ _ _ (Own.get (Own.new (Own.new HO8.out (w8.heap.size) rfl) (w8.heap.size + 1) (by simp)) 0 rfl) (Own.get (Own.new (Own.new HO8.out (w8.heap.size) rfl) (w8.heap.size + 1) (by simp)) 1 rfl)).mono ?_
  rintro e w9 ⟨rfl, hb9⟩
  have O9 := Own.grow' hb9 (Own.new (Own.new HO8.out (w8.heap.size) rfl) (w8.heap.size + 1) (by simp))
  try simp only [List.setIfInBounds_toArray, List.set_cons_zero, List.set_cons_succ] at O9
  have bw9 : Below w.heap.size w w9 := Below.trans (by go_grown) (Below.mono hb9 (by first | omega | (simp; done) | (simp; omega)))
  have zw9 := Below.size hb9
  try simp only [World.size_alloc, World.size_drew, World.size_setCell] at zw9
  have c9x0 := Own.cell O9 0 rfl
  have f9x0 := Own.free O9 0 rfl
  have l9x0 := Own.lt O9 0 rfl
  have l9x0d0 := le_up 0 l9x0
  have l9x0d1 := le_up 1 l9x0
  simp only [upN] at l9x0d0 l9x0d1
  have c9x1 := Own.cell O9 1 rfl
  have f9x1 := Own.free O9 1 rfl
  have l9x1 := Own.lt O9 1 rfl
  have l9x1d0 := le_up 0 l9x1
  have l9x1d1 := le_up 1 l9x1
  simp only [upN] at l9x1d0 l9x1d1
  have HO9 := Lib.hid O9
  clear O9 hb9
  go_wp2_with fail
  go_ret
  exact ⟨rfl, by go_grown⟩
end Go.Proofs.Ytclgoamhbakdlaa
