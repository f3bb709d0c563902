/- The document on the rounds numbers. No condition. -/
import Derived.Test.YtojmifniidddpaaDigC
set_option linter.unusedVariables false
set_option linter.unusedSimpArgs false
set_option maxRecDepth 100000
namespace Go.Proofs.Ytojmifniidddpaa
open Go.RowKit

theorem constant0 : Is (evCall E0 600 14 [.int .i64 true 0] ⟨[], [], 0⟩ (fun v _ => v = .int .u64 true 1)) := ev_of (r := .int .u64 true 1) (by kernel_rfl)
theorem constant1 : Is (evCall E0 600 14 [.int .i64 true 1] ⟨[], [], 0⟩ (fun v _ => v = .int .u64 true 32898)) := ev_of (r := .int .u64 true 32898) (by kernel_rfl)
theorem constant2 : Is (evCall E0 600 14 [.int .i64 true 2] ⟨[], [], 0⟩ (fun v _ => v = .int .u64 true 9223372036854808714)) := ev_of (r := .int .u64 true 9223372036854808714) (by kernel_rfl)
theorem constant3 : Is (evCall E0 600 14 [.int .i64 true 3] ⟨[], [], 0⟩ (fun v _ => v = .int .u64 true 9223372039002292224)) := ev_of (r := .int .u64 true 9223372039002292224) (by kernel_rfl)
theorem constant4 : Is (evCall E0 600 14 [.int .i64 true 4] ⟨[], [], 0⟩ (fun v _ => v = .int .u64 true 32907)) := ev_of (r := .int .u64 true 32907) (by kernel_rfl)
theorem constant5 : Is (evCall E0 600 14 [.int .i64 true 5] ⟨[], [], 0⟩ (fun v _ => v = .int .u64 true 2147483649)) := ev_of (r := .int .u64 true 2147483649) (by kernel_rfl)
theorem constant6 : Is (evCall E0 600 14 [.int .i64 true 6] ⟨[], [], 0⟩ (fun v _ => v = .int .u64 true 9223372039002292353)) := ev_of (r := .int .u64 true 9223372039002292353) (by kernel_rfl)
theorem constant7 : Is (evCall E0 600 14 [.int .i64 true 7] ⟨[], [], 0⟩ (fun v _ => v = .int .u64 true 9223372036854808585)) := ev_of (r := .int .u64 true 9223372036854808585) (by kernel_rfl)
theorem constant8 : Is (evCall E0 600 14 [.int .i64 true 8] ⟨[], [], 0⟩ (fun v _ => v = .int .u64 true 138)) := ev_of (r := .int .u64 true 138) (by kernel_rfl)
theorem constant9 : Is (evCall E0 600 14 [.int .i64 true 9] ⟨[], [], 0⟩ (fun v _ => v = .int .u64 true 136)) := ev_of (r := .int .u64 true 136) (by kernel_rfl)
theorem constant10 : Is (evCall E0 600 14 [.int .i64 true 10] ⟨[], [], 0⟩ (fun v _ => v = .int .u64 true 2147516425)) := ev_of (r := .int .u64 true 2147516425) (by kernel_rfl)
theorem constant11 : Is (evCall E0 600 14 [.int .i64 true 11] ⟨[], [], 0⟩ (fun v _ => v = .int .u64 true 2147483658)) := ev_of (r := .int .u64 true 2147483658) (by kernel_rfl)
theorem constant12 : Is (evCall E0 600 14 [.int .i64 true 12] ⟨[], [], 0⟩ (fun v _ => v = .int .u64 true 2147516555)) := ev_of (r := .int .u64 true 2147516555) (by kernel_rfl)
theorem constant13 : Is (evCall E0 600 14 [.int .i64 true 13] ⟨[], [], 0⟩ (fun v _ => v = .int .u64 true 9223372036854775947)) := ev_of (r := .int .u64 true 9223372036854775947) (by kernel_rfl)
theorem constant14 : Is (evCall E0 600 14 [.int .i64 true 14] ⟨[], [], 0⟩ (fun v _ => v = .int .u64 true 9223372036854808713)) := ev_of (r := .int .u64 true 9223372036854808713) (by kernel_rfl)
theorem constant15 : Is (evCall E0 600 14 [.int .i64 true 15] ⟨[], [], 0⟩ (fun v _ => v = .int .u64 true 9223372036854808579)) := ev_of (r := .int .u64 true 9223372036854808579) (by kernel_rfl)
theorem constant16 : Is (evCall E0 600 14 [.int .i64 true 16] ⟨[], [], 0⟩ (fun v _ => v = .int .u64 true 9223372036854808578)) := ev_of (r := .int .u64 true 9223372036854808578) (by kernel_rfl)
theorem constant17 : Is (evCall E0 600 14 [.int .i64 true 17] ⟨[], [], 0⟩ (fun v _ => v = .int .u64 true 9223372036854775936)) := ev_of (r := .int .u64 true 9223372036854775936) (by kernel_rfl)
theorem constant18 : Is (evCall E0 600 14 [.int .i64 true 18] ⟨[], [], 0⟩ (fun v _ => v = .int .u64 true 32778)) := ev_of (r := .int .u64 true 32778) (by kernel_rfl)
theorem constant19 : Is (evCall E0 600 14 [.int .i64 true 19] ⟨[], [], 0⟩ (fun v _ => v = .int .u64 true 9223372039002259466)) := ev_of (r := .int .u64 true 9223372039002259466) (by kernel_rfl)
theorem constant20 : Is (evCall E0 600 14 [.int .i64 true 20] ⟨[], [], 0⟩ (fun v _ => v = .int .u64 true 9223372039002292353)) := ev_of (r := .int .u64 true 9223372039002292353) (by kernel_rfl)
theorem constant21 : Is (evCall E0 600 14 [.int .i64 true 21] ⟨[], [], 0⟩ (fun v _ => v = .int .u64 true 9223372036854808704)) := ev_of (r := .int .u64 true 9223372036854808704) (by kernel_rfl)
theorem constant22 : Is (evCall E0 600 14 [.int .i64 true 22] ⟨[], [], 0⟩ (fun v _ => v = .int .u64 true 2147483649)) := ev_of (r := .int .u64 true 2147483649) (by kernel_rfl)
theorem constant23 : Is (evCall E0 600 14 [.int .i64 true 23] ⟨[], [], 0⟩ (fun v _ => v = .int .u64 true 9223372039002292232)) := ev_of (r := .int .u64 true 9223372039002292232) (by kernel_rfl)
theorem below24 {P : Nat → Prop} (h0 : P 0) (h1 : P 1) (h2 : P 2) (h3 : P 3) (h4 : P 4) (h5 : P 5) (h6 : P 6) (h7 : P 7) (h8 : P 8) (h9 : P 9) (h10 : P 10) (h11 : P 11) (h12 : P 12) (h13 : P 13) (h14 : P 14) (h15 : P 15) (h16 : P 16) (h17 : P 17) (h18 : P 18) (h19 : P 19) (h20 : P 20) (h21 : P 21) (h22 : P 22) (h23 : P 23) : ∀ n, n < 24 → P n
  | 0, _ => h0
  | 1, _ => h1
  | 2, _ => h2
  | 3, _ => h3
  | 4, _ => h4
  | 5, _ => h5
  | 6, _ => h6
  | 7, _ => h7
  | 8, _ => h8
  | 9, _ => h9
  | 10, _ => h10
  | 11, _ => h11
  | 12, _ => h12
  | 13, _ => h13
  | 14, _ => h14
  | 15, _ => h15
  | 16, _ => h16
  | 17, _ => h17
  | 18, _ => h18
  | 19, _ => h19
  | 20, _ => h20
  | 21, _ => h21
  | 22, _ => h22
  | 23, _ => h23
  | n + 24, h => absurd h (by omega)
def constN (r : Int) : Int := consts.getD r.toNat 0
def constB (r : Int) : BitVec 64 := BitVec.ofInt 64 (constN r)
theorem told_int (n : Int) : (AV.int .u64 true n).told? = some (.int .u64 n) := rfl
theorem constB_toNat {n : Nat} (h : n < 24) : ((constB n).toNat : Int) = constN n := by
  exact below24 (P := fun n => ((constB (n : Nat)).toNat : Int) = constN (n : Nat)) (by kernel_rfl) (by kernel_rfl) (by kernel_rfl) (by kernel_rfl) (by kernel_rfl) (by kernel_rfl) (by kernel_rfl) (by kernel_rfl) (by kernel_rfl) (by kernel_rfl) (by kernel_rfl) (by kernel_rfl) (by kernel_rfl) (by kernel_rfl) (by kernel_rfl) (by kernel_rfl) (by kernel_rfl) (by kernel_rfl) (by kernel_rfl) (by kernel_rfl) (by kernel_rfl) (by kernel_rfl) (by kernel_rfl) (by kernel_rfl) n h
theorem constant0_calls (w : World) : Calls Try.prog 14 #[.int .i64 ((0 : Nat) : Int)] w fun e w' => e = .returned (.int .u64 (constN ((0 : Nat) : Int))) ∧ Below w.heap.size w w' := by
  have e : constN ((0 : Nat) : Int) = 1 := by kernel_rfl
  rw [e]
  exact ev_calls hE0 600 constant0.is (told_int _) (.cons .int .nil) w
theorem constant1_calls (w : World) : Calls Try.prog 14 #[.int .i64 ((1 : Nat) : Int)] w fun e w' => e = .returned (.int .u64 (constN ((1 : Nat) : Int))) ∧ Below w.heap.size w w' := by
  have e : constN ((1 : Nat) : Int) = 32898 := by kernel_rfl
  rw [e]
  exact ev_calls hE0 600 constant1.is (told_int _) (.cons .int .nil) w
theorem constant2_calls (w : World) : Calls Try.prog 14 #[.int .i64 ((2 : Nat) : Int)] w fun e w' => e = .returned (.int .u64 (constN ((2 : Nat) : Int))) ∧ Below w.heap.size w w' := by
  have e : constN ((2 : Nat) : Int) = 9223372036854808714 := by kernel_rfl
  rw [e]
  exact ev_calls hE0 600 constant2.is (told_int _) (.cons .int .nil) w
theorem constant3_calls (w : World) : Calls Try.prog 14 #[.int .i64 ((3 : Nat) : Int)] w fun e w' => e = .returned (.int .u64 (constN ((3 : Nat) : Int))) ∧ Below w.heap.size w w' := by
  have e : constN ((3 : Nat) : Int) = 9223372039002292224 := by kernel_rfl
  rw [e]
  exact ev_calls hE0 600 constant3.is (told_int _) (.cons .int .nil) w
theorem constant4_calls (w : World) : Calls Try.prog 14 #[.int .i64 ((4 : Nat) : Int)] w fun e w' => e = .returned (.int .u64 (constN ((4 : Nat) : Int))) ∧ Below w.heap.size w w' := by
  have e : constN ((4 : Nat) : Int) = 32907 := by kernel_rfl
  rw [e]
  exact ev_calls hE0 600 constant4.is (told_int _) (.cons .int .nil) w
theorem constant5_calls (w : World) : Calls Try.prog 14 #[.int .i64 ((5 : Nat) : Int)] w fun e w' => e = .returned (.int .u64 (constN ((5 : Nat) : Int))) ∧ Below w.heap.size w w' := by
  have e : constN ((5 : Nat) : Int) = 2147483649 := by kernel_rfl
  rw [e]
  exact ev_calls hE0 600 constant5.is (told_int _) (.cons .int .nil) w
theorem constant6_calls (w : World) : Calls Try.prog 14 #[.int .i64 ((6 : Nat) : Int)] w fun e w' => e = .returned (.int .u64 (constN ((6 : Nat) : Int))) ∧ Below w.heap.size w w' := by
  have e : constN ((6 : Nat) : Int) = 9223372039002292353 := by kernel_rfl
  rw [e]
  exact ev_calls hE0 600 constant6.is (told_int _) (.cons .int .nil) w
theorem constant7_calls (w : World) : Calls Try.prog 14 #[.int .i64 ((7 : Nat) : Int)] w fun e w' => e = .returned (.int .u64 (constN ((7 : Nat) : Int))) ∧ Below w.heap.size w w' := by
  have e : constN ((7 : Nat) : Int) = 9223372036854808585 := by kernel_rfl
  rw [e]
  exact ev_calls hE0 600 constant7.is (told_int _) (.cons .int .nil) w
theorem constant8_calls (w : World) : Calls Try.prog 14 #[.int .i64 ((8 : Nat) : Int)] w fun e w' => e = .returned (.int .u64 (constN ((8 : Nat) : Int))) ∧ Below w.heap.size w w' := by
  have e : constN ((8 : Nat) : Int) = 138 := by kernel_rfl
  rw [e]
  exact ev_calls hE0 600 constant8.is (told_int _) (.cons .int .nil) w
theorem constant9_calls (w : World) : Calls Try.prog 14 #[.int .i64 ((9 : Nat) : Int)] w fun e w' => e = .returned (.int .u64 (constN ((9 : Nat) : Int))) ∧ Below w.heap.size w w' := by
  have e : constN ((9 : Nat) : Int) = 136 := by kernel_rfl
  rw [e]
  exact ev_calls hE0 600 constant9.is (told_int _) (.cons .int .nil) w
theorem constant10_calls (w : World) : Calls Try.prog 14 #[.int .i64 ((10 : Nat) : Int)] w fun e w' => e = .returned (.int .u64 (constN ((10 : Nat) : Int))) ∧ Below w.heap.size w w' := by
  have e : constN ((10 : Nat) : Int) = 2147516425 := by kernel_rfl
  rw [e]
  exact ev_calls hE0 600 constant10.is (told_int _) (.cons .int .nil) w
theorem constant11_calls (w : World) : Calls Try.prog 14 #[.int .i64 ((11 : Nat) : Int)] w fun e w' => e = .returned (.int .u64 (constN ((11 : Nat) : Int))) ∧ Below w.heap.size w w' := by
  have e : constN ((11 : Nat) : Int) = 2147483658 := by kernel_rfl
  rw [e]
  exact ev_calls hE0 600 constant11.is (told_int _) (.cons .int .nil) w
theorem constant12_calls (w : World) : Calls Try.prog 14 #[.int .i64 ((12 : Nat) : Int)] w fun e w' => e = .returned (.int .u64 (constN ((12 : Nat) : Int))) ∧ Below w.heap.size w w' := by
  have e : constN ((12 : Nat) : Int) = 2147516555 := by kernel_rfl
  rw [e]
  exact ev_calls hE0 600 constant12.is (told_int _) (.cons .int .nil) w
theorem constant13_calls (w : World) : Calls Try.prog 14 #[.int .i64 ((13 : Nat) : Int)] w fun e w' => e = .returned (.int .u64 (constN ((13 : Nat) : Int))) ∧ Below w.heap.size w w' := by
  have e : constN ((13 : Nat) : Int) = 9223372036854775947 := by kernel_rfl
  rw [e]
  exact ev_calls hE0 600 constant13.is (told_int _) (.cons .int .nil) w
theorem constant14_calls (w : World) : Calls Try.prog 14 #[.int .i64 ((14 : Nat) : Int)] w fun e w' => e = .returned (.int .u64 (constN ((14 : Nat) : Int))) ∧ Below w.heap.size w w' := by
  have e : constN ((14 : Nat) : Int) = 9223372036854808713 := by kernel_rfl
  rw [e]
  exact ev_calls hE0 600 constant14.is (told_int _) (.cons .int .nil) w
theorem constant15_calls (w : World) : Calls Try.prog 14 #[.int .i64 ((15 : Nat) : Int)] w fun e w' => e = .returned (.int .u64 (constN ((15 : Nat) : Int))) ∧ Below w.heap.size w w' := by
  have e : constN ((15 : Nat) : Int) = 9223372036854808579 := by kernel_rfl
  rw [e]
  exact ev_calls hE0 600 constant15.is (told_int _) (.cons .int .nil) w
theorem constant16_calls (w : World) : Calls Try.prog 14 #[.int .i64 ((16 : Nat) : Int)] w fun e w' => e = .returned (.int .u64 (constN ((16 : Nat) : Int))) ∧ Below w.heap.size w w' := by
  have e : constN ((16 : Nat) : Int) = 9223372036854808578 := by kernel_rfl
  rw [e]
  exact ev_calls hE0 600 constant16.is (told_int _) (.cons .int .nil) w
theorem constant17_calls (w : World) : Calls Try.prog 14 #[.int .i64 ((17 : Nat) : Int)] w fun e w' => e = .returned (.int .u64 (constN ((17 : Nat) : Int))) ∧ Below w.heap.size w w' := by
  have e : constN ((17 : Nat) : Int) = 9223372036854775936 := by kernel_rfl
  rw [e]
  exact ev_calls hE0 600 constant17.is (told_int _) (.cons .int .nil) w
theorem constant18_calls (w : World) : Calls Try.prog 14 #[.int .i64 ((18 : Nat) : Int)] w fun e w' => e = .returned (.int .u64 (constN ((18 : Nat) : Int))) ∧ Below w.heap.size w w' := by
  have e : constN ((18 : Nat) : Int) = 32778 := by kernel_rfl
  rw [e]
  exact ev_calls hE0 600 constant18.is (told_int _) (.cons .int .nil) w
theorem constant19_calls (w : World) : Calls Try.prog 14 #[.int .i64 ((19 : Nat) : Int)] w fun e w' => e = .returned (.int .u64 (constN ((19 : Nat) : Int))) ∧ Below w.heap.size w w' := by
  have e : constN ((19 : Nat) : Int) = 9223372039002259466 := by kernel_rfl
  rw [e]
  exact ev_calls hE0 600 constant19.is (told_int _) (.cons .int .nil) w
theorem constant20_calls (w : World) : Calls Try.prog 14 #[.int .i64 ((20 : Nat) : Int)] w fun e w' => e = .returned (.int .u64 (constN ((20 : Nat) : Int))) ∧ Below w.heap.size w w' := by
  have e : constN ((20 : Nat) : Int) = 9223372039002292353 := by kernel_rfl
  rw [e]
  exact ev_calls hE0 600 constant20.is (told_int _) (.cons .int .nil) w
theorem constant21_calls (w : World) : Calls Try.prog 14 #[.int .i64 ((21 : Nat) : Int)] w fun e w' => e = .returned (.int .u64 (constN ((21 : Nat) : Int))) ∧ Below w.heap.size w w' := by
  have e : constN ((21 : Nat) : Int) = 9223372036854808704 := by kernel_rfl
  rw [e]
  exact ev_calls hE0 600 constant21.is (told_int _) (.cons .int .nil) w
theorem constant22_calls (w : World) : Calls Try.prog 14 #[.int .i64 ((22 : Nat) : Int)] w fun e w' => e = .returned (.int .u64 (constN ((22 : Nat) : Int))) ∧ Below w.heap.size w w' := by
  have e : constN ((22 : Nat) : Int) = 2147483649 := by kernel_rfl
  rw [e]
  exact ev_calls hE0 600 constant22.is (told_int _) (.cons .int .nil) w
theorem constant23_calls (w : World) : Calls Try.prog 14 #[.int .i64 ((23 : Nat) : Int)] w fun e w' => e = .returned (.int .u64 (constN ((23 : Nat) : Int))) ∧ Below w.heap.size w w' := by
  have e : constN ((23 : Nat) : Int) = 9223372039002292232 := by kernel_rfl
  rw [e]
  exact ev_calls hE0 600 constant23.is (told_int _) (.cons .int .nil) w
theorem constant_calls {n : Nat} (h : n < 24) (w : World) : Calls Try.prog 14 #[.int .i64 (n : Int)] w fun e w' => e = .returned (.int .u64 ((constB (n : Int)).toNat : Int)) ∧ Below w.heap.size w w' := by
  rw [constB_toNat h]
  exact below24 (P := fun n => Calls Try.prog 14 #[.int .i64 (n : Int)] w fun e w' => e = .returned (.int .u64 (constN (n : Int))) ∧ Below w.heap.size w w')
    (constant0_calls w)
    (constant1_calls w)
    (constant2_calls w)
    (constant3_calls w)
    (constant4_calls w)
    (constant5_calls w)
    (constant6_calls w)
    (constant7_calls w)
    (constant8_calls w)
    (constant9_calls w)
    (constant10_calls w)
    (constant11_calls w)
    (constant12_calls w)
    (constant13_calls w)
    (constant14_calls w)
    (constant15_calls w)
    (constant16_calls w)
    (constant17_calls w)
    (constant18_calls w)
    (constant19_calls w)
    (constant20_calls w)
    (constant21_calls w)
    (constant22_calls w)
    (constant23_calls w)
    n h
theorem constant_at {r : Int} (h : 0 ≤ r ∧ r < 24) (w : World) : Calls Try.prog 14 #[.int .i64 r] w fun e w' => e = .returned (.int .u64 ((constB r).toNat : Int)) ∧ Below w.heap.size w w' := by
  have e : r = (r.toNat : Int) := by omega
  rw [e]
  exact constant_calls (by omega) w
end Go.Proofs.Ytojmifniidddpaa
