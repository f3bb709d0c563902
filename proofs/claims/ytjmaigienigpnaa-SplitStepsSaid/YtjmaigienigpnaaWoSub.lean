/- Differences of words. No condition. -/
import Derived.Test.YtjmaigienigpnaaWordA
import Derived.Test.YtjmaigienigpnaaReg
import Derived.Shelf.Spec.BitsCarry
set_option linter.unusedVariables false
set_option linter.unusedSimpArgs false
namespace Go.Proofs.Ytjmaigienigpnaa
open Go.RowKit

theorem run_sub (x y c : Int) (hx : 0 ≤ x) (hx' : x < 18446744073709551616) (hy : 0 ≤ y) (hy' : y < 18446744073709551616) (hc0 : 0 ≤ c) (hc : c ≤ 1) (w : World) :
    (callFunc 59 #[.int .u64 x, .int .u64 y, .int .u64 c]).run Try.prog w = .ok (.value (.tuple #[.int .u64 (sLo x y c), .int .u64 (sHi x y c)])) w := by
  rw [run_callFunc_extern (P := Try.prog) Try.func59 (by kernel_rfl) (by kernel_rfl) (by kernel_rfl) (e := sub64Entry) (by kernel_rfl)]
  obtain ⟨k, rfl⟩ := Int.eq_ofNat_of_zero_le hc0
  obtain ⟨X, rfl⟩ := Int.eq_ofNat_of_zero_le hx
  obtain ⟨Y, rfl⟩ := Int.eq_ofNat_of_zero_le hy
  rw [run_sub64 X Y k (by omega), sLo_eq, sHi_eq]
  simp only [Result.andThen]
  have e1 : (((X + 18446744073709551616 - Y - k) % 18446744073709551616 : Nat) : Int) = ((X : Int) - Y - k) % 18446744073709551616 := by omega
  have e2 : ((if X < Y + k then 1 else 0 : Nat) : Int) = if (X : Int) < Y + k then 1 else 0 := by split <;> split <;> omega
  rw [e1, e2]
/-- What the sum's place holds behind k rounds. -/
def subRow (x y : BitVec 256) : Nat → Array Value
  | 0 => #[.int .u64 0, .int .u64 0, .int .u64 0, .int .u64 0]
  | 1 => #[.int .u64 (sLo (L x 0) (L y 0) 0), .int .u64 0, .int .u64 0, .int .u64 0]
  | 2 => #[.int .u64 (sLo (L x 0) (L y 0) 0), .int .u64 (sLo (L x 1) (L y 1) (d1 x y)), .int .u64 0, .int .u64 0]
  | 3 => #[.int .u64 (sLo (L x 0) (L y 0) 0), .int .u64 (sLo (L x 1) (L y 1) (d1 x y)), .int .u64 (sLo (L x 2) (L y 2) (d2 x y)), .int .u64 0]
  | _ => #[.int .u64 (sLo (L x 0) (L y 0) 0), .int .u64 (sLo (L x 1) (L y 1) (d1 x y)), .int .u64 (sLo (L x 2) (L y 2) (d2 x y)), .int .u64 (sLo (L x 3) (L y 3) (d3 x y))]
def subC (x y : BitVec 256) : Nat → Int
  | 0 => 0
  | 1 => d1 x y
  | 2 => d2 x y
  | 3 => d3 x y
  | _ => sHi (L x 3) (L y 3) (d3 x y)

set_option maxHeartbeats 1000000 in
theorem fold_sub (x y : BitVec 256) (w : World) :
    Calls Try.prog 58 #[W x, W y, .func (.func 59) #[] #[]] w fun e w' => e = .returned (W (x - y)) ∧ Below w.heap.size w w' := by
  have hadd := run_sub
  have xh0 := L_hi x 0; have xh1 := L_hi x 1; have xh2 := L_hi x 2; have xh3 := L_hi x 3
  have yh0 := L_hi y 0; have yh1 := L_hi y 1; have yh2 := L_hi y 2; have yh3 := L_hi y 3
  have hsd := setCell_drewN
  have x0 := L_lo x 0; have x1 := L_lo x 1; have x2 := L_lo x 2; have x3 := L_lo x 3
  have y0 := L_lo y 0; have y1 := L_lo y 1; have y2 := L_lo y 2; have y3 := L_lo y 3
  have k1 := (d1_bd x y).1; have k1' := (d1_bd x y).2
  have k2 := (d2_bd x y).1; have k2' := (d2_bd x y).2
  have k3 := (d3_bd x y).1; have k3' := (d3_bd x y).2
  go_enter Try.func58, Try.ntmps58
  go_wp2_with fail
  go_loopw [7, 9] (fun c i wr => ∃ k nd : Nat, k ≤ 4 ∧ i = .int .i64 k ∧ c = .int .u64 (subC x y k) ∧ wr = (((w.alloc (.cells #[.int .u64 (L x 0), .int .u64 (L x 1), .int .u64 (L x 2), .int .u64 (L x 3)] 78)).alloc (.cells #[.int .u64 (L y 0), .int .u64 (L y 1), .int .u64 (L y 2), .int .u64 (L y 3)] 24)).alloc (.cells (subRow x y k) 24)).drewN nd)
    (fun _ i _ => 4 - (intOf i).toNat)
  case atStart => exact ⟨0, 0, by omega, rfl, rfl, rfl⟩
  case round =>
    obtain ⟨k, nd, hk, rfl, rfl, rfl⟩ := hrel
    rcases (by omega : k = 4 ∨ k = 0 ∨ k = 1 ∨ k = 2 ∨ k = 3) with rfl | rfl | rfl | rfl | rfl
    · simp only [subRow, subC]
      go_wp2_with fail
      go_returns
      obtain ⟨q0, q1, q2, q3⟩ := sub_parts x y
      refine ⟨by simp only [q0, q1, q2, q3], below_drewN ?_ _⟩
      go_grown
    all_goals
      simp only [subRow, subC]
      go_wp2_with fail
      go_region_with fail
      all_goals go_wp2_with fail
      all_goals go_roundw
    all_goals first | exact ⟨1, nd + 1, by omega, rfl, rfl, rfl⟩ | exact ⟨2, nd + 1, by omega, rfl, rfl, rfl⟩ | exact ⟨3, nd + 1, by omega, rfl, rfl, rfl⟩ | exact ⟨4, nd + 1, by omega, rfl, rfl, rfl⟩ | (simp [intOf]; done)
set_option maxHeartbeats 1000000 in
theorem subW_any (x y : BitVec 256) (w : World) : Calls Try.prog 55 #[W x, W y] w fun e w' => e = .returned (W (x - y)) ∧ Below w.heap.size w w' := by
  have HF := Lib.hid (fun V => fold_sub x y V)
  have hfl : ∀ V : World, (Instr.field 80 (.agg #[.int .u64 (L x 0), .int .u64 (L x 1), .int .u64 (L x 2), .int .u64 (L x 3)]) 0).run Try.prog V = .ok (.agg #[.int .u64 (L x 0), .int .u64 (L x 1), .int .u64 (L x 2), .int .u64 (L x 3)]) V := fun _ => by kernel_rfl
  go_enter Try.func55, Try.ntmps55
  go_wp2_with fail
  refine (HF.out _).mono ?_
  rintro e w1 ⟨rfl, hb1⟩
  have O1 := Own.grow' hb1 (Own.new (Own.new (Own.new (Own.nil w) (w.heap.size) (by first | rfl | simp)) (w.heap.size + 1) (by simp)) (w.heap.size + 1 + 1) (by simp))
  try simp only [List.setIfInBounds_toArray, List.set_cons_zero, List.set_cons_succ] at O1
  have bw1 : Below w.heap.size w w1 := Below.trans (by go_grown) (Below.mono hb1 (by first | omega | (simp; done) | (simp; omega)))
  have zw1 := Below.size hb1
  try simp only [World.size_alloc, World.size_drew, World.size_setCell] at zw1
  have c1x0 := Own.cell O1 0 rfl
  have f1x0 := Own.free O1 0 rfl
  have l1x0 := Own.lt O1 0 rfl
  have l1x0d0 := le_up 0 l1x0
  have l1x0d1 := le_up 1 l1x0
  simp only [upN] at l1x0d0 l1x0d1
  have c1x1 := Own.cell O1 1 rfl
  have f1x1 := Own.free O1 1 rfl
  have l1x1 := Own.lt O1 1 rfl
  have l1x1d0 := le_up 0 l1x1
  have l1x1d1 := le_up 1 l1x1
  simp only [upN] at l1x1d0 l1x1d1
  have c1x2 := Own.cell O1 2 rfl
  have f1x2 := Own.free O1 2 rfl
  have l1x2 := Own.lt O1 2 rfl
  have l1x2d0 := le_up 0 l1x2
  have l1x2d1 := le_up 1 l1x2
  simp only [upN] at l1x2d0 l1x2d1
  have HO1 := Lib.hid O1
  clear O1 hb1
  go_wp2_with fail
  refine bodyPost_ret (v := W (x - y)) (by simp [results, Try.results55, go_sem, *]) rfl ?_
  exact ⟨rfl, by go_grown⟩
end Go.Proofs.Ytjmaigienigpnaa
