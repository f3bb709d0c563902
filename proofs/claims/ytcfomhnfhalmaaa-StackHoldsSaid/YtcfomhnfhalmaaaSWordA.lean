/- Walks of package word: sums and differences of words. -/
import Derived.Test.YtcfomhnfhalmaaaProg
import Derived.Test.YtcfomhnfhalmaaaWords
import Derived.WalkKit
import Derived.WalkSpells
import Derived.WalkLawsBesides
import Derived.Lib.Hide
import Derived.Handy
import Derived.Deep.RegionWith
import Derived.Deep.LoopGhost
set_option linter.unusedVariables false
set_option linter.unusedSimpArgs false
namespace Go.Proofs.Ytcfomhnfhalmaaa
open Go.RowKit

theorem run_add (x y c : Int) (hx : 0 ≤ x) (hy : 0 ≤ y) (hc0 : 0 ≤ c) (hc : c ≤ 1) (w : World) :
    (callFunc 102 #[.int .u64 x, .int .u64 y, .int .u64 c]).run Try.prog w = .ok (.value (.tuple #[.int .u64 (aLo x y c), .int .u64 (aHi x y c)])) w := by
  rw [run_callFunc_extern (P := Try.prog) Try.func102 (by kernel_rfl) (by kernel_rfl) (by kernel_rfl) (e := add64Entry) (by kernel_rfl)]
  rw [run_add64 x y c hx hy hc0 hc, aLo_eq, aHi_eq]
  rfl

theorem setCell_drewN (w : World) (n : Nat) (a : Addr) (v : Value) : (w.drewN n).setCell a v = (w.setCell a v).drewN n := rfl

/-- What the sum's place holds behind k rounds. -/
def addRow (x y : BitVec 256) : Nat → Array Value
  | 0 => #[.int .u64 0, .int .u64 0, .int .u64 0, .int .u64 0]
  | 1 => #[.int .u64 (aLo (L x 0) (L y 0) 0), .int .u64 0, .int .u64 0, .int .u64 0]
  | 2 => #[.int .u64 (aLo (L x 0) (L y 0) 0), .int .u64 (aLo (L x 1) (L y 1) (c1 x y)), .int .u64 0, .int .u64 0]
  | 3 => #[.int .u64 (aLo (L x 0) (L y 0) 0), .int .u64 (aLo (L x 1) (L y 1) (c1 x y)), .int .u64 (aLo (L x 2) (L y 2) (c2 x y)), .int .u64 0]
  | _ => #[.int .u64 (aLo (L x 0) (L y 0) 0), .int .u64 (aLo (L x 1) (L y 1) (c1 x y)), .int .u64 (aLo (L x 2) (L y 2) (c2 x y)), .int .u64 (aLo (L x 3) (L y 3) (cc3 x y))]
def addC (x y : BitVec 256) : Nat → Int
  | 0 => 0
  | 1 => c1 x y
  | 2 => c2 x y
  | 3 => cc3 x y
  | _ => aHi (L x 3) (L y 3) (cc3 x y)

set_option maxHeartbeats 1000000 in
theorem fold_add (x y : BitVec 256) (w : World) :
    Calls Try.prog 101 #[W x, W y, .func (.func 102) #[] #[]] w fun e w' => e = .returned (W (x + y)) ∧ Below w.heap.size w w' := by
  have hadd := run_add
  have hsd := setCell_drewN
  have x0 := L_lo x 0; have x1 := L_lo x 1; have x2 := L_lo x 2; have x3 := L_lo x 3
  have y0 := L_lo y 0; have y1 := L_lo y 1; have y2 := L_lo y 2; have y3 := L_lo y 3
  have k1 := (c1_bd x y).1; have k1' := (c1_bd x y).2
  have k2 := (c2_bd x y).1; have k2' := (c2_bd x y).2
  have k3 := (c3_bd x y).1; have k3' := (c3_bd x y).2
  go_enter Try.func101, Try.ntmps101
  go_wp2_with fail
  go_loopw [7, 9] (fun c i wr => ∃ k nd : Nat, k ≤ 4 ∧ i = .int .i64 k ∧ c = .int .u64 (addC x y k) ∧ wr = (((w.alloc (.cells #[.int .u64 (L x 0), .int .u64 (L x 1), .int .u64 (L x 2), .int .u64 (L x 3)] 143)).alloc (.cells #[.int .u64 (L y 0), .int .u64 (L y 1), .int .u64 (L y 2), .int .u64 (L y 3)] 32)).alloc (.cells (addRow x y k) 32)).drewN nd)
    (fun _ i _ => 4 - (intOf i).toNat)
  case atStart => exact ⟨0, 0, by omega, rfl, rfl, rfl⟩
  case round =>
    obtain ⟨k, nd, hk, rfl, rfl, rfl⟩ := hrel
    rcases (by omega : k = 4 ∨ k = 0 ∨ k = 1 ∨ k = 2 ∨ k = 3) with rfl | rfl | rfl | rfl | rfl
    · simp only [addRow, addC]
      go_wp2_with fail
      go_returns
      obtain ⟨q0, q1, q2, q3⟩ := add_parts x y
      refine ⟨by simp only [q0, q1, q2, q3], below_drewN ?_ _⟩
      go_grown
    all_goals
      simp only [addRow, addC]
      go_wp2_with fail
      go_region_with fail
      all_goals go_wp2_with fail
      all_goals go_roundw
    all_goals first | exact ⟨1, nd + 1, by omega, rfl, rfl, rfl⟩ | exact ⟨2, nd + 1, by omega, rfl, rfl, rfl⟩ | exact ⟨3, nd + 1, by omega, rfl, rfl, rfl⟩ | exact ⟨4, nd + 1, by omega, rfl, rfl, rfl⟩ | (simp [intOf]; done)
end Go.Proofs.Ytcfomhnfhalmaaa
