/- The law StoreRefunds, any list. No condition. -/
import Derived.Test.YtiglfbnicihpmaaStoreY
set_option linter.unusedVariables false
set_option linter.unusedSimpArgs false
set_option maxRecDepth 100000
namespace Go.Proofs.Ytiglfbnicihpmaa
open Go.RowKit

theorem rf_short_ev (g : Kn) (A : Option Addr) (zs : List Vl) (c : Nat) (many : Int) (h : AllE [(decide (((rowV A zs [(1, 1)]).n : Int) < 3), true)]) : Is (evCall (ER (rowsV A zs)) 60 4 [.agg (kA g), .rsl 0 (rowV A zs [(1, 1)]).n c, .int .i64 false many] ⟨[], [true], fun _ => true⟩ (fun v _ => v = .bool true true)) :=
  ev_eq [(decide (((rowV A zs [(1, 1)]).n : Int) < 3), true)] (AV.bool true true) (by kernel_rfl) h
theorem rf_much_ev (g : Kn) (A : Option Addr) (zs : List Vl) (c : Nat) (many : Int) (h : AllE [(decide (((rowV A zs [(1, 1)]).n : Int) < 3), false), (decide (((rowV A zs [(1, 1)]).n : Int) > 20), true)]) : Is (evCall (ER (rowsV A zs)) 60 4 [.agg (kA g), .rsl 0 (rowV A zs [(1, 1)]).n c, .int .i64 false many] ⟨[], [false, true], fun _ => true⟩ (fun v _ => v = .bool true true)) :=
  ev_eq [(decide (((rowV A zs [(1, 1)]).n : Int) < 3), false), (decide (((rowV A zs [(1, 1)]).n : Int) > 20), true)] (AV.bool true true) (by kernel_rfl) h
theorem refunds_any (A : Option Addr) (g : Kn) (zs : List Vl) (c : Nat) (many : Int) (w : World) (hS : SlAt w A (zs.flatMap Vl.cells)) (hcap : zs.length ≤ c) (hg : Tame g) (hU : ∀ x ∈ zs, U x.l) :
    Calls Try.prog 4 #[.agg #[.int .u64 g.l, .int .u64 g.lo, .int .u64 g.hi, .int .u64 g.a], .slice A zs.length c, .int .i64 many] w fun e w' => e = .returned (.bool true) ∧ Below w.heap.size w w' := by
  have hrow : RwOK (rowsV A zs) ∧ Rd (rowsV A zs) [] w := by
    rcases Nat.eq_zero_or_pos zs.length with h0 | h0
    · refine ⟨rowsV_ok fun h => absurd h (by omega), fun j r hj b off ha hn => ?_⟩
      rcases rowsV_inv hj with ⟨_, rfl⟩ | ⟨_, rfl⟩
      · exact absurd hn (by show ¬ 0 < zs.length; omega)
      · exact absurd hn (by show ¬ 0 < zs.tail.length; simp; omega)
    · obtain ⟨h1, h2⟩ := rowsV_rd hS h0
      exact ⟨rowsV_ok fun _ => h1, h2⟩
  have hE := hER hrow.1
  have hrel : RelL (rowsV A zs) [] [.agg (kA g), .rsl 0 (rowV A zs [(1, 1)]).n c, .int .i64 false many] [.agg #[.int .u64 g.l, .int .u64 g.lo, .int .u64 g.hi, .int .u64 g.a], .slice A zs.length c, .int .i64 many] := .cons (.agg (RelL.of_vals (vals_kA g))) (.cons (.rsl rfl (by exact hcap)) (.cons .int .nil))
  by_cases h3 : zs.length < 3
  · exact ev_calls_rd hE 60 (rf_short_ev g A zs c many (allE_cons (by show decide (((zs.length : Nat) : Int) < 3) = true; simp; omega) allE_nil)).is rfl hrel w hrow.2
  by_cases h20 : 20 < zs.length
  · exact ev_calls_rd hE 60 (rf_much_ev g A zs c many (allE_cons (by show decide (((zs.length : Nat) : Int) < 3) = false; simp; omega) (allE_cons (by show decide (((zs.length : Nat) : Int) > 20) = true; simp; omega) allE_nil))).is rfl hrel w hrow.2
  rcases zs with _ | ⟨x0, xs⟩
  · exact absurd h3 (by simp)
  · simp only [List.length_cons] at h3 h20 hcap
    exact refunds_long A g x0 xs c many w hS hcap (by omega) (by omega) hg (hU x0 (by simp))
end Go.Proofs.Ytiglfbnicihpmaa
