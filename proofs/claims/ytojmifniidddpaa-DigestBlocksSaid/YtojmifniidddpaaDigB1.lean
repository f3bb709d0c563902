/- What the law DigestBlocks leans on. -/
import Derived.Test.YtojmifniidddpaaDigP
import Derived.Test.YtojmifniidddpaaDigW
import Derived.Test.YtojmifniidddpaaArrEq
set_option linter.unusedVariables false
set_option linter.unusedSimpArgs false
namespace Go.Proofs.Ytojmifniidddpaa
open Go.RowKit

theorem blocksIt_any (A : Option Addr) (xs : List Nat) (cap : Nat) (w : World) (hS : SlAt w A (natC xs)) (hcap : xs.length ≤ cap) (hn : xs.length ≤ 100000) (hnil : A = none → xs = []) (hb8 : ∀ x ∈ xs, x < 256) :
    Calls Try.prog 9 #[.slice A xs.length cap] w fun e w' => ∃ b n0 : Nat, e = .returned (.func (.func 22) #[] #[.pointer (some ⟨b, 0, none⟩)]) ∧ n0 = w'.heap.size ∧
      Seq Try.prog 22 #[.pointer (some ⟨b, 0, none⟩)] (encB (padS xs)) (units (blkN xs.length)) (fun k => k < n0) w' ∧ Below w.heap.size w w' := by
  refine (blocks_any A xs cap w hS hcap hn hnil).mono ?_
  rintro e W2 ⟨b, g, c3, rfl, ⟨hbb, hbg, hgl, hcb, hcc, hcg⟩, hb3⟩
  have hpn := padN_lt xs.length
  have hbm := blkN_mul xs.length
  exact ⟨b, _, rfl, rfl, blocks1_seq b g c3 (blkN xs.length) (xs.length + 1 + padN xs.length) (padS xs) W2 (fun k => k < W2.heap.size) hcb hcg (padS_len xs) hbm hcc (by omega) (padS_lt hb8) (World.block_lt_of_cell? W2 _ hcb) hgl hgl, hb3⟩
theorem neq29 (x : Nat → Nat) (W : World) : (binOp .neq 29 (.agg (lanes x)) (.agg (lanes x))).run Try.prog W = .ok (.bool false) W := by
  have h := neq_ints (P := Try.prog) (t := 29) (e := 28) (len := 17) (k := .u64) (by kernel_rfl) (by kernel_rfl) (by kernel_rfl) W ((List.range 17).map fun q => ((x q : Nat) : Int)) ((List.range 17).map fun q => ((x q : Nat) : Int)) (by simp) (by simp)
  rw [decide_eq_true rfl] at h
  exact h
theorem guard29 (op : BinOp) (x y : Operand) (a b : Array Value) (W : World) : (eqGuard op 29 x y (.agg a) (.agg b)).run Try.prog W = .ok () W := run_eqGuard_agg W op 29 x y a b (by kernel_rfl)
end Go.Proofs.Ytojmifniidddpaa
