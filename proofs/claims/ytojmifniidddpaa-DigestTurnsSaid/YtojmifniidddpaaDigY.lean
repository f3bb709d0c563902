/- The laws DigestHolds and DigestTurns on plain numbers. -/
import Derived.Test.YtojmifniidddpaaDigX
import Derived.Test.YtojmifniidddpaaLaw
set_option linter.unusedVariables false
set_option linter.unusedSimpArgs false
namespace Go.Proofs.Ytojmifniidddpaa
open Go.RowKit

theorem fm {α : Type} {P : α → Prop} {x : α} {l : List α} (h : P x) (t : ∀ y ∈ l, P y) : ∀ y ∈ x :: l, P y := fun y hy => by
  rcases List.mem_cons.1 hy with rfl | hy
  · exact h
  · exact t y hy
theorem fm0 {α : Type} {P : α → Prop} : ∀ y ∈ ([] : List α), P y := fun y hy => by cases hy
theorem bvA_of (xs : List Int) (h : ∀ x ∈ xs, 0 ≤ x ∧ x ≤ 18446744073709551615) : (xs.map (Value.int .u64)).toArray = bvA (xs.map (BitVec.ofInt 64)) := by
  unfold bvA
  rw [List.map_map]
  congr 1
  apply List.map_congr_left
  intro x hx
  have := h x hx
  simp only [Function.comp_apply, BitVec.toNat_ofInt]
  congr 1
  omega
theorem holds_i (xs ys : List Int) (hx : xs.length = 25) (hy : ys.length = 25) (hx' : ∀ x ∈ xs, 0 ≤ x ∧ x ≤ 18446744073709551615) (hy' : ∀ x ∈ ys, 0 ≤ x ∧ x ≤ 18446744073709551615) (w : World) :
    Calls Try.prog 5 #[.agg (xs.map (Value.int .u64)).toArray, .agg (ys.map (Value.int .u64)).toArray] w fun e w' => e = .returned (.bool true) ∧ Below w.heap.size w w' := by
  rw [bvA_of xs hx', bvA_of ys hy']
  exact holds_any _ _ (by simpa using hx) (by simpa using hy) w
theorem turns_i (xs : List Int) (hx : xs.length = 25) (hx' : ∀ x ∈ xs, 0 ≤ x ∧ x ≤ 18446744073709551615) (r : Int) (w : World) :
    Calls Try.prog 4 #[.agg (xs.map (Value.int .u64)).toArray, .int .i64 r] w fun e w' => e = .returned (.bool true) ∧ Below w.heap.size w w' := by
  rw [bvA_of xs hx']
  by_cases h : r < 0 ∨ 23 < r
  · exact turns_s _ r h w
  · obtain ⟨n, rfl⟩ : ∃ n : Nat, r = n := ⟨r.toNat, by omega⟩
    exact turns_g _ (by simpa using hx) n (by omega) w
end Go.Proofs.Ytojmifniidddpaa
