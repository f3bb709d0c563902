/- The law DigestSums on plain bytes. -/
import Derived.Test.YtojmifniidddpaaDigT
import Derived.Test.YtojmifniidddpaaLaw
set_option linter.unusedVariables false
set_option linter.unusedSimpArgs false
namespace Go.Proofs.Ytojmifniidddpaa
open Go.RowKit

theorem nats_of (xs : List Int) (h : ∀ x ∈ xs, (Lit.int .u8 x).wf = true) : ∃ ys : List Nat, xs = nI ys ∧ ys.length = xs.length ∧ ∀ y ∈ ys, y < 256 := by
  refine ⟨xs.map Int.toNat, ?_, by simp, fun y hy => ?_⟩
  · unfold nI
    rw [List.map_map]
    refine (List.map_id xs).symm.trans (List.map_congr_left fun x hx => ?_)
    have := bounds_u8 (h x hx)
    simp only [id, Function.comp_apply]
    omega
  · obtain ⟨x, hx, rfl⟩ := List.mem_map.1 hy
    have := bounds_u8 (h x hx)
    omega
theorem sums_i (A : Option Addr) (xs : List Int) (cap : Nat) (k : Int) (w : World) (hS : SlAt w A (bytesC xs)) (hcap : xs.length ≤ cap) (hnil : A = none → xs.length = 0 ∧ cap = 0) (hb : ∀ x ∈ xs, (Lit.int .u8 x).wf = true) :
    Calls Try.prog 6 #[.slice A xs.length cap, .int .i64 k] w fun e w' => e = .returned (.bool true) ∧ Below w.heap.size w w' := by
  by_cases h : 500 < xs.length ∨ k < 0 ∨ (xs.length : Int) < k
  · exact sums_s A xs.length cap k h w
  · obtain ⟨ys, rfl, hl, hb8⟩ := nats_of xs hb
    obtain ⟨n, rfl⟩ : ∃ n : Nat, k = n := ⟨k.toNat, by omega⟩
    rw [show (nI ys).length = ys.length by simp [nI]] at hcap hnil h ⊢
    exact sums_g A ys cap n w hS hcap hnil (by omega) (by omega) hb8
end Go.Proofs.Ytojmifniidddpaa
