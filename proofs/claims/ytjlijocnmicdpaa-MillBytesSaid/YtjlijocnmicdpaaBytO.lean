/- Slices of bytes that are arguments. No program of its own. No condition. -/
import Derived.Test.YtjlijocnmicdpaaByt
import Derived.Test.YtjlijocnmicdpaaOpen
set_option linter.unusedVariables false
set_option linter.unusedSimpArgs false
namespace Go.Proofs.Ytjlijocnmicdpaa
open Go.RowKit Go.ChangeShapes Go.WideShapes Go.ChangeAt

theorem open_bytes : ∀ (L : List (List Value)), (∀ u ∈ L, Leaves [some .u8] u) → ∃ xs : List Int, L.flatten = bytesC xs ∧ xs.length = L.length ∧ ∀ x ∈ xs, (Lit.int .u8 x).wf = true
  | [], _ => ⟨[], rfl, rfl, by simp⟩
  | u :: L, h => by
    obtain ⟨xs, h1, h2, h3⟩ := open_bytes L fun u hu => h u (by simp [hu])
    obtain ⟨_, r, rfl, ⟨a, rfl, wa⟩, h4⟩ := Leaves.cons (h u (by simp))
    obtain rfl := Leaves.nil h4
    refine ⟨a :: xs, by simp [h1, bytesC], by simp [h2], fun x hx => ?_⟩
    rcases List.mem_cons.1 hx with rfl | hx
    · exact wa
    · exact h3 x hx
end Go.Proofs.Ytjlijocnmicdpaa
