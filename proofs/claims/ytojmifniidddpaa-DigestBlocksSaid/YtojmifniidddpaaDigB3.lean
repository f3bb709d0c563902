/- The law DigestBlocks on plain bytes. -/
import Derived.Test.YtojmifniidddpaaDigB2
import Derived.Test.YtojmifniidddpaaDigSi
set_option linter.unusedVariables false
set_option linter.unusedSimpArgs false
namespace Go.Proofs.Ytojmifniidddpaa
open Go.RowKit

theorem blocks_i (A : Option Addr) (xs : List Int) (cap : Nat) (many : Int) (w : World) (hS : SlAt w A (bytesC xs)) (hcap : xs.length ≤ cap) (hnil : A = none → xs.length = 0 ∧ cap = 0) (hb : ∀ x ∈ xs, (Lit.int .u8 x).wf = true) :
    Calls Try.prog 3 #[.slice A xs.length cap, .int .i64 many] w fun e w' => e = .returned (.bool true) ∧ Below w.heap.size w w' := by
  by_cases h : 500 < xs.length
  · exact blocks_s A xs.length cap many w h
  · obtain ⟨ys, rfl, hl, hb8⟩ := nats_of xs hb
    rw [show (nI ys).length = ys.length by simp [nI]] at hcap hnil h ⊢
    exact blocks_g A ys cap many w hS hcap (by omega) hnil hb8
end Go.Proofs.Ytojmifniidddpaa
