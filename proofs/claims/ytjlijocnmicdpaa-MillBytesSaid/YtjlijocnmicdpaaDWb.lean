/- Walks: a word's bytes, and the word of bytes. -/
import Derived.Test.YtjlijocnmicdpaaByt
import Derived.Test.YtjlijocnmicdpaaBytes
import Derived.Test.YtjlijocnmicdpaaBytes
set_option linter.unusedVariables false
set_option linter.unusedSimpArgs false
namespace Go.Proofs.Ytjlijocnmicdpaa
open Go.RowKit

/-- Four numbers. -/
abbrev limbs (x : Nat → Nat) : Array Value := #[.int .u64 (x 0 : Nat), .int .u64 (x 1 : Nat), .int .u64 (x 2 : Nat), .int .u64 (x 3 : Nat)]
theorem limbs_at (x : Nat → Nat) {q : Nat} (h : q < 4) : (limbs x)[q]? = some (.int .u64 (x q : Nat)) := by
  rcases (by omega : q = 0 ∨ q = 1 ∨ q = 2 ∨ q = 3) with rfl | rfl | rfl | rfl <;> rfl
def wbs (x : Nat → Nat) : List Int := (List.range 32).map fun k => ((byteAt x (31 - k) : Nat) : Int)
theorem wbs_len (x : Nat → Nat) : (wbs x).length = 32 := by simp [wbs]
def WbRel (x : Nat → Nat) (w : World) (v i : Value) (wr : World) : Prop :=
  ∃ k : Nat, k ≤ 32 ∧ i = .int .i64 (31 - (k : Int)) ∧ wr.ownsRow (w.heap.size + 1) 5 1 v k (bytesC ((wbs x).take k)) ∧ Below (w.heap.size + 1) (w.alloc (.cells (limbs x) 80)) wr
end Go.Proofs.Ytjlijocnmicdpaa
