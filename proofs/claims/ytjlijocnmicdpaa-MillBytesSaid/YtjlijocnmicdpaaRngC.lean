/- Small laws that laws with ranges over functions need (gen texts by rng.py). No program of its own. No condition. -/
import Derived.Test.YtjlijocnmicdpaaRngB
set_option linter.unusedVariables false
set_option linter.unusedSimpArgs false
namespace Go.Proofs.Ytjlijocnmicdpaa
open Go.RowKit

theorem Own.eqv {H H' : List Block} {w : World} (h : Own H w) (e : H = H') : Own H' w := e ▸ h
theorem Own.tl {q : Block} {H : List Block} {w : World} (h : Own (q :: H) w) : Own H w := fun p hp => h p (List.mem_cons_of_mem _ hp)
theorem run_equalIn_func_nil {P : Program} (d : Nat) {t : TypeId} {ps rs : Array TypeId} {v : Bool} (h : P.underlying t = some (.func ps rs v)) (fn : Fn) (fi ca : Array Value) (w : World) : (Op.equalIn (d + 1) t (.func fn fi ca) .nilFunc).run P w = .ok false w := by
  simp [Op.equalIn, run_underlying h]
theorem run_equal_func_nil {P : Program} {t : TypeId} {ps rs : Array TypeId} {v : Bool} (h : P.underlying t = some (.func ps rs v)) (fn : Fn) (fi ca : Array Value) (w : World) : (Op.equal t (.func fn fi ca) .nilFunc).run P w = .ok false w := run_equalIn_func_nil 9999 h fn fi ca w
theorem run_eql_func_nil {P : Program} {t : TypeId} {ps rs : Array TypeId} {v : Bool} (h : P.underlying t = some (.func ps rs v)) (fn : Fn) (fi ca : Array Value) (w : World) : (binOp .eql t (.func fn fi ca) .nilFunc).run P w = .ok (.bool false) w := by
  simp only [binOp]
  simp [run_equal_func_nil h]
theorem sl_lt {w : World} {A : Option Addr} {cs : List Value} (h : SlAt w A cs) : ∀ b off, A = some ⟨b, off, none⟩ → cs ≠ [] → b < w.heap.size := fun b off e hn => by
  rcases h with h | ⟨b', off', h, hl, _⟩
  · exact absurd h hn
  · rw [h] at e; cases e; exact hl
end Go.Proofs.Ytjlijocnmicdpaa
