/- The law StackHigh. No condition. -/
import Derived.Test.YtcfomhnfhalmaaaStackW
set_option linter.unusedVariables false
set_option linter.unusedSimpArgs false
set_option maxRecDepth 100000
namespace Go.Proofs.Ytcfomhnfhalmaaa
open Go.RowKit

noncomputable def tabW : List (Nat × CtrF) := [(8, ctr0 (.bool true true))]
theorem tabW_ok {R : Rws} : ∀ p ∈ tabW, Good Try.prog R p.1 p.2 := good_cons (p := (_, _)) (ctr0_ok (enters_of Try.func8 (by kernel_rfl) rfl) rfl works_any) good_nil
theorem sh_a (m : Int) (h : AllE [(decide (m < -1), true)]) : Is (evCall (EG noRows true tabW []) 60 3 [.int .i64 false m] ⟨[], [true], allW⟩ (fun v _ => v = .bool true true)) := ev_eq [(decide (m < -1), true)] (.bool true true : AV) (by kernel_rfl) h
theorem sh_b (m : Int) (h : AllE [(decide (m < -1), false), (decide (m > 1), true)]) : Is (evCall (EG noRows true tabW []) 60 3 [.int .i64 false m] ⟨[], [false, true], allW⟩ (fun v _ => v = .bool true true)) := ev_eq [(decide (m < -1), false), (decide (m > 1), true)] (.bool true true : AV) (by kernel_rfl) h
theorem sh_m : Is (evCall (EG noRows true tabW []) 60 3 [.int .i64 true (-1)] ⟨[], [false, false, false, true, true], allW⟩ (fun v _ => v = .bool true true)) := ev_eq ([true, true, true, false, true, true, false, true, true, true, true, false, true, true, true, true].map fun b => (b, b)) (.bool true true : AV) (by kernel_rfl) (allE_same [true, true, true, false, true, true, false, true, true, true, true, false, true, true, true, true])
theorem sh_z : Is (evCall (EG noRows true tabW []) 60 3 [.int .i64 true 0] ⟨[], [false, true, false, true, true], allW⟩ (fun v _ => v = .bool true true)) := ev_eq ([true, true, true, false, true, true, true, false, true, true, true, true].map fun b => (b, b)) (.bool true true : AV) (by kernel_rfl) (allE_same [true, true, true, false, true, true, true, false, true, true, true, true])
theorem sh_p : Is (evCall (EG noRows true tabW []) 60 3 [.int .i64 true 1] ⟨[], [true], allW⟩ (fun v _ => v = .bool true true)) := ev_eq ([true, true, true, true].map fun b => (b, b)) (.bool true true : AV) (by kernel_rfl) (allE_same [true, true, true, true])
theorem high_law (m : Int) (w : World) : Calls Try.prog 3 #[.int .i64 m] w fun e w' => e = .returned (.bool true) ∧ Below w.heap.size w w' := by
  have hE := EG_ok rwOK_no true tabW_ok goodM_nil
  by_cases h1 : m < -1
  · exact ev_callsI hE 60 (sh_a m (allE_cons (decide_eq_true h1) allE_nil)) rfl (.cons .int .nil) rfl w
  by_cases h2 : m > 1
  · exact ev_callsI hE 60 (sh_b m (allE_cons (decide_eq_false h1) (allE_cons (decide_eq_true h2) allE_nil))) rfl (.cons .int .nil) rfl w
  obtain rfl | rfl | rfl : m = -1 ∨ m = 0 ∨ m = 1 := by omega
  · exact ev_callsI hE 60 sh_m rfl (.cons .int .nil) rfl w
  · exact ev_callsI hE 60 sh_z rfl (.cons .int .nil) rfl w
  · exact ev_callsI hE 60 sh_p rfl (.cons .int .nil) rfl w
end Go.Proofs.Ytcfomhnfhalmaaa
