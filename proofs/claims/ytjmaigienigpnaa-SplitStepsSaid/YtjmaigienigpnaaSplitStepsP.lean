/- Proved: the law SplitSteps returns true for every input, and leaves its arguments as they were. No condition. -/
import Derived.Test.YtjmaigienigpnaaSpQ
import Derived.Test.YtjmaigienigpnaaRows
import Derived.Test.YtjmaigienigpnaaLaw
set_option linter.unusedVariables false
set_option linter.unusedSimpArgs false
namespace Go.Proofs.Ytjmaigienigpnaa
open Go.ChangeShapes Go.WideShapes Go.ChangeAt Go.RowKit

theorem splitSteps_own : ownKnob Try.prog.godebug = none := by kernel_rfl
theorem splitSteps_laid : laidOutB Try.prog = true := by kernel_rfl

set_option maxRecDepth 100000 in
theorem splitSteps_lifted (os : Os) (started : os.Started) (H : Type) (enc : TypeId × Value → H) :
    ReturnsInHanded {} Try.checked os 4 .any (Rows.splitStepsSpec.pre6 enc Try.prog Try.f4 Rows.splitStepsRow.domain false) (Rows.splitStepsSpec.post enc Try.prog Try.f4 false true false false) := by
  refine returnsInHanded_of_change (C := Try.checked) splitSteps_own started (by kernel_rfl) Try.func4
    (ChangeSpec.witness6 (enc := enc) (C := Try.checked) false ⟨#[], #[.agg #[.int .u64 0, .int .u64 0, .int .u64 0, .int .u64 0], .agg #[.int .u64 0, .int .u64 0, .int .u64 0, .int .u64 0], .int .i64 0], []⟩ 8 (by kernel_rfl) (by kernel_rfl) (by kernel_rfl) (by kernel_rfl)) ?_
  intro W base args ds gs before hval0 hW hcnd _
  have hval : ∀ (j : Nat) t v, Try.f4.params[j]? = some t → args[j]? = some v → Value.okWide Try.prog W .any base t v := hval0
  have hW' := hW
  obtain ⟨p, q, hA0, hV, rfl, hfz, hnd⟩ := hW
  have hA : DataW.TrodAll enc Try.prog W 0 (fun _ => true) true Try.f4.params.toList args.toList ds p := hA0
  rw [Try.params4] at hA hval
  have hAk := hA
  obtain ⟨v0, vs0, d0, ds0, p0, q0, hargs, rfl, rfl, h0, r0⟩ := trodAll_cons hA
  obtain ⟨v1, vs1, d1, ds1, p1, q1, rfl, rfl, rfl, h1, r1⟩ := trodAll_cons r0
  obtain ⟨v2, vs2, d2, ds2, p2, q2, rfl, rfl, rfl, h2, r2⟩ := trodAll_cons r1
  obtain ⟨rfl, rfl, rfl⟩ := trodAll_nil r2
  obtain rfl : args = #[v0, v1, v2] := by cases args; simp_all
  obtain ⟨rfl, rfl⟩ := trodVars_none hV
  have hlt := hW'.lt
  obtain ⟨c0, hc0, L0⟩ := open_flat (a := [some .u64, some .u64, some .u64, some .u64]) 4 (by kernel_rfl) (by kernel_rfl) (hval 0 24 v0 rfl rfl) h0
  obtain ⟨_, r0_0, rfl, ⟨a0_0, rfl, w0_0⟩, L0_0⟩ := Leaves.cons L0
  obtain ⟨_, r0_1, rfl, ⟨a0_1, rfl, w0_1⟩, L0_1⟩ := Leaves.cons L0_0
  obtain ⟨_, r0_2, rfl, ⟨a0_2, rfl, w0_2⟩, L0_2⟩ := Leaves.cons L0_1
  obtain ⟨_, r0_3, rfl, ⟨a0_3, rfl, w0_3⟩, L0_3⟩ := Leaves.cons L0_2
  obtain rfl := Leaves.nil L0_3
  subst hc0
  obtain ⟨c1, hc1, L1⟩ := open_flat (a := [some .u64, some .u64, some .u64, some .u64]) 4 (by kernel_rfl) (by kernel_rfl) (hval 1 24 v1 rfl rfl) h1
  obtain ⟨_, r1_0, rfl, ⟨a1_0, rfl, w1_0⟩, L1_0⟩ := Leaves.cons L1
  obtain ⟨_, r1_1, rfl, ⟨a1_1, rfl, w1_1⟩, L1_1⟩ := Leaves.cons L1_0
  obtain ⟨_, r1_2, rfl, ⟨a1_2, rfl, w1_2⟩, L1_2⟩ := Leaves.cons L1_1
  obtain ⟨_, r1_3, rfl, ⟨a1_3, rfl, w1_3⟩, L1_3⟩ := Leaves.cons L1_2
  obtain rfl := Leaves.nil L1_3
  subst hc1
  obtain ⟨a2, rfl, _, _, w2⟩ := open_int Try.underlying3 (hval 2 3 v2 rfl rfl) h2
  have hcall : Calls Try.prog 4 #[.agg #[.int .u64 a0_0, .int .u64 a0_1, .int .u64 a0_2, .int .u64 a0_3], .agg #[.int .u64 a1_0, .int .u64 a1_1, .int .u64 a1_2, .int .u64 a1_3], .int .i64 a2] W fun e W' => e = .returned (.bool true) ∧ Below W.heap.size W W' := by
    obtain ⟨x0, hx0⟩ := W_of a0_0 a0_1 a0_2 a0_3 w0_0 w0_1 w0_2 w0_3
    rw [hx0]
    obtain ⟨x1, hx1⟩ := W_of a1_0 a1_1 a1_2 a1_3 w1_0 w1_1 w1_2 w1_3
    rw [hx1]
    exact steps_law x0 x1 a2 W
  refine hcall.mono fun e W' ⟨he, hg⟩ => ?_
  subst he
  refine ⟨_, rfl, post_of_below (pv := []) hW' (fun _ _ _ => (trodAll_cons_mk (shut_bool Try.underlying4 _) trodAll_mk0)) (fun sp hsp => args_keep splitSteps_laid hg sp _ _ _ _ ?_ hAk (fun x hx => hlt x (by simpa using hx)) (fun x hx => hsp x (by simpa using hx))) (fun _ _ => rfl) (by simp) hg (ok_one (by kernel_rfl) rfl (okWide_bool_mk Try.underlying4 _))⟩
  intro t ht
  rw [Try.params4] at ht
  simp only [List.mem_cons, List.not_mem_nil, or_false] at ht
  rcases ht with rfl | rfl | rfl <;> exact ⟨by kernel_rfl, of_decide_eq_true (by kernel_rfl)⟩

theorem splitSteps_over : Rows.splitStepsRow.holds Try.pinned (OpenSpec.ofChange Rows.splitStepsSpec) :=
  OpenClaim.holds_of_wide 4 Try.f4 rfl rfl rfl rfl rfl rfl rfl ⟨rfl, rfl, rfl, rfl, rfl⟩ rfl rfl rfl rfl rfl (by kernel_rfl) Try.func4 (by kernel_rfl)
    (of_decide_eq_true (by kernel_rfl)) (by unfold Func.isWrapper; rw [if_neg (of_decide_eq_false (by kernel_rfl))]; exact ⟨rfl, rfl⟩)
    (fun os started H enc _ => splitSteps_lifted os started H enc)

/-- The statement. -/
theorem splitSteps_holds : Rows.SplitStepsSaid :=
  splitSteps_over
#print axioms splitSteps_holds
end Go.Proofs.Ytjmaigienigpnaa
