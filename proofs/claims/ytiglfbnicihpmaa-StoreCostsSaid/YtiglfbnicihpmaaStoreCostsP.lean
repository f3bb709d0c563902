/- Proved: the law StoreCosts returns true for every input, and leaves its arguments as they were. No condition. -/
import Derived.Test.YtiglfbnicihpmaaStoreH
import Derived.Test.YtiglfbnicihpmaaRows
import Derived.Test.YtiglfbnicihpmaaLaw
set_option linter.unusedVariables false
set_option linter.unusedSimpArgs false
namespace Go.Proofs.Ytiglfbnicihpmaa
open Go.ChangeShapes Go.WideShapes Go.ChangeAt Go.RowKit

theorem storeCosts_own : ownKnob Try.prog.godebug = none := by kernel_rfl
theorem storeCosts_laid : laidOutB Try.prog = true := by kernel_rfl

set_option maxRecDepth 100000 in
theorem storeCosts_lifted (os : Os) (started : os.Started) (H : Type) (enc : TypeId × Value → H) :
    ReturnsInHanded {} Try.checked os 3 .any (Rows.storeCostsSpec.pre6 enc Try.prog Try.f3 Rows.storeCostsRow.domain false) (Rows.storeCostsSpec.post enc Try.prog Try.f3 false true false false) := by
  refine returnsInHanded_of_change (C := Try.checked) storeCosts_own started (by kernel_rfl) Try.func3
    (ChangeSpec.witness6 (enc := enc) (C := Try.checked) false ⟨#[], #[.bool false, .agg #[.int .u64 0, .int .u64 0, .int .u64 0, .int .u64 0, .int .u64 0, .int .u64 0, .int .u64 0, .int .u64 0, .int .u64 0, .int .u64 0, .int .u64 0, .int .u64 0, .int .u64 0, .int .u64 0, .int .u64 0]], []⟩ 8 (by kernel_rfl) (by kernel_rfl) (by kernel_rfl) (by kernel_rfl)) ?_
  intro W base args ds gs before hval0 hW hcnd _
  have hval : ∀ (j : Nat) t v, Try.f3.params[j]? = some t → args[j]? = some v → Value.okWide Try.prog W .any base t v := hval0
  have hW' := hW
  obtain ⟨p, q, hA0, hV, rfl, hfz, hnd⟩ := hW
  have hA : DataW.TrodAll enc Try.prog W 0 (fun _ => true) true Try.f3.params.toList args.toList ds p := hA0
  rw [Try.params3] at hA hval
  have hAk := hA
  obtain ⟨v0, vs0, d0, ds0, p0, q0, hargs, rfl, rfl, h0, r0⟩ := trodAll_cons hA
  obtain ⟨v1, vs1, d1, ds1, p1, q1, rfl, rfl, rfl, h1, r1⟩ := trodAll_cons r0
  obtain ⟨rfl, rfl, rfl⟩ := trodAll_nil r1
  obtain rfl : args = #[v0, v1] := by cases args; simp_all
  obtain ⟨rfl, rfl⟩ := trodVars_none hV
  have hlt := hW'.lt
  obtain ⟨a0, rfl, _, _⟩ := open_bool Try.underlying4 (hval 0 4 v0 rfl rfl) h0
  obtain ⟨c1, hc1, L1⟩ := open_flat (a := [some .u64, some .u64, some .u64, some .u64, some .u64, some .u64, some .u64, some .u64, some .u64, some .u64, some .u64, some .u64, some .u64, some .u64, some .u64]) 4 (by kernel_rfl) (by kernel_rfl) (hval 1 28 v1 rfl rfl) h1
  obtain ⟨_, r1_0, rfl, ⟨a1_0, rfl, w1_0⟩, L1_0⟩ := Leaves.cons L1
  obtain ⟨_, r1_1, rfl, ⟨a1_1, rfl, w1_1⟩, L1_1⟩ := Leaves.cons L1_0
  obtain ⟨_, r1_2, rfl, ⟨a1_2, rfl, w1_2⟩, L1_2⟩ := Leaves.cons L1_1
  obtain ⟨_, r1_3, rfl, ⟨a1_3, rfl, w1_3⟩, L1_3⟩ := Leaves.cons L1_2
  obtain ⟨_, r1_4, rfl, ⟨a1_4, rfl, w1_4⟩, L1_4⟩ := Leaves.cons L1_3
  obtain ⟨_, r1_5, rfl, ⟨a1_5, rfl, w1_5⟩, L1_5⟩ := Leaves.cons L1_4
  obtain ⟨_, r1_6, rfl, ⟨a1_6, rfl, w1_6⟩, L1_6⟩ := Leaves.cons L1_5
  obtain ⟨_, r1_7, rfl, ⟨a1_7, rfl, w1_7⟩, L1_7⟩ := Leaves.cons L1_6
  obtain ⟨_, r1_8, rfl, ⟨a1_8, rfl, w1_8⟩, L1_8⟩ := Leaves.cons L1_7
  obtain ⟨_, r1_9, rfl, ⟨a1_9, rfl, w1_9⟩, L1_9⟩ := Leaves.cons L1_8
  obtain ⟨_, r1_10, rfl, ⟨a1_10, rfl, w1_10⟩, L1_10⟩ := Leaves.cons L1_9
  obtain ⟨_, r1_11, rfl, ⟨a1_11, rfl, w1_11⟩, L1_11⟩ := Leaves.cons L1_10
  obtain ⟨_, r1_12, rfl, ⟨a1_12, rfl, w1_12⟩, L1_12⟩ := Leaves.cons L1_11
  obtain ⟨_, r1_13, rfl, ⟨a1_13, rfl, w1_13⟩, L1_13⟩ := Leaves.cons L1_12
  obtain ⟨_, r1_14, rfl, ⟨a1_14, rfl, w1_14⟩, L1_14⟩ := Leaves.cons L1_13
  obtain rfl := Leaves.nil L1_14
  subst hc1
  have hcall : Calls Try.prog 3 #[.bool a0, .agg #[.int .u64 a1_0, .int .u64 a1_1, .int .u64 a1_2, .int .u64 a1_3, .int .u64 a1_4, .int .u64 a1_5, .int .u64 a1_6, .int .u64 a1_7, .int .u64 a1_8, .int .u64 a1_9, .int .u64 a1_10, .int .u64 a1_11, .int .u64 a1_12, .int .u64 a1_13, .int .u64 a1_14]] W fun e W' => e = .returned (.bool true) ∧ Below W.heap.size W W' := costs_any a0 ⟨a1_0, a1_1, a1_2, a1_3, a1_4⟩ ⟨a1_5, a1_6, a1_7, a1_8, a1_9⟩ ⟨a1_10, a1_11, a1_12, a1_13, a1_14⟩ W (bounds_u64 w1_4)
  refine hcall.mono fun e W' ⟨he, hg⟩ => ?_
  subst he
  refine ⟨_, rfl, post_of_below (pv := []) hW' (fun _ _ _ => (trodAll_cons_mk (shut_bool Try.underlying4 _) trodAll_mk0)) (fun sp hsp => args_keep storeCosts_laid hg sp _ _ _ _ ?_ hAk (fun x hx => hlt x (by simpa using hx)) (fun x hx => hsp x (by simpa using hx))) (fun _ _ => rfl) (by simp) hg (ok_one (by kernel_rfl) rfl (okWide_bool_mk Try.underlying4 _))⟩
  intro t ht
  rw [Try.params3] at ht
  simp only [List.mem_cons, List.not_mem_nil, or_false] at ht
  rcases ht with rfl | rfl <;> exact ⟨by kernel_rfl, of_decide_eq_true (by kernel_rfl)⟩

theorem storeCosts_over : Rows.storeCostsRow.holds Try.pinned (OpenSpec.ofChange Rows.storeCostsSpec) :=
  OpenClaim.holds_of_wide 3 Try.f3 rfl rfl rfl rfl rfl rfl rfl ⟨rfl, rfl, rfl, rfl, rfl⟩ rfl rfl rfl rfl rfl (by kernel_rfl) Try.func3 (by kernel_rfl)
    (of_decide_eq_true (by kernel_rfl)) (by unfold Func.isWrapper; rw [if_neg (of_decide_eq_false (by kernel_rfl))]; exact ⟨rfl, rfl⟩)
    (fun os started H enc _ => storeCosts_lifted os started H enc)

/-- The statement. -/
theorem storeCosts_holds : Rows.StoreCostsSaid :=
  storeCosts_over
#print axioms storeCosts_holds
end Go.Proofs.Ytiglfbnicihpmaa
