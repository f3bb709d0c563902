/- Proved: the law DigestHolds returns true for every input, and leaves its arguments as they were. No condition. -/
import Derived.Test.YtojmifniidddpaaDigY
import Derived.Test.YtojmifniidddpaaRows
import Derived.Test.YtojmifniidddpaaLaw
set_option linter.unusedVariables false
set_option linter.unusedSimpArgs false
namespace Go.Proofs.Ytojmifniidddpaa
open Go.ChangeShapes Go.WideShapes Go.ChangeAt Go.RowKit

theorem digestHolds_own : ownKnob Try.prog.godebug = none := by kernel_rfl
theorem digestHolds_laid : laidOutB Try.prog = true := by kernel_rfl

set_option maxRecDepth 100000 in
theorem digestHolds_lifted (os : Os) (started : os.Started) (H : Type) (enc : TypeId × Value → H) :
    ReturnsInHanded {} Try.checked os 5 .any (Rows.digestHoldsSpec.pre6 enc Try.prog Try.f5 Rows.digestHoldsRow.domain false) (Rows.digestHoldsSpec.post enc Try.prog Try.f5 false true false false) := by
  refine returnsInHanded_of_change (C := Try.checked) digestHolds_own started (by kernel_rfl) Try.func5
    (ChangeSpec.witness6 (enc := enc) (C := Try.checked) false ⟨#[], #[.agg #[.int .u64 0, .int .u64 0, .int .u64 0, .int .u64 0, .int .u64 0, .int .u64 0, .int .u64 0, .int .u64 0, .int .u64 0, .int .u64 0, .int .u64 0, .int .u64 0, .int .u64 0, .int .u64 0, .int .u64 0, .int .u64 0, .int .u64 0, .int .u64 0, .int .u64 0, .int .u64 0, .int .u64 0, .int .u64 0, .int .u64 0, .int .u64 0, .int .u64 0], .agg #[.int .u64 0, .int .u64 0, .int .u64 0, .int .u64 0, .int .u64 0, .int .u64 0, .int .u64 0, .int .u64 0, .int .u64 0, .int .u64 0, .int .u64 0, .int .u64 0, .int .u64 0, .int .u64 0, .int .u64 0, .int .u64 0, .int .u64 0, .int .u64 0, .int .u64 0, .int .u64 0, .int .u64 0, .int .u64 0, .int .u64 0, .int .u64 0, .int .u64 0]], []⟩ 8 (by kernel_rfl) (by kernel_rfl) (by kernel_rfl) (by kernel_rfl)) ?_
  intro W base args ds gs before hval0 hW hcnd _
  have hval : ∀ (j : Nat) t v, Try.f5.params[j]? = some t → args[j]? = some v → Value.okWide Try.prog W .any base t v := hval0
  have hW' := hW
  obtain ⟨p, q, hA0, hV, rfl, hfz, hnd⟩ := hW
  have hA : DataW.TrodAll enc Try.prog W 0 (fun _ => true) true Try.f5.params.toList args.toList ds p := hA0
  rw [Try.params5] at hA hval
  have hAk := hA
  obtain ⟨v0, vs0, d0, ds0, p0, q0, hargs, rfl, rfl, h0, r0⟩ := trodAll_cons hA
  obtain ⟨v1, vs1, d1, ds1, p1, q1, rfl, rfl, rfl, h1, r1⟩ := trodAll_cons r0
  obtain ⟨rfl, rfl, rfl⟩ := trodAll_nil r1
  obtain rfl : args = #[v0, v1] := by cases args; simp_all
  obtain ⟨rfl, rfl⟩ := trodVars_none hV
  have hlt := hW'.lt
  obtain ⟨c0, hc0, L0⟩ := open_flat (a := [some .u64, some .u64, some .u64, some .u64, some .u64, some .u64, some .u64, some .u64, some .u64, some .u64, some .u64, some .u64, some .u64, some .u64, some .u64, some .u64, some .u64, some .u64, some .u64, some .u64, some .u64, some .u64, some .u64, some .u64, some .u64]) 4 (by kernel_rfl) (by kernel_rfl) (hval 0 32 v0 rfl rfl) h0
  obtain ⟨_, r0_0, rfl, ⟨a0_0, rfl, w0_0⟩, L0_0⟩ := Leaves.cons L0
  obtain ⟨_, r0_1, rfl, ⟨a0_1, rfl, w0_1⟩, L0_1⟩ := Leaves.cons L0_0
  obtain ⟨_, r0_2, rfl, ⟨a0_2, rfl, w0_2⟩, L0_2⟩ := Leaves.cons L0_1
  obtain ⟨_, r0_3, rfl, ⟨a0_3, rfl, w0_3⟩, L0_3⟩ := Leaves.cons L0_2
  obtain ⟨_, r0_4, rfl, ⟨a0_4, rfl, w0_4⟩, L0_4⟩ := Leaves.cons L0_3
  obtain ⟨_, r0_5, rfl, ⟨a0_5, rfl, w0_5⟩, L0_5⟩ := Leaves.cons L0_4
  obtain ⟨_, r0_6, rfl, ⟨a0_6, rfl, w0_6⟩, L0_6⟩ := Leaves.cons L0_5
  obtain ⟨_, r0_7, rfl, ⟨a0_7, rfl, w0_7⟩, L0_7⟩ := Leaves.cons L0_6
  obtain ⟨_, r0_8, rfl, ⟨a0_8, rfl, w0_8⟩, L0_8⟩ := Leaves.cons L0_7
  obtain ⟨_, r0_9, rfl, ⟨a0_9, rfl, w0_9⟩, L0_9⟩ := Leaves.cons L0_8
  obtain ⟨_, r0_10, rfl, ⟨a0_10, rfl, w0_10⟩, L0_10⟩ := Leaves.cons L0_9
  obtain ⟨_, r0_11, rfl, ⟨a0_11, rfl, w0_11⟩, L0_11⟩ := Leaves.cons L0_10
  obtain ⟨_, r0_12, rfl, ⟨a0_12, rfl, w0_12⟩, L0_12⟩ := Leaves.cons L0_11
  obtain ⟨_, r0_13, rfl, ⟨a0_13, rfl, w0_13⟩, L0_13⟩ := Leaves.cons L0_12
  obtain ⟨_, r0_14, rfl, ⟨a0_14, rfl, w0_14⟩, L0_14⟩ := Leaves.cons L0_13
  obtain ⟨_, r0_15, rfl, ⟨a0_15, rfl, w0_15⟩, L0_15⟩ := Leaves.cons L0_14
  obtain ⟨_, r0_16, rfl, ⟨a0_16, rfl, w0_16⟩, L0_16⟩ := Leaves.cons L0_15
  obtain ⟨_, r0_17, rfl, ⟨a0_17, rfl, w0_17⟩, L0_17⟩ := Leaves.cons L0_16
  obtain ⟨_, r0_18, rfl, ⟨a0_18, rfl, w0_18⟩, L0_18⟩ := Leaves.cons L0_17
  obtain ⟨_, r0_19, rfl, ⟨a0_19, rfl, w0_19⟩, L0_19⟩ := Leaves.cons L0_18
  obtain ⟨_, r0_20, rfl, ⟨a0_20, rfl, w0_20⟩, L0_20⟩ := Leaves.cons L0_19
  obtain ⟨_, r0_21, rfl, ⟨a0_21, rfl, w0_21⟩, L0_21⟩ := Leaves.cons L0_20
  obtain ⟨_, r0_22, rfl, ⟨a0_22, rfl, w0_22⟩, L0_22⟩ := Leaves.cons L0_21
  obtain ⟨_, r0_23, rfl, ⟨a0_23, rfl, w0_23⟩, L0_23⟩ := Leaves.cons L0_22
  obtain ⟨_, r0_24, rfl, ⟨a0_24, rfl, w0_24⟩, L0_24⟩ := Leaves.cons L0_23
  obtain rfl := Leaves.nil L0_24
  subst hc0
  obtain ⟨c1, hc1, L1⟩ := open_flat (a := [some .u64, some .u64, some .u64, some .u64, some .u64, some .u64, some .u64, some .u64, some .u64, some .u64, some .u64, some .u64, some .u64, some .u64, some .u64, some .u64, some .u64, some .u64, some .u64, some .u64, some .u64, some .u64, some .u64, some .u64, some .u64]) 4 (by kernel_rfl) (by kernel_rfl) (hval 1 32 v1 rfl rfl) h1
  obtain ⟨_, r1_0, rfl, ⟨a1_0, rfl, w1_0⟩, L1_0⟩ := Leaves.cons L1
  obtain ⟨_, r1_1, rfl, ⟨a1_1, rfl, w1_1⟩, L1_1⟩ := Leaves.cons L1_0
  obtain ⟨_, r1_2, rfl, ⟨a1_2, rfl, w1_2⟩, L1_2⟩ := Leaves.cons L1_1
  obtain ⟨_, r1_3, rfl, ⟨a1_3, rfl, w1_3⟩, L1_3⟩ := Leaves.cons L1_2
  obtain ⟨_, r1_4, rfl, ⟨a1_4, rfl, w1_4⟩, L1_4⟩ := Leaves.cons L1_3
  obtain ⟨_, r1_5, rfl, ⟨a1_5, rfl, w1_5⟩, L1_5⟩ := Leaves.cons L1_4
  obtain ⟨_, r1_6, rfl, ⟨a1_6, rfl, w1_6⟩, L1_6⟩ := Leaves.cons L1_5
  obtain ⟨_, r1_7, rfl, ⟨a1_7, rfl, w1_7⟩, L1_7⟩ := Leaves.cons L1_6
  obtain ⟨_, r1_8, rfl, ⟨a1_8, rfl, w1_8⟩, L1_8⟩ := Leaves.cons L1_7
  obtain ⟨_, r1_9, rfl, ⟨a1_9, rfl, w1_9⟩, L1_9⟩ := Leaves.cons L1_8
  obtain ⟨_, r1_10, rfl, ⟨a1_10, rfl, w1_10⟩, L1_10⟩ := Leaves.cons L1_9
  obtain ⟨_, r1_11, rfl, ⟨a1_11, rfl, w1_11⟩, L1_11⟩ := Leaves.cons L1_10
  obtain ⟨_, r1_12, rfl, ⟨a1_12, rfl, w1_12⟩, L1_12⟩ := Leaves.cons L1_11
  obtain ⟨_, r1_13, rfl, ⟨a1_13, rfl, w1_13⟩, L1_13⟩ := Leaves.cons L1_12
  obtain ⟨_, r1_14, rfl, ⟨a1_14, rfl, w1_14⟩, L1_14⟩ := Leaves.cons L1_13
  obtain ⟨_, r1_15, rfl, ⟨a1_15, rfl, w1_15⟩, L1_15⟩ := Leaves.cons L1_14
  obtain ⟨_, r1_16, rfl, ⟨a1_16, rfl, w1_16⟩, L1_16⟩ := Leaves.cons L1_15
  obtain ⟨_, r1_17, rfl, ⟨a1_17, rfl, w1_17⟩, L1_17⟩ := Leaves.cons L1_16
  obtain ⟨_, r1_18, rfl, ⟨a1_18, rfl, w1_18⟩, L1_18⟩ := Leaves.cons L1_17
  obtain ⟨_, r1_19, rfl, ⟨a1_19, rfl, w1_19⟩, L1_19⟩ := Leaves.cons L1_18
  obtain ⟨_, r1_20, rfl, ⟨a1_20, rfl, w1_20⟩, L1_20⟩ := Leaves.cons L1_19
  obtain ⟨_, r1_21, rfl, ⟨a1_21, rfl, w1_21⟩, L1_21⟩ := Leaves.cons L1_20
  obtain ⟨_, r1_22, rfl, ⟨a1_22, rfl, w1_22⟩, L1_22⟩ := Leaves.cons L1_21
  obtain ⟨_, r1_23, rfl, ⟨a1_23, rfl, w1_23⟩, L1_23⟩ := Leaves.cons L1_22
  obtain ⟨_, r1_24, rfl, ⟨a1_24, rfl, w1_24⟩, L1_24⟩ := Leaves.cons L1_23
  obtain rfl := Leaves.nil L1_24
  subst hc1
  have hcall : Calls Try.prog 5 #[.agg #[.int .u64 a0_0, .int .u64 a0_1, .int .u64 a0_2, .int .u64 a0_3, .int .u64 a0_4, .int .u64 a0_5, .int .u64 a0_6, .int .u64 a0_7, .int .u64 a0_8, .int .u64 a0_9, .int .u64 a0_10, .int .u64 a0_11, .int .u64 a0_12, .int .u64 a0_13, .int .u64 a0_14, .int .u64 a0_15, .int .u64 a0_16, .int .u64 a0_17, .int .u64 a0_18, .int .u64 a0_19, .int .u64 a0_20, .int .u64 a0_21, .int .u64 a0_22, .int .u64 a0_23, .int .u64 a0_24], .agg #[.int .u64 a1_0, .int .u64 a1_1, .int .u64 a1_2, .int .u64 a1_3, .int .u64 a1_4, .int .u64 a1_5, .int .u64 a1_6, .int .u64 a1_7, .int .u64 a1_8, .int .u64 a1_9, .int .u64 a1_10, .int .u64 a1_11, .int .u64 a1_12, .int .u64 a1_13, .int .u64 a1_14, .int .u64 a1_15, .int .u64 a1_16, .int .u64 a1_17, .int .u64 a1_18, .int .u64 a1_19, .int .u64 a1_20, .int .u64 a1_21, .int .u64 a1_22, .int .u64 a1_23, .int .u64 a1_24]] W fun e W' => e = .returned (.bool true) ∧ Below W.heap.size W W' := holds_i [a0_0, a0_1, a0_2, a0_3, a0_4, a0_5, a0_6, a0_7, a0_8, a0_9, a0_10, a0_11, a0_12, a0_13, a0_14, a0_15, a0_16, a0_17, a0_18, a0_19, a0_20, a0_21, a0_22, a0_23, a0_24] [a1_0, a1_1, a1_2, a1_3, a1_4, a1_5, a1_6, a1_7, a1_8, a1_9, a1_10, a1_11, a1_12, a1_13, a1_14, a1_15, a1_16, a1_17, a1_18, a1_19, a1_20, a1_21, a1_22, a1_23, a1_24] rfl rfl (fm (bounds_u64 w0_0) (fm (bounds_u64 w0_1) (fm (bounds_u64 w0_2) (fm (bounds_u64 w0_3) (fm (bounds_u64 w0_4) (fm (bounds_u64 w0_5) (fm (bounds_u64 w0_6) (fm (bounds_u64 w0_7) (fm (bounds_u64 w0_8) (fm (bounds_u64 w0_9) (fm (bounds_u64 w0_10) (fm (bounds_u64 w0_11) (fm (bounds_u64 w0_12) (fm (bounds_u64 w0_13) (fm (bounds_u64 w0_14) (fm (bounds_u64 w0_15) (fm (bounds_u64 w0_16) (fm (bounds_u64 w0_17) (fm (bounds_u64 w0_18) (fm (bounds_u64 w0_19) (fm (bounds_u64 w0_20) (fm (bounds_u64 w0_21) (fm (bounds_u64 w0_22) (fm (bounds_u64 w0_23) (fm (bounds_u64 w0_24) fm0))))))))))))))))))))))))) (fm (bounds_u64 w1_0) (fm (bounds_u64 w1_1) (fm (bounds_u64 w1_2) (fm (bounds_u64 w1_3) (fm (bounds_u64 w1_4) (fm (bounds_u64 w1_5) (fm (bounds_u64 w1_6) (fm (bounds_u64 w1_7) (fm (bounds_u64 w1_8) (fm (bounds_u64 w1_9) (fm (bounds_u64 w1_10) (fm (bounds_u64 w1_11) (fm (bounds_u64 w1_12) (fm (bounds_u64 w1_13) (fm (bounds_u64 w1_14) (fm (bounds_u64 w1_15) (fm (bounds_u64 w1_16) (fm (bounds_u64 w1_17) (fm (bounds_u64 w1_18) (fm (bounds_u64 w1_19) (fm (bounds_u64 w1_20) (fm (bounds_u64 w1_21) (fm (bounds_u64 w1_22) (fm (bounds_u64 w1_23) (fm (bounds_u64 w1_24) fm0))))))))))))))))))))))))) W
  refine hcall.mono fun e W' ⟨he, hg⟩ => ?_
  subst he
  refine ⟨_, rfl, post_of_below (pv := []) hW' (fun _ _ _ => (trodAll_cons_mk (shut_bool Try.underlying4 _) trodAll_mk0)) (fun sp hsp => args_keep digestHolds_laid hg sp _ _ _ _ ?_ hAk (fun x hx => hlt x (by simpa using hx)) (fun x hx => hsp x (by simpa using hx))) (fun _ _ => rfl) (by simp) hg (ok_one (by kernel_rfl) rfl (okWide_bool_mk Try.underlying4 _))⟩
  intro t ht
  rw [Try.params5] at ht
  simp only [List.mem_cons, List.not_mem_nil, or_false] at ht
  rcases ht with rfl | rfl <;> exact ⟨by kernel_rfl, of_decide_eq_true (by kernel_rfl)⟩

theorem digestHolds_over : Rows.digestHoldsRow.holds Try.pinned (OpenSpec.ofChange Rows.digestHoldsSpec) :=
  OpenClaim.holds_of_wide 5 Try.f5 rfl rfl rfl rfl rfl rfl rfl ⟨rfl, rfl, rfl, rfl, rfl⟩ rfl rfl rfl rfl rfl (by kernel_rfl) Try.func5 (by kernel_rfl)
    (of_decide_eq_true (by kernel_rfl)) (by unfold Func.isWrapper; rw [if_neg (of_decide_eq_false (by kernel_rfl))]; exact ⟨rfl, rfl⟩)
    (fun os started H enc _ => digestHolds_lifted os started H enc)

/-- The statement. -/
theorem digestHolds_holds : Rows.DigestHoldsSaid :=
  digestHolds_over
#print axioms digestHolds_holds
end Go.Proofs.Ytojmifniidddpaa
