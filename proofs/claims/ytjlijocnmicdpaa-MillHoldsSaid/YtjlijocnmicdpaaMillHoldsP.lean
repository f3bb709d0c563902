/- Proved: the law MillHolds returns true for every input, and leaves its arguments as they were. No condition. -/
import Derived.Test.YtjlijocnmicdpaaMN3
import Derived.Test.YtjlijocnmicdpaaRows
import Derived.Test.YtjlijocnmicdpaaLaw
set_option linter.unusedVariables false
set_option linter.unusedSimpArgs false
namespace Go.Proofs.Ytjlijocnmicdpaa
open Go.ChangeShapes Go.WideShapes Go.ChangeAt Go.RowKit
theorem bounds_u32 {n : Int} (h : (Lit.int .u32 n).wf = true) : 0 ≤ n ∧ n ≤ 4294967295 := by
  simp [Lit.wf, IntKind.min, IntKind.max, IntKind.signed, IntKind.bits] at h
  omega
theorem u64_of {a : Int} (h : (Lit.int .u64 a).wf = true) : ∃ b : BitVec 64, a = (b.toNat : Int) := by
  have := bounds_u64 h
  refine ⟨BitVec.ofInt 64 a, ?_⟩
  rw [BitVec.toNat_ofInt]; omega
def lf (l : List (BitVec 64)) : Nat → BitVec 64 := fun i => l.getD i 0#64
theorem millHolds_own : ownKnob Try.prog.godebug = none := by kernel_rfl
theorem millHolds_laid : laidOutB Try.prog = true := by kernel_rfl

set_option maxRecDepth 100000 in
theorem millHolds_lifted (os : Os) (started : os.Started) (H : Type) (enc : TypeId × Value → H) :
    ReturnsInHanded {} Try.checked os 4 .any (Rows.millHoldsSpec.pre6 enc Try.prog Try.f4 Rows.millHoldsRow.domain false) (Rows.millHoldsSpec.post enc Try.prog Try.f4 false true false false) := by
  refine returnsInHanded_of_change (C := Try.checked) millHolds_own started (by kernel_rfl) Try.func4
    (ChangeSpec.witness6 (enc := enc) (C := Try.checked) false ⟨#[], #[.agg #[.int .u32 0, .int .u64 0, .int .u64 0, .int .u64 0, .int .u64 0, .int .u64 0, .int .u64 0, .int .u64 0, .int .u64 0, .int .u64 0, .int .u64 0, .int .u64 0, .int .u64 0, .int .u64 0, .int .u64 0, .int .u64 0, .int .u64 0, .int .u64 0, .int .u64 0, .int .u64 0, .int .u64 0, .int .u64 0, .int .u64 0, .int .u64 0, .int .u64 0, .int .u64 0, .int .u64 0, .bool false], .int .i64 0, .int .u64 0], []⟩ 8 (by kernel_rfl) (by kernel_rfl) (by kernel_rfl) (by kernel_rfl)) ?_
  intro W base args ds gs before hval0 hW hcnd _
  have hval : ∀ (j : Nat) t v, Try.f4.params[j]? = some t → args[j]? = some v → Value.okWide Try.prog W .any base t v := hval0
  have hW' := hW
  obtain ⟨p, q, hA0, hV, rfl, hfz, hnd⟩ := hW
  have hA : DataW.TrodAll enc Try.prog W 0 (fun _ => true) true Try.f4.params.toList args.toList ds p := hA0
  rw [Try.params4] at hA hval
  have hAk := hA
  obtain ⟨v0, vs0, d0, ds0, p0, q0, hargs, rfl, rfl, h0, r0⟩ := trodAll_cons hA
  obtain ⟨v1, vs1, d1, ds1, p1, q1, rfl, rfl, rfl, h1, r1⟩ := trodAll_cons r0
  obtain ⟨v2, vs2, d2, ds2, p2, q2, rfl, rfl, rfl, h2, r2⟩ := trodAll_cons r1
  obtain ⟨rfl, rfl, rfl⟩ := trodAll_nil r2
  obtain rfl : args = #[v0, v1, v2] := by cases args; simp_all
  obtain ⟨rfl, rfl⟩ := trodVars_none hV
  have hlt := hW'.lt
  obtain ⟨c0, hc0, L0⟩ := open_flat (a := [some .u32, some .u64, some .u64, some .u64, some .u64, some .u64, some .u64, some .u64, some .u64, some .u64, some .u64, some .u64, some .u64, some .u64, some .u64, some .u64, some .u64, some .u64, some .u64, some .u64, some .u64, some .u64, some .u64, some .u64, some .u64, some .u64, some .u64, none]) 4 (by kernel_rfl) (by kernel_rfl) (hval 0 28 v0 rfl rfl) h0
  obtain ⟨_, r0_0, rfl, ⟨a0_0, rfl, w0_0⟩, L0_0⟩ := Leaves.cons L0
  obtain ⟨_, r0_1, rfl, ⟨a0_1, rfl, w0_1⟩, L0_1⟩ := Leaves.cons L0_0
  obtain ⟨_, r0_2, rfl, ⟨a0_2, rfl, w0_2⟩, L0_2⟩ := Leaves.cons L0_1
  obtain ⟨_, r0_3, rfl, ⟨a0_3, rfl, w0_3⟩, L0_3⟩ := Leaves.cons L0_2
  obtain ⟨_, r0_4, rfl, ⟨a0_4, rfl, w0_4⟩, L0_4⟩ := Leaves.cons L0_3
  obtain ⟨_, r0_5, rfl, ⟨a0_5, rfl, w0_5⟩, L0_5⟩ := Leaves.cons L0_4
  obtain ⟨_, r0_6, rfl, ⟨a0_6, rfl, w0_6⟩, L0_6⟩ := Leaves.cons L0_5
  obtain ⟨_, r0_7, rfl, ⟨a0_7, rfl, w0_7⟩, L0_7⟩ := Leaves.cons L0_6
  obtain ⟨_, r0_8, rfl, ⟨a0_8, rfl, w0_8⟩, L0_8⟩ := Leaves.cons L0_7
  obtain ⟨_, r0_9, rfl, ⟨a0_9, rfl, w0_9⟩, L0_9⟩ := Leaves.cons L0_8
  obtain ⟨_, r0_10, rfl, ⟨a0_10, rfl, w0_10⟩, L0_10⟩ := Leaves.cons L0_9
  obtain ⟨_, r0_11, rfl, ⟨a0_11, rfl, w0_11⟩, L0_11⟩ := Leaves.cons L0_10
  obtain ⟨_, r0_12, rfl, ⟨a0_12, rfl, w0_12⟩, L0_12⟩ := Leaves.cons L0_11
  obtain ⟨_, r0_13, rfl, ⟨a0_13, rfl, w0_13⟩, L0_13⟩ := Leaves.cons L0_12
  obtain ⟨_, r0_14, rfl, ⟨a0_14, rfl, w0_14⟩, L0_14⟩ := Leaves.cons L0_13
  obtain ⟨_, r0_15, rfl, ⟨a0_15, rfl, w0_15⟩, L0_15⟩ := Leaves.cons L0_14
  obtain ⟨_, r0_16, rfl, ⟨a0_16, rfl, w0_16⟩, L0_16⟩ := Leaves.cons L0_15
  obtain ⟨_, r0_17, rfl, ⟨a0_17, rfl, w0_17⟩, L0_17⟩ := Leaves.cons L0_16
  obtain ⟨_, r0_18, rfl, ⟨a0_18, rfl, w0_18⟩, L0_18⟩ := Leaves.cons L0_17
  obtain ⟨_, r0_19, rfl, ⟨a0_19, rfl, w0_19⟩, L0_19⟩ := Leaves.cons L0_18
  obtain ⟨_, r0_20, rfl, ⟨a0_20, rfl, w0_20⟩, L0_20⟩ := Leaves.cons L0_19
  obtain ⟨_, r0_21, rfl, ⟨a0_21, rfl, w0_21⟩, L0_21⟩ := Leaves.cons L0_20
  obtain ⟨_, r0_22, rfl, ⟨a0_22, rfl, w0_22⟩, L0_22⟩ := Leaves.cons L0_21
  obtain ⟨_, r0_23, rfl, ⟨a0_23, rfl, w0_23⟩, L0_23⟩ := Leaves.cons L0_22
  obtain ⟨_, r0_24, rfl, ⟨a0_24, rfl, w0_24⟩, L0_24⟩ := Leaves.cons L0_23
  obtain ⟨_, r0_25, rfl, ⟨a0_25, rfl, w0_25⟩, L0_25⟩ := Leaves.cons L0_24
  obtain ⟨_, r0_26, rfl, ⟨a0_26, rfl, w0_26⟩, L0_26⟩ := Leaves.cons L0_25
  obtain ⟨_, r0_27, rfl, ⟨a0_27, rfl⟩, L0_27⟩ := Leaves.cons L0_26
  obtain rfl := Leaves.nil L0_27
  subst hc0
  obtain ⟨a1, rfl, _, _, w1⟩ := open_int Try.underlying3 (hval 1 3 v1 rfl rfl) h1
  obtain ⟨a2, rfl, _, _, w2⟩ := open_int Try.underlying23 (hval 2 23 v2 rfl rfl) h2
  have hcall : Calls Try.prog 4 #[.agg #[.int .u32 a0_0, .int .u64 a0_1, .int .u64 a0_2, .int .u64 a0_3, .int .u64 a0_4, .int .u64 a0_5, .int .u64 a0_6, .int .u64 a0_7, .int .u64 a0_8, .int .u64 a0_9, .int .u64 a0_10, .int .u64 a0_11, .int .u64 a0_12, .int .u64 a0_13, .int .u64 a0_14, .int .u64 a0_15, .int .u64 a0_16, .int .u64 a0_17, .int .u64 a0_18, .int .u64 a0_19, .int .u64 a0_20, .int .u64 a0_21, .int .u64 a0_22, .int .u64 a0_23, .int .u64 a0_24, .int .u64 a0_25, .int .u64 a0_26, .bool a0_27], .int .i64 a1, .int .u64 a2] W fun e W' => e = .returned (.bool true) ∧ Below W.heap.size W W' := by
    obtain ⟨n0, rfl⟩ := Int.eq_ofNat_of_zero_le (bounds_u32 w0_0).1
    obtain ⟨b0_1, rfl⟩ := u64_of w0_1
    obtain ⟨b0_2, rfl⟩ := u64_of w0_2
    obtain ⟨b0_3, rfl⟩ := u64_of w0_3
    obtain ⟨b0_4, rfl⟩ := u64_of w0_4
    obtain ⟨b0_5, rfl⟩ := u64_of w0_5
    obtain ⟨b0_6, rfl⟩ := u64_of w0_6
    obtain ⟨b0_7, rfl⟩ := u64_of w0_7
    obtain ⟨b0_8, rfl⟩ := u64_of w0_8
    obtain ⟨b0_9, rfl⟩ := u64_of w0_9
    obtain ⟨b0_10, rfl⟩ := u64_of w0_10
    obtain ⟨b0_11, rfl⟩ := u64_of w0_11
    obtain ⟨b0_12, rfl⟩ := u64_of w0_12
    obtain ⟨b0_13, rfl⟩ := u64_of w0_13
    obtain ⟨b0_14, rfl⟩ := u64_of w0_14
    obtain ⟨b0_15, rfl⟩ := u64_of w0_15
    obtain ⟨b0_16, rfl⟩ := u64_of w0_16
    obtain ⟨b0_17, rfl⟩ := u64_of w0_17
    obtain ⟨b0_18, rfl⟩ := u64_of w0_18
    obtain ⟨b0_19, rfl⟩ := u64_of w0_19
    obtain ⟨b0_20, rfl⟩ := u64_of w0_20
    obtain ⟨b0_21, rfl⟩ := u64_of w0_21
    obtain ⟨b0_22, rfl⟩ := u64_of w0_22
    obtain ⟨b0_23, rfl⟩ := u64_of w0_23
    obtain ⟨b0_24, rfl⟩ := u64_of w0_24
    obtain ⟨b0_25, rfl⟩ := u64_of w0_25
    obtain ⟨b0_26, rfl⟩ := u64_of w0_26
    obtain ⟨z2, rfl⟩ := u64_of w2
    exact millHolds_law works_any (⟨n0, lf [b0_1, b0_2, b0_3, b0_4, b0_5, b0_6, b0_7, b0_8], lf [b0_9, b0_10, b0_11, b0_12, b0_13, b0_14, b0_15, b0_16, b0_17, b0_18, b0_19, b0_20, b0_21, b0_22, b0_23, b0_24], b0_25, b0_26, a0_27⟩ : XM) a1 z2 W
  refine hcall.mono fun e W' ⟨he, hg⟩ => ?_
  subst he
  refine ⟨_, rfl, post_of_below (pv := []) hW' (fun _ _ _ => (trodAll_cons_mk (shut_bool Try.underlying4 _) trodAll_mk0)) (fun sp hsp => args_keep millHolds_laid hg sp _ _ _ _ ?_ hAk (fun x hx => hlt x (by simpa using hx)) (fun x hx => hsp x (by simpa using hx))) (fun _ _ => rfl) (by simp) hg (ok_one (by kernel_rfl) rfl (okWide_bool_mk Try.underlying4 _))⟩
  intro t ht
  rw [Try.params4] at ht
  simp only [List.mem_cons, List.not_mem_nil, or_false] at ht
  rcases ht with rfl | rfl | rfl <;> exact ⟨by kernel_rfl, of_decide_eq_true (by kernel_rfl)⟩

theorem millHolds_over : Rows.millHoldsRow.holds Try.pinned (OpenSpec.ofChange Rows.millHoldsSpec) :=
  OpenClaim.holds_of_wide 4 Try.f4 rfl rfl rfl rfl rfl rfl rfl ⟨rfl, rfl, rfl, rfl, rfl⟩ rfl rfl rfl rfl rfl (by kernel_rfl) Try.func4 (by kernel_rfl)
    (of_decide_eq_true (by kernel_rfl)) (by unfold Func.isWrapper; rw [if_neg (of_decide_eq_false (by kernel_rfl))]; exact ⟨rfl, rfl⟩)
    (fun os started H enc _ => millHolds_lifted os started H enc)

/-- The statement. -/
theorem millHolds_holds : Rows.MillHoldsSaid :=
  millHolds_over
#print axioms millHolds_holds
end Go.Proofs.Ytjlijocnmicdpaa
