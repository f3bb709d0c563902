/- Proved: the law StoreHolds returns true for every input, and leaves its arguments as they were. No condition. -/
import Derived.Test.YtiglfbnicihpmaaStoreN
import Derived.Test.YtiglfbnicihpmaaRows
import Derived.Test.YtiglfbnicihpmaaOpen
set_option linter.unusedVariables false
set_option linter.unusedSimpArgs false
namespace Go.Proofs.Ytiglfbnicihpmaa
open Go.ChangeShapes Go.WideShapes Go.ChangeAt Go.RowKit
theorem open_words : ∀ (L : List (List Value)), (∀ u ∈ L, Leaves [some .u64, some .u64, some .u64, some .u64] u) → ∃ xs : List Vl, L.flatten = xs.flatMap wdC ∧ xs.length = L.length ∧ ∀ c ∈ xs, True
  | [], _ => ⟨[], rfl, rfl, fun c h => by simp at h⟩
  | u :: L, h => by
    obtain ⟨xs, h1, h2, h3⟩ := open_words L fun u hu => h u (by simp [hu])
    obtain ⟨_, r0, rfl, ⟨a0, rfl, w0⟩, l0⟩ := Leaves.cons (h u (by simp))
    obtain ⟨_, r1, rfl, ⟨a1, rfl, w1⟩, l1⟩ := Leaves.cons l0
    obtain ⟨_, r2, rfl, ⟨a2, rfl, w2⟩, l2⟩ := Leaves.cons l1
    obtain ⟨_, r3, rfl, ⟨a3, rfl, w3⟩, l3⟩ := Leaves.cons l2
    obtain rfl := Leaves.nil l3
    exact ⟨⟨a0, a1, a2, a3, 0⟩ :: xs, by simp [h1, wdC], by simp [h2], fun _ _ => trivial⟩

theorem storeHolds_own : ownKnob Try.prog.godebug = none := by kernel_rfl
theorem storeHolds_laid : laidOutB Try.prog = true := by kernel_rfl

set_option maxRecDepth 100000 in
theorem storeHolds_lifted (os : Os) (started : os.Started) (H : Type) (enc : TypeId × Value → H) :
    ReturnsInHanded {} Try.checked os 5 .any (Rows.storeHoldsSpec.pre6 enc Try.prog Try.f5 Rows.storeHoldsRow.domain false) (Rows.storeHoldsSpec.post enc Try.prog Try.f5 false true false false) := by
  refine returnsInHanded_of_change (C := Try.checked) storeHolds_own started (by kernel_rfl) Try.func5
    (ChangeSpec.witness6 (enc := enc) (C := Try.checked) false ⟨#[], #[.agg #[.int .u64 0, .int .u64 0, .int .u64 0, .int .u64 0, .int .u64 0, .int .u64 0, .int .u64 0, .int .u64 0, .int .u64 0, .int .u64 0, .int .u64 0, .int .u64 0, .int .u64 0, .int .u64 0, .int .u64 0], .agg #[.int .u64 0, .int .u64 0, .int .u64 0, .int .u64 0, .int .u64 0, .int .u64 0, .int .u64 0, .int .u64 0, .int .u64 0, .int .u64 0, .int .u64 0, .int .u64 0], .slice none 0 0], []⟩ 8 (by kernel_rfl) (by kernel_rfl) (by kernel_rfl) (by kernel_rfl)) ?_
  intro W base args ds gs before hval0 hW hcnd _
  have hval : ∀ (j : Nat) t v, Try.f5.params[j]? = some t → args[j]? = some v → Value.okWide Try.prog W .any base t v := hval0
  have hW' := hW
  obtain ⟨p, q, hA0, hV, rfl, hfz, hnd⟩ := hW
  have hA : DataW.TrodAll enc Try.prog W 0 (fun _ => true) true Try.f5.params.toList args.toList ds p := hA0
  rw [Try.params5] at hA hval
  have hAk := hA
  obtain ⟨v0, vs0, d0, ds0, p0, q0, hargs, rfl, rfl, h0, r0⟩ := trodAll_cons hA
  obtain ⟨v1, vs1, d1, ds1, p1, q1, rfl, rfl, rfl, h1, r1⟩ := trodAll_cons r0
  obtain ⟨v2, vs2, d2, ds2, p2, q2, rfl, rfl, rfl, h2, r2⟩ := trodAll_cons r1
  obtain ⟨rfl, rfl, rfl⟩ := trodAll_nil r2
  obtain rfl : args = #[v0, v1, v2] := by cases args; simp_all
  obtain ⟨rfl, rfl⟩ := trodVars_none hV
  have hlt := hW'.lt
  obtain ⟨c0, hc0, L0⟩ := open_flat (a := [some .u64, some .u64, some .u64, some .u64, some .u64, some .u64, some .u64, some .u64, some .u64, some .u64, some .u64, some .u64, some .u64, some .u64, some .u64]) 4 (by kernel_rfl) (by kernel_rfl) (hval 0 28 v0 rfl rfl) h0
  obtain ⟨_, r0_0, rfl, ⟨a0_0, rfl, w0_0⟩, L0_0⟩ := Leaves.cons L0
  obtain ⟨_, r0_1, rfl, ⟨a0_1, rfl, w0_1⟩, L0_1⟩ := Leaves.cons L0_0
  obtain ⟨_, r0_2, rfl, ⟨a0_2, rfl, w0_2⟩, L0_2⟩ := Leaves.cons L0_1
  obtain ⟨_, r0_3, rfl, ⟨a0_3, rfl, w0_3⟩, L0_3⟩ := Leaves.cons L0_2
  obtain ⟨_, r0_4, rfl, ⟨a0_4, rfl, w0_4⟩, L0_4⟩ := Leaves.cons L0_3
  obtain ⟨_, r0_5, rfl, ⟨a0_5, rfl, w0_5⟩, L0_5⟩ := Leaves.cons L0_4
  obtain ⟨_, r0_6, rfl, ⟨a0_6, rfl, w0_6⟩, L0_6⟩ := Leaves.cons L0_5
  obtain ⟨_, r0_7, rfl, ⟨a0_7, rfl, w0_7⟩, L0_7⟩ := Leaves.cons L0_6
  obtain ⟨_, r0_8, rfl, ⟨a0_8, rfl, w0_8⟩, L0_8⟩ := Leaves.cons L0_7
  obtain ⟨_, r0_9, rfl, ⟨a0_9, rfl, w0_9⟩, L0_9⟩ := Leaves.cons L0_8
  obtain ⟨_, r0_10, rfl, ⟨a0_10, rfl, w0_10⟩, L0_10⟩ := Leaves.cons L0_9
  obtain ⟨_, r0_11, rfl, ⟨a0_11, rfl, w0_11⟩, L0_11⟩ := Leaves.cons L0_10
  obtain ⟨_, r0_12, rfl, ⟨a0_12, rfl, w0_12⟩, L0_12⟩ := Leaves.cons L0_11
  obtain ⟨_, r0_13, rfl, ⟨a0_13, rfl, w0_13⟩, L0_13⟩ := Leaves.cons L0_12
  obtain ⟨_, r0_14, rfl, ⟨a0_14, rfl, w0_14⟩, L0_14⟩ := Leaves.cons L0_13
  obtain rfl := Leaves.nil L0_14
  subst hc0
  obtain ⟨c1, hc1, L1⟩ := open_flat (a := [some .u64, some .u64, some .u64, some .u64, some .u64, some .u64, some .u64, some .u64, some .u64, some .u64, some .u64, some .u64]) 4 (by kernel_rfl) (by kernel_rfl) (hval 1 49 v1 rfl rfl) h1
  obtain ⟨_, r1_0, rfl, ⟨a1_0, rfl, w1_0⟩, L1_0⟩ := Leaves.cons L1
  obtain ⟨_, r1_1, rfl, ⟨a1_1, rfl, w1_1⟩, L1_1⟩ := Leaves.cons L1_0
  obtain ⟨_, r1_2, rfl, ⟨a1_2, rfl, w1_2⟩, L1_2⟩ := Leaves.cons L1_1
  obtain ⟨_, r1_3, rfl, ⟨a1_3, rfl, w1_3⟩, L1_3⟩ := Leaves.cons L1_2
  obtain ⟨_, r1_4, rfl, ⟨a1_4, rfl, w1_4⟩, L1_4⟩ := Leaves.cons L1_3
  obtain ⟨_, r1_5, rfl, ⟨a1_5, rfl, w1_5⟩, L1_5⟩ := Leaves.cons L1_4
  obtain ⟨_, r1_6, rfl, ⟨a1_6, rfl, w1_6⟩, L1_6⟩ := Leaves.cons L1_5
  obtain ⟨_, r1_7, rfl, ⟨a1_7, rfl, w1_7⟩, L1_7⟩ := Leaves.cons L1_6
  obtain ⟨_, r1_8, rfl, ⟨a1_8, rfl, w1_8⟩, L1_8⟩ := Leaves.cons L1_7
  obtain ⟨_, r1_9, rfl, ⟨a1_9, rfl, w1_9⟩, L1_9⟩ := Leaves.cons L1_8
  obtain ⟨_, r1_10, rfl, ⟨a1_10, rfl, w1_10⟩, L1_10⟩ := Leaves.cons L1_9
  obtain ⟨_, r1_11, rfl, ⟨a1_11, rfl, w1_11⟩, L1_11⟩ := Leaves.cons L1_10
  obtain rfl := Leaves.nil L1_11
  subst hc1
  obtain ⟨A2, n2, k2, E2, rfl, kc2, kl2, kE2, S2, kn2⟩ := open_sl (a := [some .u64, some .u64, some .u64, some .u64]) 4 Try.underlying50 (by kernel_rfl) (by kernel_rfl) (by decide) (hval 2 50 v2 rfl rfl) h2
  obtain ⟨xs2, ke2, kx2, kw2⟩ := open_words E2 kE2
  rw [ke2] at S2
  obtain rfl : n2 = xs2.length := by omega
  have hcall : Calls Try.prog 5 #[.agg #[.int .u64 a0_0, .int .u64 a0_1, .int .u64 a0_2, .int .u64 a0_3, .int .u64 a0_4, .int .u64 a0_5, .int .u64 a0_6, .int .u64 a0_7, .int .u64 a0_8, .int .u64 a0_9, .int .u64 a0_10, .int .u64 a0_11, .int .u64 a0_12, .int .u64 a0_13, .int .u64 a0_14], .agg #[.int .u64 a1_0, .int .u64 a1_1, .int .u64 a1_2, .int .u64 a1_3, .int .u64 a1_4, .int .u64 a1_5, .int .u64 a1_6, .int .u64 a1_7, .int .u64 a1_8, .int .u64 a1_9, .int .u64 a1_10, .int .u64 a1_11], .slice A2 xs2.length k2] W fun e W' => e = .returned (.bool true) ∧ Below W.heap.size W W' := storeHolds_any ⟨a0_0, a0_1, a0_2, a0_3, a0_4⟩ ⟨a0_5, a0_6, a0_7, a0_8, a0_9⟩ ⟨a0_10, a0_11, a0_12, a0_13, a0_14⟩ ⟨a1_0, a1_1, a1_2, a1_3, 0⟩ ⟨a1_4, a1_5, a1_6, a1_7, 0⟩ ⟨a1_8, a1_9, a1_10, a1_11, 0⟩ A2 xs2 k2 W S2 kc2 (bounds_u64 w0_4)
  refine hcall.mono fun e W' ⟨he, hg⟩ => ?_
  subst he
  refine ⟨_, rfl, post_of_below (pv := []) hW' (fun _ _ _ => (trodAll_cons_mk (shut_bool Try.underlying4 _) trodAll_mk0)) (fun sp hsp => args_keep storeHolds_laid hg sp _ _ _ _ ?_ hAk (fun x hx => hlt x (by simpa using hx)) (fun x hx => hsp x (by simpa using hx))) (fun _ _ => rfl) (by simp) hg (ok_one (by kernel_rfl) rfl (okWide_bool_mk Try.underlying4 _))⟩
  intro t ht
  rw [Try.params5] at ht
  simp only [List.mem_cons, List.not_mem_nil, or_false] at ht
  rcases ht with rfl | rfl | rfl <;> exact ⟨by kernel_rfl, of_decide_eq_true (by kernel_rfl)⟩

theorem storeHolds_over : Rows.storeHoldsRow.holds Try.pinned (OpenSpec.ofChange Rows.storeHoldsSpec) :=
  OpenClaim.holds_of_wide 5 Try.f5 rfl rfl rfl rfl rfl rfl rfl ⟨rfl, rfl, rfl, rfl, rfl⟩ rfl rfl rfl rfl rfl (by kernel_rfl) Try.func5 (by kernel_rfl)
    (of_decide_eq_true (by kernel_rfl)) (by unfold Func.isWrapper; rw [if_neg (of_decide_eq_false (by kernel_rfl))]; exact ⟨rfl, rfl⟩)
    (fun os started H enc _ => storeHolds_lifted os started H enc)

/-- The statement. -/
theorem storeHolds_holds : Rows.StoreHoldsSaid :=
  storeHolds_over
#print axioms storeHolds_holds
end Go.Proofs.Ytiglfbnicihpmaa
