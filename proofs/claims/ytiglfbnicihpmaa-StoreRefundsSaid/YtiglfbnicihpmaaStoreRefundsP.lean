/- Proved: the law StoreRefunds returns true for every input, and leaves its arguments as they were. No condition. -/
import Derived.Test.YtiglfbnicihpmaaStoreZ
import Derived.Test.YtiglfbnicihpmaaRows
import Derived.Test.YtiglfbnicihpmaaOpen
set_option linter.unusedVariables false
set_option linter.unusedSimpArgs false
namespace Go.Proofs.Ytiglfbnicihpmaa
open Go.ChangeShapes Go.WideShapes Go.ChangeAt Go.RowKit
theorem open_vals : ∀ (L : List (List Value)), (∀ u ∈ L, Leaves [some .u64, some .u64, some .u64, some .u64, some .u64] u) → ∃ xs : List Vl, L.flatten = xs.flatMap Vl.cells ∧ xs.length = L.length ∧ ∀ c ∈ xs, U c.l
  | [], _ => ⟨[], rfl, rfl, fun c h => by simp at h⟩
  | u :: L, h => by
    obtain ⟨xs, h1, h2, h3⟩ := open_vals L fun u hu => h u (by simp [hu])
    obtain ⟨_, r0, rfl, ⟨a0, rfl, w0⟩, l0⟩ := Leaves.cons (h u (by simp))
    obtain ⟨_, r1, rfl, ⟨a1, rfl, w1⟩, l1⟩ := Leaves.cons l0
    obtain ⟨_, r2, rfl, ⟨a2, rfl, w2⟩, l2⟩ := Leaves.cons l1
    obtain ⟨_, r3, rfl, ⟨a3, rfl, w3⟩, l3⟩ := Leaves.cons l2
    obtain ⟨_, r4, rfl, ⟨a4, rfl, w4⟩, l4⟩ := Leaves.cons l3
    obtain rfl := Leaves.nil l4
    refine ⟨⟨a0, a1, a2, a3, a4⟩ :: xs, by simp [h1, Vl.cells], by simp [h2], fun c hc => ?_⟩
    rcases List.mem_cons.1 hc with rfl | hc
    · exact bounds_u64 w4
    · exact h3 c hc

theorem storeRefunds_own : ownKnob Try.prog.godebug = none := by kernel_rfl
theorem storeRefunds_laid : laidOutB Try.prog = true := by kernel_rfl

set_option maxRecDepth 100000 in
theorem storeRefunds_lifted (os : Os) (started : os.Started) (H : Type) (enc : TypeId × Value → H) :
    ReturnsInHanded {} Try.checked os 4 .any (Rows.storeRefundsSpec.pre6 enc Try.prog Try.f4 Rows.storeRefundsRow.domain false) (Rows.storeRefundsSpec.post enc Try.prog Try.f4 false true false false) := by
  refine returnsInHanded_of_change (C := Try.checked) storeRefunds_own started (by kernel_rfl) Try.func4
    (ChangeSpec.witness6 (enc := enc) (C := Try.checked) false ⟨#[], #[.agg #[.int .u64 0, .int .u64 0, .int .u64 0, .int .u64 0], .slice none 0 0, .int .i64 0], []⟩ 8 (by kernel_rfl) (by kernel_rfl) (by kernel_rfl) (by kernel_rfl)) ?_
  intro W base args ds gs before hval0 hW hcnd _
  have hval : ∀ (j : Nat) t v, Try.f4.params[j]? = some t → args[j]? = some v → Value.okWide Try.prog W .any base t v := hval0
  have hW' := hW
  obtain ⟨p, q, hA0, hV, rfl, hfz, hnd⟩ := hW
  have hA : DataW.TrodAll enc Try.prog W 0 (fun _ => true) true Try.f4.params.toList args.toList ds p := hA0
  rw [Try.params4] at hA hval
  have hAk := hA
  obtain ⟨v0, vs0, d0, ds0, p0, q0, hargs, rfl, rfl, h0, r0⟩ := trodAll_cons hA
  obtain ⟨v1, vs1, d1, ds1, p1, q1, rfl, rfl, rfl, h1, r1⟩ := trodAll_cons r0
  obtain ⟨v2, vs2, d2, ds2, p2, q2, rfl, rfl, rfl, h2, r2⟩ := trodAll_cons r1
  obtain ⟨rfl, rfl, rfl⟩ := trodAll_nil r2
  obtain rfl : args = #[v0, v1, v2] := by cases args; simp_all
  obtain ⟨rfl, rfl⟩ := trodVars_none hV
  have hlt := hW'.lt
  obtain ⟨c0, hc0, L0⟩ := open_flat (a := [some .u64, some .u64, some .u64, some .u64]) 4 (by kernel_rfl) (by kernel_rfl) (hval 0 37 v0 rfl rfl) h0
  obtain ⟨_, r0_0, rfl, ⟨a0_0, rfl, w0_0⟩, L0_0⟩ := Leaves.cons L0
  obtain ⟨_, r0_1, rfl, ⟨a0_1, rfl, w0_1⟩, L0_1⟩ := Leaves.cons L0_0
  obtain ⟨_, r0_2, rfl, ⟨a0_2, rfl, w0_2⟩, L0_2⟩ := Leaves.cons L0_1
  obtain ⟨_, r0_3, rfl, ⟨a0_3, rfl, w0_3⟩, L0_3⟩ := Leaves.cons L0_2
  obtain rfl := Leaves.nil L0_3
  subst hc0
  obtain ⟨A1, n1, k1, E1, rfl, kc1, kl1, kE1, S1, kn1⟩ := open_sl (a := [some .u64, some .u64, some .u64, some .u64, some .u64]) 4 Try.underlying38 (by kernel_rfl) (by kernel_rfl) (by decide) (hval 1 38 v1 rfl rfl) h1
  obtain ⟨xs1, ke1, kx1, kw1⟩ := open_vals E1 kE1
  rw [ke1] at S1
  obtain rfl : n1 = xs1.length := by omega
  obtain ⟨a2, rfl, _, _, w2⟩ := open_int Try.underlying3 (hval 2 3 v2 rfl rfl) h2
  have hcall : Calls Try.prog 4 #[.agg #[.int .u64 a0_0, .int .u64 a0_1, .int .u64 a0_2, .int .u64 a0_3], .slice A1 xs1.length k1, .int .i64 a2] W fun e W' => e = .returned (.bool true) ∧ Below W.heap.size W W' := refunds_any A1 ⟨a0_0, a0_1, a0_2, a0_3⟩ xs1 k1 a2 W S1 kc1 ⟨bounds_u64 w0_2, (bounds_u64 w0_1).1, bounds_u64 w0_3⟩ kw1
  refine hcall.mono fun e W' ⟨he, hg⟩ => ?_
  subst he
  refine ⟨_, rfl, post_of_below (pv := []) hW' (fun _ _ _ => (trodAll_cons_mk (shut_bool Try.underlying4 _) trodAll_mk0)) (fun sp hsp => args_keep storeRefunds_laid hg sp _ _ _ _ ?_ hAk (fun x hx => hlt x (by simpa using hx)) (fun x hx => hsp x (by simpa using hx))) (fun _ _ => rfl) (by simp) hg (ok_one (by kernel_rfl) rfl (okWide_bool_mk Try.underlying4 _))⟩
  intro t ht
  rw [Try.params4] at ht
  simp only [List.mem_cons, List.not_mem_nil, or_false] at ht
  rcases ht with rfl | rfl | rfl <;> exact ⟨by kernel_rfl, of_decide_eq_true (by kernel_rfl)⟩

theorem storeRefunds_over : Rows.storeRefundsRow.holds Try.pinned (OpenSpec.ofChange Rows.storeRefundsSpec) :=
  OpenClaim.holds_of_wide 4 Try.f4 rfl rfl rfl rfl rfl rfl rfl ⟨rfl, rfl, rfl, rfl, rfl⟩ rfl rfl rfl rfl rfl (by kernel_rfl) Try.func4 (by kernel_rfl)
    (of_decide_eq_true (by kernel_rfl)) (by unfold Func.isWrapper; rw [if_neg (of_decide_eq_false (by kernel_rfl))]; exact ⟨rfl, rfl⟩)
    (fun os started H enc _ => storeRefunds_lifted os started H enc)

/-- The statement. -/
theorem storeRefunds_holds : Rows.StoreRefundsSaid :=
  storeRefunds_over
#print axioms storeRefunds_holds
end Go.Proofs.Ytiglfbnicihpmaa
