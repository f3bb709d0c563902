/- Proved: the law TagAlike returns true for every input, and leaves its arguments as they were. No condition. -/
import Derived.Test.YtknkepokkenokaaTagX
import Derived.Test.YtknkepokkenokaaTagO
import Derived.Test.YtknkepokkenokaaRows
import Derived.Test.YtknkepokkenokaaOpen
set_option linter.unusedVariables false
set_option linter.unusedSimpArgs false
namespace Go.Proofs.Ytknkepokkenokaa
open Go.ChangeShapes Go.WideShapes Go.ChangeAt Go.RowKit

theorem tagAlike_own : ownKnob Try.prog.godebug = none := by kernel_rfl
theorem tagAlike_laid : laidOutB Try.prog = true := by kernel_rfl

set_option maxRecDepth 100000 in
theorem tagAlike_lifted (os : Os) (started : os.Started) (H : Type) (enc : TypeId × Value → H) :
    ReturnsInHanded {} Try.checked os 6 .any (Rows.tagAlikeSpec.pre6 enc Try.prog Try.f6 Rows.tagAlikeRow.domain false) (Rows.tagAlikeSpec.post enc Try.prog Try.f6 false true false false) := by
  refine returnsInHanded_of_change (C := Try.checked) tagAlike_own started (by kernel_rfl) Try.func6
    (ChangeSpec.witness6 (enc := enc) (C := Try.checked) false ⟨#[], #[.slice none 0 0, .slice none 0 0, .agg #[.int .u64 0, .int .u64 0, .int .u64 0, .int .u64 0, .int .u64 0, .int .u64 0, .int .u64 0, .int .u64 0, .int .u64 0, .int .u64 0]], []⟩ 8 (by kernel_rfl) (by kernel_rfl) (by kernel_rfl) (by kernel_rfl)) ?_
  intro W base args ds gs before hval0 hW hcnd _
  have hval : ∀ (j : Nat) t v, Try.f6.params[j]? = some t → args[j]? = some v → Value.okWide Try.prog W .any base t v := hval0
  have hW' := hW
  obtain ⟨p, q, hA0, hV, rfl, hfz, hnd⟩ := hW
  have hA : DataW.TrodAll enc Try.prog W 0 (fun _ => true) true Try.f6.params.toList args.toList ds p := hA0
  rw [Try.params6] at hA hval
  have hAk := hA
  obtain ⟨v0, vs0, d0, ds0, p0, q0, hargs, rfl, rfl, h0, r0⟩ := trodAll_cons hA
  obtain ⟨v1, vs1, d1, ds1, p1, q1, rfl, rfl, rfl, h1, r1⟩ := trodAll_cons r0
  obtain ⟨v2, vs2, d2, ds2, p2, q2, rfl, rfl, rfl, h2, r2⟩ := trodAll_cons r1
  obtain ⟨rfl, rfl, rfl⟩ := trodAll_nil r2
  obtain rfl : args = #[v0, v1, v2] := by cases args; simp_all
  obtain ⟨rfl, rfl⟩ := trodVars_none hV
  have hlt := hW'.lt
  obtain ⟨A0, n0, k0, E0, rfl, kc0, kl0, kE0, S0, kn0⟩ := open_sl (a := [some .u8, some .u64]) 4 Try.underlying22 (by kernel_rfl) (by kernel_rfl) (by decide) (hval 0 22 v0 rfl rfl) h0
  obtain ⟨xs0, ke0, kx0, kw0⟩ := open_cells E0 kE0
  rw [ke0] at S0
  obtain rfl : n0 = xs0.length := by omega
  obtain ⟨A1, n1, k1, E1, rfl, kc1, kl1, kE1, S1, kn1⟩ := open_sl (a := [some .u8, some .u64]) 4 Try.underlying22 (by kernel_rfl) (by kernel_rfl) (by decide) (hval 1 22 v1 rfl rfl) h1
  obtain ⟨xs1, ke1, kx1, kw1⟩ := open_cells E1 kE1
  rw [ke1] at S1
  obtain rfl : n1 = xs1.length := by omega
  obtain ⟨c2, hc2, L2⟩ := open_flat (a := [some .u64, some .u64, some .u64, some .u64, some .u64, some .u64, some .u64, some .u64, some .u64, some .u64]) 4 (by kernel_rfl) (by kernel_rfl) (hval 2 49 v2 rfl rfl) h2
  obtain ⟨_, r2_0, rfl, ⟨a2_0, rfl, w2_0⟩, L2_0⟩ := Leaves.cons L2
  obtain ⟨_, r2_1, rfl, ⟨a2_1, rfl, w2_1⟩, L2_1⟩ := Leaves.cons L2_0
  obtain ⟨_, r2_2, rfl, ⟨a2_2, rfl, w2_2⟩, L2_2⟩ := Leaves.cons L2_1
  obtain ⟨_, r2_3, rfl, ⟨a2_3, rfl, w2_3⟩, L2_3⟩ := Leaves.cons L2_2
  obtain ⟨_, r2_4, rfl, ⟨a2_4, rfl, w2_4⟩, L2_4⟩ := Leaves.cons L2_3
  obtain ⟨_, r2_5, rfl, ⟨a2_5, rfl, w2_5⟩, L2_5⟩ := Leaves.cons L2_4
  obtain ⟨_, r2_6, rfl, ⟨a2_6, rfl, w2_6⟩, L2_6⟩ := Leaves.cons L2_5
  obtain ⟨_, r2_7, rfl, ⟨a2_7, rfl, w2_7⟩, L2_7⟩ := Leaves.cons L2_6
  obtain ⟨_, r2_8, rfl, ⟨a2_8, rfl, w2_8⟩, L2_8⟩ := Leaves.cons L2_7
  obtain ⟨_, r2_9, rfl, ⟨a2_9, rfl, w2_9⟩, L2_9⟩ := Leaves.cons L2_8
  obtain rfl := Leaves.nil L2_9
  subst hc2
  have hcall : Calls Try.prog 6 #[.slice A0 xs0.length k0, .slice A1 xs1.length k1, .agg #[.int .u64 a2_0, .int .u64 a2_1, .int .u64 a2_2, .int .u64 a2_3, .int .u64 a2_4, .int .u64 a2_5, .int .u64 a2_6, .int .u64 a2_7, .int .u64 a2_8, .int .u64 a2_9]] W fun e W' => e = .returned (.bool true) ∧ Below W.heap.size W W' := talike_any A0 xs0 k0 A1 xs1 k1 a2_0 a2_1 a2_2 a2_3 a2_4 a2_5 a2_6 a2_7 a2_8 a2_9 W S0 kc0 (fun h => ⟨List.eq_nil_of_length_eq_zero (kn0 h).1, (kn0 h).2⟩) S1 kc1 (fun x hx => bounds_u64 (kw0 x hx).2) (bounds_u64 w2_4)
  refine hcall.mono fun e W' ⟨he, hg⟩ => ?_
  subst he
  refine ⟨_, rfl, post_of_below (pv := []) hW' (fun _ _ _ => (trodAll_cons_mk (shut_bool Try.underlying4 _) trodAll_mk0)) (fun sp hsp => args_keep tagAlike_laid hg sp _ _ _ _ ?_ hAk (fun x hx => hlt x (by simpa using hx)) (fun x hx => hsp x (by simpa using hx))) (fun _ _ => rfl) (by simp) hg (ok_one (by kernel_rfl) rfl (okWide_bool_mk Try.underlying4 _))⟩
  intro t ht
  rw [Try.params6] at ht
  simp only [List.mem_cons, List.not_mem_nil, or_false] at ht
  rcases ht with rfl | rfl | rfl <;> exact ⟨by kernel_rfl, of_decide_eq_true (by kernel_rfl)⟩

theorem tagAlike_over : Rows.tagAlikeRow.holds Try.pinned (OpenSpec.ofChange Rows.tagAlikeSpec) :=
  OpenClaim.holds_of_wide 6 Try.f6 rfl rfl rfl rfl rfl rfl rfl ⟨rfl, rfl, rfl, rfl, rfl⟩ rfl rfl rfl rfl rfl (by kernel_rfl) Try.func6 (by kernel_rfl)
    (of_decide_eq_true (by kernel_rfl)) (by unfold Func.isWrapper; rw [if_neg (of_decide_eq_false (by kernel_rfl))]; exact ⟨rfl, rfl⟩)
    (fun os started H enc _ => tagAlike_lifted os started H enc)

/-- The statement. -/
theorem tagAlike_holds : Rows.TagAlikeSaid :=
  tagAlike_over
#print axioms tagAlike_holds
end Go.Proofs.Ytknkepokkenokaa
