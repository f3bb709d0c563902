/- Proved: the law PriceKinds returns true for every input, and leaves its arguments as they were. No condition. -/
import Derived.Test.YtclgoamhbakdlaaPriceK
import Derived.Test.YtclgoamhbakdlaaBytO
import Derived.Test.YtclgoamhbakdlaaRows
import Derived.Test.YtclgoamhbakdlaaOpen
set_option linter.unusedVariables false
set_option linter.unusedSimpArgs false
namespace Go.Proofs.Ytclgoamhbakdlaa
open Go.ChangeShapes Go.WideShapes Go.ChangeAt Go.RowKit

theorem priceKinds_own : ownKnob Try.prog.godebug = none := by kernel_rfl
theorem priceKinds_laid : laidOutB Try.prog = true := by kernel_rfl

set_option maxRecDepth 100000 in
theorem priceKinds_lifted (os : Os) (started : os.Started) (H : Type) (enc : TypeId × Value → H) :
    ReturnsInHanded {} Try.checked os 4 .any (Rows.priceKindsSpec.pre6 enc Try.prog Try.f4 Rows.priceKindsRow.domain false) (Rows.priceKindsSpec.post enc Try.prog Try.f4 false true false false) := by
  refine returnsInHanded_of_change (C := Try.checked) priceKinds_own started (by kernel_rfl) Try.func4
    (ChangeSpec.witness6 (enc := enc) (C := Try.checked) false ⟨#[], #[.int .i64 0, .int .i64 0, .slice none 0 0], []⟩ 8 (by kernel_rfl) (by kernel_rfl) (by kernel_rfl) (by kernel_rfl)) ?_
  intro W base args ds gs before hval0 hW hcnd _
  have hval : ∀ (j : Nat) t v, Try.f4.params[j]? = some t → args[j]? = some v → Value.okWide Try.prog W .any base t v := hval0
  have hW' := hW
  obtain ⟨p, q, hA0, hV, rfl, hfz, hnd⟩ := hW
  have hA : DataW.TrodAll enc Try.prog W 0 (fun _ => true) true Try.f4.params.toList args.toList ds p := hA0
  rw [Try.params4] at hA hval
  have hAk := hA
  obtain ⟨v0, vs0, d0, ds0, p0, q0, hargs, rfl, rfl, h0, r0⟩ := trodAll_cons hA
  obtain ⟨v1, vs1, d1, ds1, p1, q1, rfl, rfl, rfl, h1, r1⟩ := trodAll_cons r0
  obtain ⟨v2, vs2, d2, ds2, p2, q2, rfl, rfl, rfl, h2, r2⟩ := trodAll_cons r1
  obtain ⟨rfl, rfl, rfl⟩ := trodAll_nil r2
  obtain rfl : args = #[v0, v1, v2] := by cases args; simp_all
  obtain ⟨rfl, rfl⟩ := trodVars_none hV
  have hlt := hW'.lt
  obtain ⟨a0, rfl, _, _, w0⟩ := open_int Try.underlying3 (hval 0 3 v0 rfl rfl) h0
  obtain ⟨a1, rfl, _, _, w1⟩ := open_int Try.underlying3 (hval 1 3 v1 rfl rfl) h1
  obtain ⟨A2, n2, k2, E2, rfl, kc2, kl2, kE2, S2, kn2⟩ := open_sl (a := [some .u8]) 4 Try.underlying33 (by kernel_rfl) (by kernel_rfl) (by decide) (hval 2 33 v2 rfl rfl) h2
  obtain ⟨xs2, ke2, kx2, kw2⟩ := open_bytes E2 kE2
  rw [ke2] at S2
  obtain rfl : n2 = xs2.length := by omega
  have hcall : Calls Try.prog 4 #[.int .i64 a0, .int .i64 a1, .slice A2 xs2.length k2] W fun e W' => e = .returned (.bool true) ∧ Below W.heap.size W W' := by
    by_cases hm : 300 < xs2.length
    · exact kinds_s _ _ _ _ _ _ hm
    · exact kinds_g a0 a1 A2 xs2 k2 W S2 kc2 (fun h => ⟨List.eq_nil_of_length_eq_zero (kn2 h).1, (kn2 h).2⟩) (by omega)
  refine hcall.mono fun e W' ⟨he, hg⟩ => ?_
  subst he
  refine ⟨_, rfl, post_of_below (pv := []) hW' (fun _ _ _ => (trodAll_cons_mk (shut_bool Try.underlying4 _) trodAll_mk0)) (fun sp hsp => args_keep priceKinds_laid hg sp _ _ _ _ ?_ hAk (fun x hx => hlt x (by simpa using hx)) (fun x hx => hsp x (by simpa using hx))) (fun _ _ => rfl) (by simp) hg (ok_one (by kernel_rfl) rfl (okWide_bool_mk Try.underlying4 _))⟩
  intro t ht
  rw [Try.params4] at ht
  simp only [List.mem_cons, List.not_mem_nil, or_false] at ht
  rcases ht with rfl | rfl | rfl <;> exact ⟨by kernel_rfl, of_decide_eq_true (by kernel_rfl)⟩

theorem priceKinds_over : Rows.priceKindsRow.holds Try.pinned (OpenSpec.ofChange Rows.priceKindsSpec) :=
  OpenClaim.holds_of_wide 4 Try.f4 rfl rfl rfl rfl rfl rfl rfl ⟨rfl, rfl, rfl, rfl, rfl⟩ rfl rfl rfl rfl rfl (by kernel_rfl) Try.func4 (by kernel_rfl)
    (of_decide_eq_true (by kernel_rfl)) (by unfold Func.isWrapper; rw [if_neg (of_decide_eq_false (by kernel_rfl))]; exact ⟨rfl, rfl⟩)
    (fun os started H enc _ => priceKinds_lifted os started H enc)

/-- The statement. -/
theorem priceKinds_holds : Rows.PriceKindsSaid :=
  priceKinds_over
#print axioms priceKinds_holds
end Go.Proofs.Ytclgoamhbakdlaa
