/- Proved: the law PriceReaches returns true for every input, and leaves its arguments as they were. No condition. -/
import Derived.Test.YtclgoamhbakdlaaPriceX
import Derived.Test.YtclgoamhbakdlaaRows
import Derived.Test.YtclgoamhbakdlaaOpen
set_option linter.unusedVariables false
set_option linter.unusedSimpArgs false
namespace Go.Proofs.Ytclgoamhbakdlaa
open Go.ChangeShapes Go.WideShapes Go.ChangeAt Go.RowKit
theorem open_pairs : ∀ (L : List (List Value)), (∀ u ∈ L, Leaves [some .u64, some .u64, some .u64, some .u64, some .u64, some .u64, some .u64, some .u64] u) → ∃ xs : List WW, L.flatten = pairsC xs ∧ xs.length = L.length ∧ True
  | [], _ => ⟨[], rfl, rfl, trivial⟩
  | u :: L, h => by
    obtain ⟨xs, h1, h2, _⟩ := open_pairs L fun u hu => h u (by simp [hu])
    obtain ⟨_, r0, rfl, ⟨a0, rfl, w0⟩, l0⟩ := Leaves.cons (h u (by simp))
    obtain ⟨_, r1, rfl, ⟨a1, rfl, w1⟩, l1⟩ := Leaves.cons l0
    obtain ⟨_, r2, rfl, ⟨a2, rfl, w2⟩, l2⟩ := Leaves.cons l1
    obtain ⟨_, r3, rfl, ⟨a3, rfl, w3⟩, l3⟩ := Leaves.cons l2
    obtain ⟨_, r4, rfl, ⟨a4, rfl, w4⟩, l4⟩ := Leaves.cons l3
    obtain ⟨_, r5, rfl, ⟨a5, rfl, w5⟩, l5⟩ := Leaves.cons l4
    obtain ⟨_, r6, rfl, ⟨a6, rfl, w6⟩, l6⟩ := Leaves.cons l5
    obtain ⟨_, r7, rfl, ⟨a7, rfl, w7⟩, l7⟩ := Leaves.cons l6
    obtain rfl := Leaves.nil l7
    obtain ⟨p0, p1, p2, p3⟩ := wOf_parts (bounds_u64 w0) (bounds_u64 w1) (bounds_u64 w2) (bounds_u64 w3)
    obtain ⟨p4, p5, p6, p7⟩ := wOf_parts (bounds_u64 w4) (bounds_u64 w5) (bounds_u64 w6) (bounds_u64 w7)
    refine ⟨(wOf a0 a1 a2 a3, wOf a4 a5 a6 a7) :: xs, ?_, by simp [h2], trivial⟩
    simp only [List.flatten_cons, h1, pairsC, List.flatMap_cons, pairC, p0, p1, p2, p3, p4, p5, p6, p7]

theorem priceReaches_own : ownKnob Try.prog.godebug = none := by kernel_rfl
theorem priceReaches_laid : laidOutB Try.prog = true := by kernel_rfl

set_option maxRecDepth 100000 in
theorem priceReaches_lifted (os : Os) (started : os.Started) (H : Type) (enc : TypeId × Value → H) :
    ReturnsInHanded {} Try.checked os 6 .any (Rows.priceReachesSpec.pre6 enc Try.prog Try.f6 Rows.priceReachesRow.domain false) (Rows.priceReachesSpec.post enc Try.prog Try.f6 false true false false) := by
  refine returnsInHanded_of_change (C := Try.checked) priceReaches_own started (by kernel_rfl) Try.func6
    (ChangeSpec.witness6 (enc := enc) (C := Try.checked) false ⟨#[], #[.int .i64 0, .slice none 0 0, .int .i64 0], []⟩ 8 (by kernel_rfl) (by kernel_rfl) (by kernel_rfl) (by kernel_rfl)) ?_
  intro W base args ds gs before hval0 hW hcnd _
  have hval : ∀ (j : Nat) t v, Try.f6.params[j]? = some t → args[j]? = some v → Value.okWide Try.prog W .any base t v := hval0
  have hW' := hW
  obtain ⟨p, q, hA0, hV, rfl, hfz, hnd⟩ := hW
  have hA : DataW.TrodAll enc Try.prog W 0 (fun _ => true) true Try.f6.params.toList args.toList ds p := hA0
  rw [Try.params6] at hA hval
  have hAk := hA
  obtain ⟨v0, vs0, d0, ds0, p0, q0, hargs, rfl, rfl, h0, r0⟩ := trodAll_cons hA
  obtain ⟨v1, vs1, d1, ds1, p1, q1, rfl, rfl, rfl, h1, r1⟩ := trodAll_cons r0
  obtain ⟨v2, vs2, d2, ds2, p2, q2, rfl, rfl, rfl, h2, r2⟩ := trodAll_cons r1
  obtain ⟨rfl, rfl, rfl⟩ := trodAll_nil r2
  obtain rfl : args = #[v0, v1, v2] := by cases args; simp_all
  obtain ⟨rfl, rfl⟩ := trodVars_none hV
  have hlt := hW'.lt
  obtain ⟨a0, rfl, _, _, w0⟩ := open_int Try.underlying3 (hval 0 3 v0 rfl rfl) h0
  obtain ⟨A1, n1, k1, E1, rfl, kc1, kl1, kE1, S1, kn1⟩ := open_sl (a := [some .u64, some .u64, some .u64, some .u64, some .u64, some .u64, some .u64, some .u64]) 4 Try.underlying49 (by kernel_rfl) (by kernel_rfl) (by decide) (hval 1 49 v1 rfl rfl) h1
  obtain ⟨xs1, ke1, kx1, kw1⟩ := open_pairs E1 kE1
  rw [ke1] at S1
  obtain rfl : n1 = xs1.length := by omega
  obtain ⟨a2, rfl, _, _, w2⟩ := open_int Try.underlying3 (hval 2 3 v2 rfl rfl) h2
  have hcall : Calls Try.prog 6 #[.int .i64 a0, .slice A1 xs1.length k1, .int .i64 a2] W fun e W' => e = .returned (.bool true) ∧ Below W.heap.size W W' := preach_any A1 a0 xs1 k1 a2 W S1 kc1
  refine hcall.mono fun e W' ⟨he, hg⟩ => ?_
  subst he
  refine ⟨_, rfl, post_of_below (pv := []) hW' (fun _ _ _ => (trodAll_cons_mk (shut_bool Try.underlying4 _) trodAll_mk0)) (fun sp hsp => args_keep priceReaches_laid hg sp _ _ _ _ ?_ hAk (fun x hx => hlt x (by simpa using hx)) (fun x hx => hsp x (by simpa using hx))) (fun _ _ => rfl) (by simp) hg (ok_one (by kernel_rfl) rfl (okWide_bool_mk Try.underlying4 _))⟩
  intro t ht
  rw [Try.params6] at ht
  simp only [List.mem_cons, List.not_mem_nil, or_false] at ht
  rcases ht with rfl | rfl | rfl <;> exact ⟨by kernel_rfl, of_decide_eq_true (by kernel_rfl)⟩

theorem priceReaches_over : Rows.priceReachesRow.holds Try.pinned (OpenSpec.ofChange Rows.priceReachesSpec) :=
  OpenClaim.holds_of_wide 6 Try.f6 rfl rfl rfl rfl rfl rfl rfl ⟨rfl, rfl, rfl, rfl, rfl⟩ rfl rfl rfl rfl rfl (by kernel_rfl) Try.func6 (by kernel_rfl)
    (of_decide_eq_true (by kernel_rfl)) (by unfold Func.isWrapper; rw [if_neg (of_decide_eq_false (by kernel_rfl))]; exact ⟨rfl, rfl⟩)
    (fun os started H enc _ => priceReaches_lifted os started H enc)

/-- The statement. -/
theorem priceReaches_holds : Rows.PriceReachesSaid :=
  priceReaches_over
#print axioms priceReaches_holds
end Go.Proofs.Ytclgoamhbakdlaa
