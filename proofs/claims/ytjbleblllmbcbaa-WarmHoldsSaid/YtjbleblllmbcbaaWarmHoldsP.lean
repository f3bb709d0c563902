/- Proved: the law WarmHolds returns true for every input, and leaves its argument as it was. No condition. -/
import Derived.Test.YtjbleblllmbcbaaWarmE
import Derived.Test.YtjbleblllmbcbaaRows
import Derived.Test.YtjbleblllmbcbaaOpen
set_option linter.unusedVariables false
set_option linter.unusedSimpArgs false
namespace Go.Proofs.Ytjbleblllmbcbaa
open Go.ChangeShapes Go.WideShapes Go.ChangeAt Go.RowKit
set_option maxRecDepth 100000 in
theorem open_acts : ∀ (L : List (List Value)), (∀ u ∈ L, Leaves [some .i64, some .u8, some .u8, some .u8, some .u8, some .u8, some .u8, some .u8, some .u8, some .u8, some .u8, some .u8, some .u8, some .u8, some .u8, some .u8, some .u8, some .u8, some .u8, some .u8, some .u8, some .u64, some .u64, some .u64, some .u64] u) → ∃ xs : List Ac, L.flatten = xs.flatMap Ac.cells ∧ xs.length = L.length ∧ ∀ c ∈ xs, True
  | [], _ => ⟨[], rfl, rfl, fun c h => by simp at h⟩
  | u :: L, h => by
    obtain ⟨xs, h1, h2, h3⟩ := open_acts L fun u hu => h u (by simp [hu])
    obtain ⟨_, r0, rfl, ⟨a0, rfl, w0⟩, l0⟩ := Leaves.cons (h u (by simp))
    obtain ⟨_, r1, rfl, ⟨a1, rfl, w1⟩, l1⟩ := Leaves.cons l0
    obtain ⟨_, r2, rfl, ⟨a2, rfl, w2⟩, l2⟩ := Leaves.cons l1
    obtain ⟨_, r3, rfl, ⟨a3, rfl, w3⟩, l3⟩ := Leaves.cons l2
    obtain ⟨_, r4, rfl, ⟨a4, rfl, w4⟩, l4⟩ := Leaves.cons l3
    obtain ⟨_, r5, rfl, ⟨a5, rfl, w5⟩, l5⟩ := Leaves.cons l4
    obtain ⟨_, r6, rfl, ⟨a6, rfl, w6⟩, l6⟩ := Leaves.cons l5
    obtain ⟨_, r7, rfl, ⟨a7, rfl, w7⟩, l7⟩ := Leaves.cons l6
    obtain ⟨_, r8, rfl, ⟨a8, rfl, w8⟩, l8⟩ := Leaves.cons l7
    obtain ⟨_, r9, rfl, ⟨a9, rfl, w9⟩, l9⟩ := Leaves.cons l8
    obtain ⟨_, r10, rfl, ⟨a10, rfl, w10⟩, l10⟩ := Leaves.cons l9
    obtain ⟨_, r11, rfl, ⟨a11, rfl, w11⟩, l11⟩ := Leaves.cons l10
    obtain ⟨_, r12, rfl, ⟨a12, rfl, w12⟩, l12⟩ := Leaves.cons l11
    obtain ⟨_, r13, rfl, ⟨a13, rfl, w13⟩, l13⟩ := Leaves.cons l12
    obtain ⟨_, r14, rfl, ⟨a14, rfl, w14⟩, l14⟩ := Leaves.cons l13
    obtain ⟨_, r15, rfl, ⟨a15, rfl, w15⟩, l15⟩ := Leaves.cons l14
    obtain ⟨_, r16, rfl, ⟨a16, rfl, w16⟩, l16⟩ := Leaves.cons l15
    obtain ⟨_, r17, rfl, ⟨a17, rfl, w17⟩, l17⟩ := Leaves.cons l16
    obtain ⟨_, r18, rfl, ⟨a18, rfl, w18⟩, l18⟩ := Leaves.cons l17
    obtain ⟨_, r19, rfl, ⟨a19, rfl, w19⟩, l19⟩ := Leaves.cons l18
    obtain ⟨_, r20, rfl, ⟨a20, rfl, w20⟩, l20⟩ := Leaves.cons l19
    obtain ⟨_, r21, rfl, ⟨a21, rfl, w21⟩, l21⟩ := Leaves.cons l20
    obtain ⟨_, r22, rfl, ⟨a22, rfl, w22⟩, l22⟩ := Leaves.cons l21
    obtain ⟨_, r23, rfl, ⟨a23, rfl, w23⟩, l23⟩ := Leaves.cons l22
    obtain ⟨_, r24, rfl, ⟨a24, rfl, w24⟩, l24⟩ := Leaves.cons l23
    obtain rfl := Leaves.nil l24
    exact ⟨⟨a0, [a1, a2, a3, a4, a5, a6, a7, a8, a9, a10, a11, a12, a13, a14, a15, a16, a17, a18, a19, a20], [a21, a22, a23, a24]⟩ :: xs, by rw [List.flatten_cons, List.flatMap_cons, h1]; rfl, by simp [h2], fun _ _ => trivial⟩

theorem warmHolds_own : ownKnob Try.prog.godebug = none := by kernel_rfl
theorem warmHolds_laid : laidOutB Try.prog = true := by kernel_rfl

set_option maxRecDepth 100000 in
theorem warmHolds_lifted (os : Os) (started : os.Started) (H : Type) (enc : TypeId × Value → H) :
    ReturnsInHanded {} Try.checked os 3 .any (Rows.warmHoldsSpec.pre6 enc Try.prog Try.f3 Rows.warmHoldsRow.domain false) (Rows.warmHoldsSpec.post enc Try.prog Try.f3 false true false false) := by
  refine returnsInHanded_of_change (C := Try.checked) warmHolds_own started (by kernel_rfl) Try.func3
    (ChangeSpec.witness6 (enc := enc) (C := Try.checked) false ⟨#[], #[.slice none 0 0], []⟩ 8 (by kernel_rfl) (by kernel_rfl) (by kernel_rfl) (by kernel_rfl)) ?_
  intro W base args ds gs before hval0 hW hcnd _
  have hval : ∀ (j : Nat) t v, Try.f3.params[j]? = some t → args[j]? = some v → Value.okWide Try.prog W .any base t v := hval0
  have hW' := hW
  obtain ⟨p, q, hA0, hV, rfl, hfz, hnd⟩ := hW
  have hA : DataW.TrodAll enc Try.prog W 0 (fun _ => true) true Try.f3.params.toList args.toList ds p := hA0
  rw [Try.params3] at hA hval
  have hAk := hA
  obtain ⟨v0, vs0, d0, ds0, p0, q0, hargs, rfl, rfl, h0, r0⟩ := trodAll_cons hA
  obtain ⟨rfl, rfl, rfl⟩ := trodAll_nil r0
  obtain rfl : args = #[v0] := by cases args; simp_all
  obtain ⟨rfl, rfl⟩ := trodVars_none hV
  have hlt := hW'.lt
  obtain ⟨A0, n0, k0, E0, rfl, kc0, kl0, kE0, S0, kn0⟩ := open_sl (a := [some .i64, some .u8, some .u8, some .u8, some .u8, some .u8, some .u8, some .u8, some .u8, some .u8, some .u8, some .u8, some .u8, some .u8, some .u8, some .u8, some .u8, some .u8, some .u8, some .u8, some .u8, some .u64, some .u64, some .u64, some .u64]) 4 Try.underlying22 (by kernel_rfl) (by kernel_rfl) (by decide) (hval 0 22 v0 rfl rfl) h0
  obtain ⟨xs0, ke0, kx0, kw0⟩ := open_acts E0 kE0
  rw [ke0] at S0
  obtain rfl : n0 = xs0.length := by omega
  have hcall : Calls Try.prog 3 #[.slice A0 xs0.length k0] W fun e W' => e = .returned (.bool true) ∧ Below W.heap.size W W' := warmHolds_any A0 xs0 k0 W S0 kc0
  refine hcall.mono fun e W' ⟨he, hg⟩ => ?_
  subst he
  refine ⟨_, rfl, post_of_below (pv := []) hW' (fun _ _ _ => (trodAll_cons_mk (shut_bool Try.underlying4 _) trodAll_mk0)) (fun sp hsp => args_keep warmHolds_laid hg sp _ _ _ _ ?_ hAk (fun x hx => hlt x (by simpa using hx)) (fun x hx => hsp x (by simpa using hx))) (fun _ _ => rfl) (by simp) hg (ok_one (by kernel_rfl) rfl (okWide_bool_mk Try.underlying4 _))⟩
  intro t ht
  rw [Try.params3] at ht
  simp only [List.mem_cons, List.not_mem_nil, or_false] at ht
  rcases ht with rfl <;> exact ⟨by kernel_rfl, of_decide_eq_true (by kernel_rfl)⟩

theorem warmHolds_over : Rows.warmHoldsRow.holds Try.pinned (OpenSpec.ofChange Rows.warmHoldsSpec) :=
  OpenClaim.holds_of_wide 3 Try.f3 rfl rfl rfl rfl rfl rfl rfl ⟨rfl, rfl, rfl, rfl, rfl⟩ rfl rfl rfl rfl rfl (by kernel_rfl) Try.func3 (by kernel_rfl)
    (of_decide_eq_true (by kernel_rfl)) (by unfold Func.isWrapper; rw [if_neg (of_decide_eq_false (by kernel_rfl))]; exact ⟨rfl, rfl⟩)
    (fun os started H enc _ => warmHolds_lifted os started H enc)

/-- The statement. -/
theorem warmHolds_holds : Rows.WarmHoldsSaid :=
  warmHolds_over
#print axioms warmHolds_holds
end Go.Proofs.Ytjbleblllmbcbaa
