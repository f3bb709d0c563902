/- Proved: the law MillBytes returns true for every input, and leaves its arguments as they were. No condition. -/
import Derived.Test.YtjlijocnmicdpaaMB2
import Derived.Test.YtjlijocnmicdpaaMB3
import Derived.Test.YtjlijocnmicdpaaBytO
import Derived.Test.YtjlijocnmicdpaaRows
import Derived.Test.YtjlijocnmicdpaaOpen
set_option linter.unusedVariables false
set_option linter.unusedSimpArgs false
namespace Go.Proofs.Ytjlijocnmicdpaa
open Go.ChangeShapes Go.WideShapes Go.ChangeAt Go.RowKit
theorem open_bytes8 (L : List (List Value)) (h : ∀ u ∈ L, Leaves [some .u8] u) : ∃ xs : List (BitVec 8), L.flatten = u8Y (natY xs) ∧ xs.length = L.length ∧ True := by
  obtain ⟨xs, h1, h2, h3⟩ := open_bytes L h
  refine ⟨xs.map (BitVec.ofInt 8), ?_, by simp [h2], trivial⟩
  rw [h1]
  unfold bytesC natY u8Y
  rw [List.map_map, List.map_map]
  refine List.map_congr_left fun a ha => ?_
  have hw := h3 a ha
  simp [Lit.wf, IntKind.min, IntKind.max, IntKind.signed, IntKind.bits] at hw
  show Value.int .u8 a = Value.int .u8 (((BitVec.ofInt 8 a).toNat : Nat) : Int)
  rw [BitVec.toNat_ofInt]
  congr 1
  omega
theorem u64_of {a : Int} (h : (Lit.int .u64 a).wf = true) : ∃ b : BitVec 64, a = (b.toNat : Int) := by
  simp [Lit.wf, IntKind.min, IntKind.max, IntKind.signed, IntKind.bits] at h
  refine ⟨BitVec.ofInt 64 a, ?_⟩
  rw [BitVec.toNat_ofInt]; omega
theorem u32_of {a : Int} (h : (Lit.int .u32 a).wf = true) : ∃ b : BitVec 32, a = (b.toNat : Int) := by
  simp [Lit.wf, IntKind.min, IntKind.max, IntKind.signed, IntKind.bits] at h
  refine ⟨BitVec.ofInt 32 a, ?_⟩
  rw [BitVec.toNat_ofInt]; omega
def lf (l : List (BitVec 64)) : Nat → BitVec 64 := fun i => l.getD i 0#64
theorem millBytes_own : ownKnob Try.prog.godebug = none := by kernel_rfl
theorem millBytes_laid : laidOutB Try.prog = true := by kernel_rfl

set_option maxRecDepth 100000 in
theorem millBytes_lifted (os : Os) (started : os.Started) (H : Type) (enc : TypeId × Value → H) :
    ReturnsInHanded {} Try.checked os 5 .any (Rows.millBytesSpec.pre6 enc Try.prog Try.f5 Rows.millBytesRow.domain false) (Rows.millBytesSpec.post enc Try.prog Try.f5 false true false false) := by
  refine returnsInHanded_of_change (C := Try.checked) millBytes_own started (by kernel_rfl) Try.func5
    (ChangeSpec.witness6 (enc := enc) (C := Try.checked) false ⟨#[], #[.agg #[.int .u32 0, .int .u64 0, .int .u64 0, .int .u64 0, .int .u64 0, .int .u64 0, .int .u64 0, .int .u64 0, .int .u64 0, .int .u64 0, .int .u64 0, .int .u64 0, .int .u64 0, .int .u64 0, .int .u64 0, .int .u64 0, .int .u64 0, .int .u64 0, .int .u64 0, .int .u64 0, .int .u64 0, .int .u64 0, .int .u64 0, .int .u64 0, .int .u64 0, .int .u64 0, .int .u64 0, .bool false], .slice none 0 0], []⟩ 8 (by kernel_rfl) (by kernel_rfl) (by kernel_rfl) (by kernel_rfl)) ?_
  intro W base args ds gs before hval0 hW hcnd _
  have hval : ∀ (j : Nat) t v, Try.f5.params[j]? = some t → args[j]? = some v → Value.okWide Try.prog W .any base t v := hval0
  have hW' := hW
  obtain ⟨p, q, hA0, hV, rfl, hfz, hnd⟩ := hW
  have hA : DataW.TrodAll enc Try.prog W 0 (fun _ => true) true Try.f5.params.toList args.toList ds p := hA0
  rw [Try.params5] at hA hval
  have hAk := hA
  obtain ⟨v0, vs0, d0, ds0, p0, q0, hargs, rfl, rfl, h0, r0⟩ := trodAll_cons hA
  obtain ⟨v1, vs1, d1, ds1, p1, q1, rfl, rfl, rfl, h1, r1⟩ := trodAll_cons r0
  obtain ⟨rfl, rfl, rfl⟩ := trodAll_nil r1
  obtain rfl : args = #[v0, v1] := by cases args; simp_all
  obtain ⟨rfl, rfl⟩ := trodVars_none hV
  have hlt := hW'.lt
  obtain ⟨c0, hc0, L0⟩ := open_flat (a := [some .u32, some .u64, some .u64, some .u64, some .u64, some .u64, some .u64, some .u64, some .u64, some .u64, some .u64, some .u64, some .u64, some .u64, some .u64, some .u64, some .u64, some .u64, some .u64, some .u64, some .u64, some .u64, some .u64, some .u64, some .u64, some .u64, some .u64, none]) 4 (by kernel_rfl) (by kernel_rfl) (hval 0 28 v0 rfl rfl) h0
  obtain ⟨_, r0_0, rfl, ⟨a0_0, rfl, w0_0⟩, L0_0⟩ := Leaves.cons L0
  obtain ⟨_, r0_1, rfl, ⟨a0_1, rfl, w0_1⟩, L0_1⟩ := Leaves.cons L0_0
  obtain ⟨_, r0_2, rfl, ⟨a0_2, rfl, w0_2⟩, L0_2⟩ := Leaves.cons L0_1
  obtain ⟨_, r0_3, rfl, ⟨a0_3, rfl, w0_3⟩, L0_3⟩ := Leaves.cons L0_2
  obtain ⟨_, r0_4, rfl, ⟨a0_4, rfl, w0_4⟩, L0_4⟩ := Leaves.cons L0_3
  obtain ⟨_, r0_5, rfl, ⟨a0_5, rfl, w0_5⟩, L0_5⟩ := Leaves.cons L0_4
  obtain ⟨_, r0_6, rfl, ⟨a0_6, rfl, w0_6⟩, L0_6⟩ := Leaves.cons L0_5
  obtain ⟨_, r0_7, rfl, ⟨a0_7, rfl, w0_7⟩, L0_7⟩ := Leaves.cons L0_6
  obtain ⟨_, r0_8, rfl, ⟨a0_8, rfl, w0_8⟩, L0_8⟩ := Leaves.cons L0_7
  obtain ⟨_, r0_9, rfl, ⟨a0_9, rfl, w0_9⟩, L0_9⟩ := Leaves.cons L0_8
  obtain ⟨_, r0_10, rfl, ⟨a0_10, rfl, w0_10⟩, L0_10⟩ := Leaves.cons L0_9
  obtain ⟨_, r0_11, rfl, ⟨a0_11, rfl, w0_11⟩, L0_11⟩ := Leaves.cons L0_10
  obtain ⟨_, r0_12, rfl, ⟨a0_12, rfl, w0_12⟩, L0_12⟩ := Leaves.cons L0_11
  obtain ⟨_, r0_13, rfl, ⟨a0_13, rfl, w0_13⟩, L0_13⟩ := Leaves.cons L0_12
  obtain ⟨_, r0_14, rfl, ⟨a0_14, rfl, w0_14⟩, L0_14⟩ := Leaves.cons L0_13
  obtain ⟨_, r0_15, rfl, ⟨a0_15, rfl, w0_15⟩, L0_15⟩ := Leaves.cons L0_14
  obtain ⟨_, r0_16, rfl, ⟨a0_16, rfl, w0_16⟩, L0_16⟩ := Leaves.cons L0_15
  obtain ⟨_, r0_17, rfl, ⟨a0_17, rfl, w0_17⟩, L0_17⟩ := Leaves.cons L0_16
  obtain ⟨_, r0_18, rfl, ⟨a0_18, rfl, w0_18⟩, L0_18⟩ := Leaves.cons L0_17
  obtain ⟨_, r0_19, rfl, ⟨a0_19, rfl, w0_19⟩, L0_19⟩ := Leaves.cons L0_18
  obtain ⟨_, r0_20, rfl, ⟨a0_20, rfl, w0_20⟩, L0_20⟩ := Leaves.cons L0_19
  obtain ⟨_, r0_21, rfl, ⟨a0_21, rfl, w0_21⟩, L0_21⟩ := Leaves.cons L0_20
  obtain ⟨_, r0_22, rfl, ⟨a0_22, rfl, w0_22⟩, L0_22⟩ := Leaves.cons L0_21
  obtain ⟨_, r0_23, rfl, ⟨a0_23, rfl, w0_23⟩, L0_23⟩ := Leaves.cons L0_22
  obtain ⟨_, r0_24, rfl, ⟨a0_24, rfl, w0_24⟩, L0_24⟩ := Leaves.cons L0_23
  obtain ⟨_, r0_25, rfl, ⟨a0_25, rfl, w0_25⟩, L0_25⟩ := Leaves.cons L0_24
  obtain ⟨_, r0_26, rfl, ⟨a0_26, rfl, w0_26⟩, L0_26⟩ := Leaves.cons L0_25
  obtain ⟨_, r0_27, rfl, ⟨a0_27, rfl⟩, L0_27⟩ := Leaves.cons L0_26
  obtain rfl := Leaves.nil L0_27
  subst hc0
  obtain ⟨A1, n1, k1, E1, rfl, kc1, kl1, kE1, S1, kn1⟩ := open_sl (a := [some .u8]) 4 Try.underlying39 (by kernel_rfl) (by kernel_rfl) (by decide) (hval 1 39 v1 rfl rfl) h1
  obtain ⟨xs1, ke1, kx1, kw1⟩ := open_bytes8 E1 kE1
  rw [ke1] at S1
  obtain rfl : n1 = xs1.length := by omega
  have hcall : Calls Try.prog 5 #[.agg #[.int .u32 a0_0, .int .u64 a0_1, .int .u64 a0_2, .int .u64 a0_3, .int .u64 a0_4, .int .u64 a0_5, .int .u64 a0_6, .int .u64 a0_7, .int .u64 a0_8, .int .u64 a0_9, .int .u64 a0_10, .int .u64 a0_11, .int .u64 a0_12, .int .u64 a0_13, .int .u64 a0_14, .int .u64 a0_15, .int .u64 a0_16, .int .u64 a0_17, .int .u64 a0_18, .int .u64 a0_19, .int .u64 a0_20, .int .u64 a0_21, .int .u64 a0_22, .int .u64 a0_23, .int .u64 a0_24, .int .u64 a0_25, .int .u64 a0_26, .bool a0_27], .slice A1 xs1.length k1] W fun e W' => e = .returned (.bool true) ∧ Below W.heap.size W W' := by
    obtain ⟨n0, rfl⟩ := u32_of w0_0
    obtain ⟨b0_1, rfl⟩ := u64_of w0_1
    obtain ⟨b0_2, rfl⟩ := u64_of w0_2
    obtain ⟨b0_3, rfl⟩ := u64_of w0_3
    obtain ⟨b0_4, rfl⟩ := u64_of w0_4
    obtain ⟨b0_5, rfl⟩ := u64_of w0_5
    obtain ⟨b0_6, rfl⟩ := u64_of w0_6
    obtain ⟨b0_7, rfl⟩ := u64_of w0_7
    obtain ⟨b0_8, rfl⟩ := u64_of w0_8
    obtain ⟨b0_9, rfl⟩ := u64_of w0_9
    obtain ⟨b0_10, rfl⟩ := u64_of w0_10
    obtain ⟨b0_11, rfl⟩ := u64_of w0_11
    obtain ⟨b0_12, rfl⟩ := u64_of w0_12
    obtain ⟨b0_13, rfl⟩ := u64_of w0_13
    obtain ⟨b0_14, rfl⟩ := u64_of w0_14
    obtain ⟨b0_15, rfl⟩ := u64_of w0_15
    obtain ⟨b0_16, rfl⟩ := u64_of w0_16
    obtain ⟨b0_17, rfl⟩ := u64_of w0_17
    obtain ⟨b0_18, rfl⟩ := u64_of w0_18
    obtain ⟨b0_19, rfl⟩ := u64_of w0_19
    obtain ⟨b0_20, rfl⟩ := u64_of w0_20
    obtain ⟨b0_21, rfl⟩ := u64_of w0_21
    obtain ⟨b0_22, rfl⟩ := u64_of w0_22
    obtain ⟨b0_23, rfl⟩ := u64_of w0_23
    obtain ⟨b0_24, rfl⟩ := u64_of w0_24
    obtain ⟨b0_25, rfl⟩ := u64_of w0_25
    obtain ⟨b0_26, rfl⟩ := u64_of w0_26
    exact millBytes_law works_any (⟨n0, lf [b0_1, b0_2, b0_3, b0_4, b0_5, b0_6, b0_7, b0_8], lf [b0_9, b0_10, b0_11, b0_12, b0_13, b0_14, b0_15, b0_16, b0_17, b0_18, b0_19, b0_20, b0_21, b0_22, b0_23, b0_24], b0_25, b0_26, a0_27⟩ : XB) A1 xs1 k1 W kc1 S1
  refine hcall.mono fun e W' ⟨he, hg⟩ => ?_
  subst he
  refine ⟨_, rfl, post_of_below (pv := []) hW' (fun _ _ _ => (trodAll_cons_mk (shut_bool Try.underlying4 _) trodAll_mk0)) (fun sp hsp => args_keep millBytes_laid hg sp _ _ _ _ ?_ hAk (fun x hx => hlt x (by simpa using hx)) (fun x hx => hsp x (by simpa using hx))) (fun _ _ => rfl) (by simp) hg (ok_one (by kernel_rfl) rfl (okWide_bool_mk Try.underlying4 _))⟩
  intro t ht
  rw [Try.params5] at ht
  simp only [List.mem_cons, List.not_mem_nil, or_false] at ht
  rcases ht with rfl | rfl <;> exact ⟨by kernel_rfl, of_decide_eq_true (by kernel_rfl)⟩

theorem millBytes_over : Rows.millBytesRow.holds Try.pinned (OpenSpec.ofChange Rows.millBytesSpec) :=
  OpenClaim.holds_of_wide 5 Try.f5 rfl rfl rfl rfl rfl rfl rfl ⟨rfl, rfl, rfl, rfl, rfl⟩ rfl rfl rfl rfl rfl (by kernel_rfl) Try.func5 (by kernel_rfl)
    (of_decide_eq_true (by kernel_rfl)) (by unfold Func.isWrapper; rw [if_neg (of_decide_eq_false (by kernel_rfl))]; exact ⟨rfl, rfl⟩)
    (fun os started H enc _ => millBytes_lifted os started H enc)

/-- The statement. -/
theorem millBytes_holds : Rows.MillBytesSaid :=
  millBytes_over
#print axioms millBytes_holds
end Go.Proofs.Ytjlijocnmicdpaa
