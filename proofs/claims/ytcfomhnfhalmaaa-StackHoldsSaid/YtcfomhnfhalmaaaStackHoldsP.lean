/- Proved: the law StackHolds returns true for every input, and leaves its arguments as they were. No condition. -/
import Derived.Test.YtcfomhnfhalmaaaStackN
import Derived.Test.YtcfomhnfhalmaaaRows
import Derived.Test.YtcfomhnfhalmaaaOpen
set_option linter.unusedVariables false
set_option linter.unusedSimpArgs false
namespace Go.Proofs.Ytcfomhnfhalmaaa
open Go.ChangeShapes Go.WideShapes Go.ChangeAt Go.RowKit
theorem u64_of {a : Int} (h : (Lit.int .u64 a).wf = true) : ∃ b : BitVec 64, a = (b.toNat : Int) := by
  have := bounds_u64 h
  refine ⟨BitVec.ofInt 64 a, ?_⟩
  rw [BitVec.toNat_ofInt]; omega
theorem rowCells_cons {α : Type} (z : α) (g : α → List AV) (x : α) (xs : List α) : rowCells (x :: xs).length (fun i => g ((x :: xs).getD i z)) = ((AV.vals? (g x)).getD []) ++ rowCells xs.length (fun i => g (xs.getD i z)) := by
  unfold rowCells
  rw [List.length_cons, List.range_succ_eq_map, List.flatMap_cons, List.flatMap_map]
  rfl
theorem open_V5 : ∀ (L : List (List Value)), (∀ u ∈ L, Leaves [some .u64, some .u64, some .u64, some .u64, some .u64] u) → ∃ xs : List V5, L.flatten = rowCells xs.length (F5 xs) ∧ xs.length = L.length ∧ ∀ x ∈ xs, True
  | [], _ => ⟨[], rfl, rfl, by simp⟩
  | u :: L, h => by
    obtain ⟨xs, h1, h2, _⟩ := open_V5 L fun u hu => h u (by simp [hu])
    obtain ⟨_, r0, rfl, ⟨a0, rfl, w0⟩, l0⟩ := Leaves.cons (h u (by simp))
    obtain ⟨_, r1, rfl, ⟨a1, rfl, w1⟩, l1⟩ := Leaves.cons l0
    obtain ⟨_, r2, rfl, ⟨a2, rfl, w2⟩, l2⟩ := Leaves.cons l1
    obtain ⟨_, r3, rfl, ⟨a3, rfl, w3⟩, l3⟩ := Leaves.cons l2
    obtain ⟨_, r4, rfl, ⟨a4, rfl, w4⟩, l4⟩ := Leaves.cons l3
    obtain rfl := Leaves.nil l4
    obtain ⟨b0, rfl⟩ := u64_of w0
    obtain ⟨b1, rfl⟩ := u64_of w1
    obtain ⟨b2, rfl⟩ := u64_of w2
    obtain ⟨b3, rfl⟩ := u64_of w3
    obtain ⟨b4, rfl⟩ := u64_of w4
    refine ⟨⟨b0, b1, b2, b3, b4⟩ :: xs, ?_, by simp [h2], fun _ _ => trivial⟩
    rw [List.flatten_cons, h1]
    exact (rowCells_cons z5 v5 ⟨b0, b1, b2, b3, b4⟩ xs).symm
def v4 (x : V4) : List AV := [.bv .u64 x.a, .bv .u64 x.b, .bv .u64 x.c, .bv .u64 x.d]
theorem open_V4 : ∀ (L : List (List Value)), (∀ u ∈ L, Leaves [some .u64, some .u64, some .u64, some .u64] u) → ∃ xs : List V4, L.flatten = rowCells xs.length (F4 xs) ∧ xs.length = L.length ∧ ∀ x ∈ xs, True
  | [], _ => ⟨[], rfl, rfl, by simp⟩
  | u :: L, h => by
    obtain ⟨xs, h1, h2, _⟩ := open_V4 L fun u hu => h u (by simp [hu])
    obtain ⟨_, r0, rfl, ⟨a0, rfl, w0⟩, l0⟩ := Leaves.cons (h u (by simp))
    obtain ⟨_, r1, rfl, ⟨a1, rfl, w1⟩, l1⟩ := Leaves.cons l0
    obtain ⟨_, r2, rfl, ⟨a2, rfl, w2⟩, l2⟩ := Leaves.cons l1
    obtain ⟨_, r3, rfl, ⟨a3, rfl, w3⟩, l3⟩ := Leaves.cons l2
    obtain rfl := Leaves.nil l3
    obtain ⟨b0, rfl⟩ := u64_of w0
    obtain ⟨b1, rfl⟩ := u64_of w1
    obtain ⟨b2, rfl⟩ := u64_of w2
    obtain ⟨b3, rfl⟩ := u64_of w3
    refine ⟨⟨b0, b1, b2, b3⟩ :: xs, ?_, by simp [h2], fun _ _ => trivial⟩
    rw [List.flatten_cons, h1]
    exact (rowCells_cons ⟨0, 0, 0, 0⟩ v4 ⟨b0, b1, b2, b3⟩ xs).symm
def v7 (x : A7) : List AV := [.int .i64 false x.w, .int .i64 false x.n, .bv .u64 x.v.a, .bv .u64 x.v.b, .bv .u64 x.v.c, .bv .u64 x.v.d, .bv .u64 x.v.l]
theorem open_A7 : ∀ (L : List (List Value)), (∀ u ∈ L, Leaves [some .i64, some .i64, some .u64, some .u64, some .u64, some .u64, some .u64] u) → ∃ xs : List A7, L.flatten = rowCells xs.length (F7 xs) ∧ xs.length = L.length ∧ ∀ x ∈ xs, True
  | [], _ => ⟨[], rfl, rfl, by simp⟩
  | u :: L, h => by
    obtain ⟨xs, h1, h2, _⟩ := open_A7 L fun u hu => h u (by simp [hu])
    obtain ⟨_, r5, rfl, ⟨a5, rfl, w5⟩, l5⟩ := Leaves.cons (h u (by simp))
    obtain ⟨_, r6, rfl, ⟨a6, rfl, w6⟩, l6⟩ := Leaves.cons l5
    obtain ⟨_, r0, rfl, ⟨a0, rfl, w0⟩, l0⟩ := Leaves.cons l6
    obtain ⟨_, r1, rfl, ⟨a1, rfl, w1⟩, l1⟩ := Leaves.cons l0
    obtain ⟨_, r2, rfl, ⟨a2, rfl, w2⟩, l2⟩ := Leaves.cons l1
    obtain ⟨_, r3, rfl, ⟨a3, rfl, w3⟩, l3⟩ := Leaves.cons l2
    obtain ⟨_, r4, rfl, ⟨a4, rfl, w4⟩, l4⟩ := Leaves.cons l3
    obtain rfl := Leaves.nil l4
    obtain ⟨b0, rfl⟩ := u64_of w0
    obtain ⟨b1, rfl⟩ := u64_of w1
    obtain ⟨b2, rfl⟩ := u64_of w2
    obtain ⟨b3, rfl⟩ := u64_of w3
    obtain ⟨b4, rfl⟩ := u64_of w4
    refine ⟨⟨a5, a6, ⟨b0, b1, b2, b3, b4⟩⟩ :: xs, ?_, by simp [h2], fun _ _ => trivial⟩
    rw [List.flatten_cons, h1]
    exact (rowCells_cons zA v7 ⟨a5, a6, ⟨b0, b1, b2, b3, b4⟩⟩ xs).symm
theorem stackHolds_own : ownKnob Try.prog.godebug = none := by kernel_rfl
theorem stackHolds_laid : laidOutB Try.prog = true := by kernel_rfl

set_option maxRecDepth 100000 in
theorem stackHolds_lifted (os : Os) (started : os.Started) (H : Type) (enc : TypeId × Value → H) :
    ReturnsInHanded {} Try.checked os 5 .any (Rows.stackHoldsSpec.pre6 enc Try.prog Try.f5 Rows.stackHoldsRow.domain false) (Rows.stackHoldsSpec.post enc Try.prog Try.f5 false true false false) := by
  refine returnsInHanded_of_change (C := Try.checked) stackHolds_own started (by kernel_rfl) Try.func5
    (ChangeSpec.witness6 (enc := enc) (C := Try.checked) false ⟨#[], #[.slice none 0 0, .slice none 0 0, .slice none 0 0], []⟩ 8 (by kernel_rfl) (by kernel_rfl) (by kernel_rfl) (by kernel_rfl)) ?_
  intro W base args ds gs before hval0 hW hcnd _
  have hval : ∀ (j : Nat) t v, Try.f5.params[j]? = some t → args[j]? = some v → Value.okWide Try.prog W .any base t v := hval0
  have hW' := hW
  obtain ⟨p, q, hA0, hV, rfl, hfz, hnd⟩ := hW
  have hA : DataW.TrodAll enc Try.prog W 0 (fun _ => true) true Try.f5.params.toList args.toList ds p := hA0
  rw [Try.params5] at hA hval
  have hAk := hA
  obtain ⟨v0, vs0, d0, ds0, p0, q0, hargs, rfl, rfl, h0, r0⟩ := trodAll_cons hA
  obtain ⟨v1, vs1, d1, ds1, p1, q1, rfl, rfl, rfl, h1, r1⟩ := trodAll_cons r0
  obtain ⟨v2, vs2, d2, ds2, p2, q2, rfl, rfl, rfl, h2, r2⟩ := trodAll_cons r1
  obtain ⟨rfl, rfl, rfl⟩ := trodAll_nil r2
  obtain rfl : args = #[v0, v1, v2] := by cases args; simp_all
  obtain ⟨rfl, rfl⟩ := trodVars_none hV
  have hlt := hW'.lt
  obtain ⟨A0, n0, k0, E0, rfl, kc0, kl0, kE0, S0, kn0⟩ := open_sl (a := [some .u64, some .u64, some .u64, some .u64, some .u64]) 4 Try.underlying27 (by kernel_rfl) (by kernel_rfl) (by decide) (hval 0 27 v0 rfl rfl) h0
  obtain ⟨xs0, ke0, kx0, kw0⟩ := open_V5 E0 kE0
  rw [ke0] at S0
  obtain rfl : n0 = xs0.length := by omega
  obtain ⟨A1, n1, k1, E1, rfl, kc1, kl1, kE1, S1, kn1⟩ := open_sl (a := [some .u64, some .u64, some .u64, some .u64]) 4 Try.underlying59 (by kernel_rfl) (by kernel_rfl) (by decide) (hval 1 59 v1 rfl rfl) h1
  obtain ⟨xs1, ke1, kx1, kw1⟩ := open_V4 E1 kE1
  rw [ke1] at S1
  obtain rfl : n1 = xs1.length := by omega
  obtain ⟨A2, n2, k2, E2, rfl, kc2, kl2, kE2, S2, kn2⟩ := open_sl (a := [some .i64, some .i64, some .u64, some .u64, some .u64, some .u64, some .u64]) 4 Try.underlying60 (by kernel_rfl) (by kernel_rfl) (by decide) (hval 2 60 v2 rfl rfl) h2
  obtain ⟨xs2, ke2, kx2, kw2⟩ := open_A7 E2 kE2
  rw [ke2] at S2
  obtain rfl : n2 = xs2.length := by omega
  have hcall : Calls Try.prog 5 #[.slice A0 xs0.length k0, .slice A1 xs1.length k1, .slice A2 xs2.length k2] W fun e W' => e = .returned (.bool true) ∧ Below W.heap.size W W' := holds_law A0 A1 A2 xs0 xs1 xs2 k0 k1 k2 W kc0 kc1 kc2 S0 S1 S2
  refine hcall.mono fun e W' ⟨he, hg⟩ => ?_
  subst he
  refine ⟨_, rfl, post_of_below (pv := []) hW' (fun _ _ _ => (trodAll_cons_mk (shut_bool Try.underlying4 _) trodAll_mk0)) (fun sp hsp => args_keep stackHolds_laid hg sp _ _ _ _ ?_ hAk (fun x hx => hlt x (by simpa using hx)) (fun x hx => hsp x (by simpa using hx))) (fun _ _ => rfl) (by simp) hg (ok_one (by kernel_rfl) rfl (okWide_bool_mk Try.underlying4 _))⟩
  intro t ht
  rw [Try.params5] at ht
  simp only [List.mem_cons, List.not_mem_nil, or_false] at ht
  rcases ht with rfl | rfl | rfl <;> exact ⟨by kernel_rfl, of_decide_eq_true (by kernel_rfl)⟩

theorem stackHolds_over : Rows.stackHoldsRow.holds Try.pinned (OpenSpec.ofChange Rows.stackHoldsSpec) :=
  OpenClaim.holds_of_wide 5 Try.f5 rfl rfl rfl rfl rfl rfl rfl ⟨rfl, rfl, rfl, rfl, rfl⟩ rfl rfl rfl rfl rfl (by kernel_rfl) Try.func5 (by kernel_rfl)
    (of_decide_eq_true (by kernel_rfl)) (by unfold Func.isWrapper; rw [if_neg (of_decide_eq_false (by kernel_rfl))]; exact ⟨rfl, rfl⟩)
    (fun os started H enc _ => stackHolds_lifted os started H enc)

/-- The statement. -/
theorem stackHolds_holds : Rows.StackHoldsSaid :=
  stackHolds_over
#print axioms stackHolds_holds
end Go.Proofs.Ytcfomhnfhalmaaa
