/- Proved: the law StackCopies returns true for every input, and leaves its arguments as they were. No condition. -/
import Derived.Test.YtcfomhnfhalmaaaSCo7
import Derived.Test.YtcfomhnfhalmaaaRows
set_option linter.unusedVariables false
set_option linter.unusedSimpArgs false
namespace Go.Proofs.Ytcfomhnfhalmaaa
open Go.ChangeShapes Go.WideShapes Go.ChangeAt Go.RowKit
theorem u64_of {a : Int} (h : (Lit.int .u64 a).wf = true) : ∃ b : BitVec 64, a = (b.toNat : Int) := by
  have := bounds_u64 h
  refine ⟨BitVec.ofInt 64 a, ?_⟩
  rw [BitVec.toNat_ofInt]; omega
theorem rowCells_cons {α : Type} (z : α) (g : α → List AV) (x : α) (xs : List α) : rowCells (x :: xs).length (fun i => g ((x :: xs).getD i z)) = ((AV.vals? (g x)).getD []) ++ rowCells xs.length (fun i => g (xs.getD i z)) := by
  unfold rowCells
  rw [List.length_cons, List.range_succ_eq_map, List.flatMap_cons, List.flatMap_map]
  rfl
theorem open_V5 : ∀ (L : List (List Value)), (∀ u ∈ L, Leaves [some .u64, some .u64, some .u64, some .u64, some .u64] u) → ∃ xs : List V5, L.flatten = rowCells xs.length (F5 xs) ∧ xs.length = L.length ∧ ∀ x ∈ xs, True
  | [], _ => ⟨[], rfl, rfl, by simp⟩
  | u :: L, h => by
    obtain ⟨xs, h1, h2, _⟩ := open_V5 L fun u hu => h u (by simp [hu])
    obtain ⟨_, r0, rfl, ⟨a0, rfl, w0⟩, l0⟩ := Leaves.cons (h u (by simp))
    obtain ⟨_, r1, rfl, ⟨a1, rfl, w1⟩, l1⟩ := Leaves.cons l0
    obtain ⟨_, r2, rfl, ⟨a2, rfl, w2⟩, l2⟩ := Leaves.cons l1
    obtain ⟨_, r3, rfl, ⟨a3, rfl, w3⟩, l3⟩ := Leaves.cons l2
    obtain ⟨_, r4, rfl, ⟨a4, rfl, w4⟩, l4⟩ := Leaves.cons l3
    obtain rfl := Leaves.nil l4
    obtain ⟨b0, rfl⟩ := u64_of w0
    obtain ⟨b1, rfl⟩ := u64_of w1
    obtain ⟨b2, rfl⟩ := u64_of w2
    obtain ⟨b3, rfl⟩ := u64_of w3
    obtain ⟨b4, rfl⟩ := u64_of w4
    refine ⟨⟨b0, b1, b2, b3, b4⟩ :: xs, ?_, by simp [h2], fun _ _ => trivial⟩
    rw [List.flatten_cons, h1]
    exact (rowCells_cons z5 v5 ⟨b0, b1, b2, b3, b4⟩ xs).symm
theorem stackCopies_own : ownKnob Try.prog.godebug = none := by kernel_rfl
theorem stackCopies_laid : laidOutB Try.prog = true := by kernel_rfl

set_option maxRecDepth 100000 in
theorem stackCopies_lifted (os : Os) (started : os.Started) (H : Type) (enc : TypeId × Value → H) :
    ReturnsInHanded {} Try.checked os 7 .any (Rows.stackCopiesSpec.pre6 enc Try.prog Try.f7 Rows.stackCopiesRow.domain false) (Rows.stackCopiesSpec.post enc Try.prog Try.f7 false true false false) := by
  refine returnsInHanded_of_change (C := Try.checked) stackCopies_own started (by kernel_rfl) Try.func7
    (ChangeSpec.witness6 (enc := enc) (C := Try.checked) false ⟨#[], #[.slice none 0 0, .agg #[.int .i64 0, .int .i64 0, .int .u64 0, .int .u64 0, .int .u64 0, .int .u64 0, .int .u64 0, .int .i64 0, .int .i64 0, .int .u64 0, .int .u64 0, .int .u64 0, .int .u64 0, .int .u64 0], .int .u64 0], []⟩ 8 (by kernel_rfl) (by kernel_rfl) (by kernel_rfl) (by kernel_rfl)) ?_
  intro W base args ds gs before hval0 hW hcnd _
  have hval : ∀ (j : Nat) t v, Try.f7.params[j]? = some t → args[j]? = some v → Value.okWide Try.prog W .any base t v := hval0
  have hW' := hW
  obtain ⟨p, q, hA0, hV, rfl, hfz, hnd⟩ := hW
  have hA : DataW.TrodAll enc Try.prog W 0 (fun _ => true) true Try.f7.params.toList args.toList ds p := hA0
  rw [Try.params7] at hA hval
  have hAk := hA
  obtain ⟨v0, vs0, d0, ds0, p0, q0, hargs, rfl, rfl, h0, r0⟩ := trodAll_cons hA
  obtain ⟨v1, vs1, d1, ds1, p1, q1, rfl, rfl, rfl, h1, r1⟩ := trodAll_cons r0
  obtain ⟨v2, vs2, d2, ds2, p2, q2, rfl, rfl, rfl, h2, r2⟩ := trodAll_cons r1
  obtain ⟨rfl, rfl, rfl⟩ := trodAll_nil r2
  obtain rfl : args = #[v0, v1, v2] := by cases args; simp_all
  obtain ⟨rfl, rfl⟩ := trodVars_none hV
  have hlt := hW'.lt
  obtain ⟨A0, n0, k0, E0, rfl, kc0, kl0, kE0, S0, kn0⟩ := open_sl (a := [some .u64, some .u64, some .u64, some .u64, some .u64]) 4 Try.underlying27 (by kernel_rfl) (by kernel_rfl) (by decide) (hval 0 27 v0 rfl rfl) h0
  obtain ⟨xs0, ke0, kx0, kw0⟩ := open_V5 E0 kE0
  rw [ke0] at S0
  obtain rfl : n0 = xs0.length := by omega
  obtain ⟨c1, hc1, L1⟩ := open_flat (a := [some .i64, some .i64, some .u64, some .u64, some .u64, some .u64, some .u64, some .i64, some .i64, some .u64, some .u64, some .u64, some .u64, some .u64]) 6 (by kernel_rfl) (by kernel_rfl) (hval 1 82 v1 rfl rfl) h1
  obtain ⟨_, r1_0, rfl, ⟨a1_0, rfl, w1_0⟩, L1_0⟩ := Leaves.cons L1
  obtain ⟨_, r1_1, rfl, ⟨a1_1, rfl, w1_1⟩, L1_1⟩ := Leaves.cons L1_0
  obtain ⟨_, r1_2, rfl, ⟨a1_2, rfl, w1_2⟩, L1_2⟩ := Leaves.cons L1_1
  obtain ⟨_, r1_3, rfl, ⟨a1_3, rfl, w1_3⟩, L1_3⟩ := Leaves.cons L1_2
  obtain ⟨_, r1_4, rfl, ⟨a1_4, rfl, w1_4⟩, L1_4⟩ := Leaves.cons L1_3
  obtain ⟨_, r1_5, rfl, ⟨a1_5, rfl, w1_5⟩, L1_5⟩ := Leaves.cons L1_4
  obtain ⟨_, r1_6, rfl, ⟨a1_6, rfl, w1_6⟩, L1_6⟩ := Leaves.cons L1_5
  obtain ⟨_, r1_7, rfl, ⟨a1_7, rfl, w1_7⟩, L1_7⟩ := Leaves.cons L1_6
  obtain ⟨_, r1_8, rfl, ⟨a1_8, rfl, w1_8⟩, L1_8⟩ := Leaves.cons L1_7
  obtain ⟨_, r1_9, rfl, ⟨a1_9, rfl, w1_9⟩, L1_9⟩ := Leaves.cons L1_8
  obtain ⟨_, r1_10, rfl, ⟨a1_10, rfl, w1_10⟩, L1_10⟩ := Leaves.cons L1_9
  obtain ⟨_, r1_11, rfl, ⟨a1_11, rfl, w1_11⟩, L1_11⟩ := Leaves.cons L1_10
  obtain ⟨_, r1_12, rfl, ⟨a1_12, rfl, w1_12⟩, L1_12⟩ := Leaves.cons L1_11
  obtain ⟨_, r1_13, rfl, ⟨a1_13, rfl, w1_13⟩, L1_13⟩ := Leaves.cons L1_12
  obtain rfl := Leaves.nil L1_13
  subst hc1
  obtain ⟨a2, rfl, _, _, w2⟩ := open_int Try.underlying33 (hval 2 33 v2 rfl rfl) h2
  have hcall : Calls Try.prog 7 #[.slice A0 xs0.length k0, .agg #[.int .i64 a1_0, .int .i64 a1_1, .int .u64 a1_2, .int .u64 a1_3, .int .u64 a1_4, .int .u64 a1_5, .int .u64 a1_6, .int .i64 a1_7, .int .i64 a1_8, .int .u64 a1_9, .int .u64 a1_10, .int .u64 a1_11, .int .u64 a1_12, .int .u64 a1_13], .int .u64 a2] W fun e W' => e = .returned (.bool true) ∧ Below W.heap.size W W' := by
    obtain ⟨b1_2, rfl⟩ := u64_of w1_2
    obtain ⟨b1_3, rfl⟩ := u64_of w1_3
    obtain ⟨b1_4, rfl⟩ := u64_of w1_4
    obtain ⟨b1_5, rfl⟩ := u64_of w1_5
    obtain ⟨b1_6, rfl⟩ := u64_of w1_6
    obtain ⟨b1_9, rfl⟩ := u64_of w1_9
    obtain ⟨b1_10, rfl⟩ := u64_of w1_10
    obtain ⟨b1_11, rfl⟩ := u64_of w1_11
    obtain ⟨b1_12, rfl⟩ := u64_of w1_12
    obtain ⟨b1_13, rfl⟩ := u64_of w1_13
    obtain ⟨b2, rfl⟩ := u64_of w2
    exact copies_law A0 xs0 ⟨a1_0, a1_1, ⟨b1_2, b1_3, b1_4, b1_5, b1_6⟩⟩ ⟨a1_7, a1_8, ⟨b1_9, b1_10, b1_11, b1_12, b1_13⟩⟩ b2 k0 W kc0 S0
  refine hcall.mono fun e W' ⟨he, hg⟩ => ?_
  subst he
  refine ⟨_, rfl, post_of_below (pv := []) hW' (fun _ _ _ => (trodAll_cons_mk (shut_bool Try.underlying4 _) trodAll_mk0)) (fun sp hsp => args_keep stackCopies_laid hg sp _ _ _ _ ?_ hAk (fun x hx => hlt x (by simpa using hx)) (fun x hx => hsp x (by simpa using hx))) (fun _ _ => rfl) (by simp) hg (ok_one (by kernel_rfl) rfl (okWide_bool_mk Try.underlying4 _))⟩
  intro t ht
  rw [Try.params7] at ht
  simp only [List.mem_cons, List.not_mem_nil, or_false] at ht
  rcases ht with rfl | rfl | rfl <;> exact ⟨by kernel_rfl, of_decide_eq_true (by kernel_rfl)⟩

theorem stackCopies_over : Rows.stackCopiesRow.holds Try.pinned (OpenSpec.ofChange Rows.stackCopiesSpec) :=
  OpenClaim.holds_of_wide 7 Try.f7 rfl rfl rfl rfl rfl rfl rfl ⟨rfl, rfl, rfl, rfl, rfl⟩ rfl rfl rfl rfl rfl (by kernel_rfl) Try.func7 (by kernel_rfl)
    (of_decide_eq_true (by kernel_rfl)) (by unfold Func.isWrapper; rw [if_neg (of_decide_eq_false (by kernel_rfl))]; exact ⟨rfl, rfl⟩)
    (fun os started H enc _ => stackCopies_lifted os started H enc)

/-- The statement. -/
theorem stackCopies_holds : Rows.StackCopiesSaid :=
  stackCopies_over
#print axioms stackCopies_holds
end Go.Proofs.Ytcfomhnfhalmaaa
