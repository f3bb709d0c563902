/- Proved: the law StackPlays returns true for every input, and leaves its arguments as they were. No condition. -/
import Derived.Test.YtcfomhnfhalmaaaSPl6
import Derived.Test.YtcfomhnfhalmaaaRows
set_option linter.unusedVariables false
set_option linter.unusedSimpArgs false
namespace Go.Proofs.Ytcfomhnfhalmaaa
open Go.ChangeShapes Go.WideShapes Go.ChangeAt Go.RowKit
theorem u64_of {a : Int} (h : (Lit.int .u64 a).wf = true) : ∃ b : BitVec 64, a = (b.toNat : Int) := by
  have := bounds_u64 h
  refine ⟨BitVec.ofInt 64 a, ?_⟩
  rw [BitVec.toNat_ofInt]; omega
theorem rowCells_cons {α : Type} (z : α) (g : α → List AV) (x : α) (xs : List α) : rowCells (x :: xs).length (fun i => g ((x :: xs).getD i z)) = ((AV.vals? (g x)).getD []) ++ rowCells xs.length (fun i => g (xs.getD i z)) := by
  unfold rowCells
  rw [List.length_cons, List.range_succ_eq_map, List.flatMap_cons, List.flatMap_map]
  rfl
theorem open_V5 : ∀ (L : List (List Value)), (∀ u ∈ L, Leaves [some .u64, some .u64, some .u64, some .u64, some .u64] u) → ∃ xs : List V5, L.flatten = rowCells xs.length (F5 xs) ∧ xs.length = L.length ∧ ∀ x ∈ xs, True
  | [], _ => ⟨[], rfl, rfl, by simp⟩
  | u :: L, h => by
    obtain ⟨xs, h1, h2, _⟩ := open_V5 L fun u hu => h u (by simp [hu])
    obtain ⟨_, r0, rfl, ⟨a0, rfl, w0⟩, l0⟩ := Leaves.cons (h u (by simp))
    obtain ⟨_, r1, rfl, ⟨a1, rfl, w1⟩, l1⟩ := Leaves.cons l0
    obtain ⟨_, r2, rfl, ⟨a2, rfl, w2⟩, l2⟩ := Leaves.cons l1
    obtain ⟨_, r3, rfl, ⟨a3, rfl, w3⟩, l3⟩ := Leaves.cons l2
    obtain ⟨_, r4, rfl, ⟨a4, rfl, w4⟩, l4⟩ := Leaves.cons l3
    obtain rfl := Leaves.nil l4
    obtain ⟨b0, rfl⟩ := u64_of w0
    obtain ⟨b1, rfl⟩ := u64_of w1
    obtain ⟨b2, rfl⟩ := u64_of w2
    obtain ⟨b3, rfl⟩ := u64_of w3
    obtain ⟨b4, rfl⟩ := u64_of w4
    refine ⟨⟨b0, b1, b2, b3, b4⟩ :: xs, ?_, by simp [h2], fun _ _ => trivial⟩
    rw [List.flatten_cons, h1]
    exact (rowCells_cons z5 v5 ⟨b0, b1, b2, b3, b4⟩ xs).symm
def v7 (x : A7) : List AV := [.int .i64 false x.w, .int .i64 false x.n, .bv .u64 x.v.a, .bv .u64 x.v.b, .bv .u64 x.v.c, .bv .u64 x.v.d, .bv .u64 x.v.l]
theorem open_A7 : ∀ (L : List (List Value)), (∀ u ∈ L, Leaves [some .i64, some .i64, some .u64, some .u64, some .u64, some .u64, some .u64] u) → ∃ xs : List A7, L.flatten = rowCells xs.length (F7 xs) ∧ xs.length = L.length ∧ ∀ x ∈ xs, True
  | [], _ => ⟨[], rfl, rfl, by simp⟩
  | u :: L, h => by
    obtain ⟨xs, h1, h2, _⟩ := open_A7 L fun u hu => h u (by simp [hu])
    obtain ⟨_, r5, rfl, ⟨a5, rfl, w5⟩, l5⟩ := Leaves.cons (h u (by simp))
    obtain ⟨_, r6, rfl, ⟨a6, rfl, w6⟩, l6⟩ := Leaves.cons l5
    obtain ⟨_, r0, rfl, ⟨a0, rfl, w0⟩, l0⟩ := Leaves.cons l6
    obtain ⟨_, r1, rfl, ⟨a1, rfl, w1⟩, l1⟩ := Leaves.cons l0
    obtain ⟨_, r2, rfl, ⟨a2, rfl, w2⟩, l2⟩ := Leaves.cons l1
    obtain ⟨_, r3, rfl, ⟨a3, rfl, w3⟩, l3⟩ := Leaves.cons l2
    obtain ⟨_, r4, rfl, ⟨a4, rfl, w4⟩, l4⟩ := Leaves.cons l3
    obtain rfl := Leaves.nil l4
    obtain ⟨b0, rfl⟩ := u64_of w0
    obtain ⟨b1, rfl⟩ := u64_of w1
    obtain ⟨b2, rfl⟩ := u64_of w2
    obtain ⟨b3, rfl⟩ := u64_of w3
    obtain ⟨b4, rfl⟩ := u64_of w4
    refine ⟨⟨a5, a6, ⟨b0, b1, b2, b3, b4⟩⟩ :: xs, ?_, by simp [h2], fun _ _ => trivial⟩
    rw [List.flatten_cons, h1]
    exact (rowCells_cons zA v7 ⟨a5, a6, ⟨b0, b1, b2, b3, b4⟩⟩ xs).symm
theorem stackPlays_own : ownKnob Try.prog.godebug = none := by kernel_rfl
theorem stackPlays_laid : laidOutB Try.prog = true := by kernel_rfl

set_option maxRecDepth 100000 in
theorem stackPlays_lifted (os : Os) (started : os.Started) (H : Type) (enc : TypeId × Value → H) :
    ReturnsInHanded {} Try.checked os 6 .any (Rows.stackPlaysSpec.pre6 enc Try.prog Try.f6 Rows.stackPlaysRow.domain false) (Rows.stackPlaysSpec.post enc Try.prog Try.f6 false true false false) := by
  refine returnsInHanded_of_change (C := Try.checked) stackPlays_own started (by kernel_rfl) Try.func6
    (ChangeSpec.witness6 (enc := enc) (C := Try.checked) false ⟨#[], #[.slice none 0 0, .slice none 0 0], []⟩ 8 (by kernel_rfl) (by kernel_rfl) (by kernel_rfl) (by kernel_rfl)) ?_
  intro W base args ds gs before hval0 hW hcnd _
  have hval : ∀ (j : Nat) t v, Try.f6.params[j]? = some t → args[j]? = some v → Value.okWide Try.prog W .any base t v := hval0
  have hW' := hW
  obtain ⟨p, q, hA0, hV, rfl, hfz, hnd⟩ := hW
  have hA : DataW.TrodAll enc Try.prog W 0 (fun _ => true) true Try.f6.params.toList args.toList ds p := hA0
  rw [Try.params6] at hA hval
  have hAk := hA
  obtain ⟨v0, vs0, d0, ds0, p0, q0, hargs, rfl, rfl, h0, r0⟩ := trodAll_cons hA
  obtain ⟨v1, vs1, d1, ds1, p1, q1, rfl, rfl, rfl, h1, r1⟩ := trodAll_cons r0
  obtain ⟨rfl, rfl, rfl⟩ := trodAll_nil r1
  obtain rfl : args = #[v0, v1] := by cases args; simp_all
  obtain ⟨rfl, rfl⟩ := trodVars_none hV
  have hlt := hW'.lt
  obtain ⟨A0, n0, k0, E0, rfl, kc0, kl0, kE0, S0, kn0⟩ := open_sl (a := [some .u64, some .u64, some .u64, some .u64, some .u64]) 4 Try.underlying27 (by kernel_rfl) (by kernel_rfl) (by decide) (hval 0 27 v0 rfl rfl) h0
  obtain ⟨xs0, ke0, kx0, kw0⟩ := open_V5 E0 kE0
  rw [ke0] at S0
  obtain rfl : n0 = xs0.length := by omega
  obtain ⟨A1, n1, k1, E1, rfl, kc1, kl1, kE1, S1, kn1⟩ := open_sl (a := [some .i64, some .i64, some .u64, some .u64, some .u64, some .u64, some .u64]) 4 Try.underlying60 (by kernel_rfl) (by kernel_rfl) (by decide) (hval 1 60 v1 rfl rfl) h1
  obtain ⟨xs1, ke1, kx1, kw1⟩ := open_A7 E1 kE1
  rw [ke1] at S1
  obtain rfl : n1 = xs1.length := by omega
  have hcall : Calls Try.prog 6 #[.slice A0 xs0.length k0, .slice A1 xs1.length k1] W fun e W' => e = .returned (.bool true) ∧ Below W.heap.size W W' := plays_law A0 A1 xs0 xs1 k0 k1 W kc0 kc1 S0 S1
  refine hcall.mono fun e W' ⟨he, hg⟩ => ?_
  subst he
  refine ⟨_, rfl, post_of_below (pv := []) hW' (fun _ _ _ => (trodAll_cons_mk (shut_bool Try.underlying4 _) trodAll_mk0)) (fun sp hsp => args_keep stackPlays_laid hg sp _ _ _ _ ?_ hAk (fun x hx => hlt x (by simpa using hx)) (fun x hx => hsp x (by simpa using hx))) (fun _ _ => rfl) (by simp) hg (ok_one (by kernel_rfl) rfl (okWide_bool_mk Try.underlying4 _))⟩
  intro t ht
  rw [Try.params6] at ht
  simp only [List.mem_cons, List.not_mem_nil, or_false] at ht
  rcases ht with rfl | rfl <;> exact ⟨by kernel_rfl, of_decide_eq_true (by kernel_rfl)⟩

theorem stackPlays_over : Rows.stackPlaysRow.holds Try.pinned (OpenSpec.ofChange Rows.stackPlaysSpec) :=
  OpenClaim.holds_of_wide 6 Try.f6 rfl rfl rfl rfl rfl rfl rfl ⟨rfl, rfl, rfl, rfl, rfl⟩ rfl rfl rfl rfl rfl (by kernel_rfl) Try.func6 (by kernel_rfl)
    (of_decide_eq_true (by kernel_rfl)) (by unfold Func.isWrapper; rw [if_neg (of_decide_eq_false (by kernel_rfl))]; exact ⟨rfl, rfl⟩)
    (fun os started H enc _ => stackPlays_lifted os started H enc)

/-- The statement. -/
theorem stackPlays_holds : Rows.StackPlaysSaid :=
  stackPlays_over
#print axioms stackPlays_holds
end Go.Proofs.Ytcfomhnfhalmaaa
