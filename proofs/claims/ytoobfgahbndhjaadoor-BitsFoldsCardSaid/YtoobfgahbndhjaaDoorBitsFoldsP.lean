/- Proved: the law BitsFolds returns true for every input, its table being as the program lays it. The card. -/
import Derived.Test.YtoobfgahbndhjaaDoorBitM3
import Derived.Test.YtoobfgahbndhjaaDoorTie
import Derived.Test.YtoobfgahbndhjaaDoorCards
import Derived.Test.YtoobfgahbndhjaaDoorRows
import Derived.Test.YtoobfgahbndhjaaDoorOpen
set_option linter.unusedVariables false
set_option linter.unusedSimpArgs false
namespace Go.Proofs.YtoobfgahbndhjaaDoor
open Go.ChangeShapes Go.WideShapes Go.ChangeAt Go.RowKit
theorem open_words : ∀ (L : List (List Value)), (∀ u ∈ L, Leaves [some .u64, some .u64, some .u64, some .u64] u) → ∃ xs : List (BitVec 256), L.flatten = wordsC xs ∧ xs.length = L.length ∧ ∀ x ∈ xs, True
  | [], _ => ⟨[], rfl, rfl, by simp⟩
  | u :: L, h => by
    obtain ⟨xs, h1, h2, _⟩ := open_words L fun u hu => h u (by simp [hu])
    obtain ⟨_, r0, rfl, ⟨a0, rfl, w0⟩, g0⟩ := Leaves.cons (h u (by simp))
    obtain ⟨_, r1, rfl, ⟨a1, rfl, w1⟩, g1⟩ := Leaves.cons g0
    obtain ⟨_, r2, rfl, ⟨a2, rfl, w2⟩, g2⟩ := Leaves.cons g1
    obtain ⟨_, r3, rfl, ⟨a3, rfl, w3⟩, g3⟩ := Leaves.cons g2
    obtain rfl := Leaves.nil g3
    obtain ⟨x, hx⟩ := W_of a0 a1 a2 a3 w0 w1 w2 w3
    have hx : [Value.int .u64 a0, .int .u64 a1, .int .u64 a2, .int .u64 a3] = [Value.int .u64 (Go.Proofs.YtoobfgahbndhjaaDoor.L x 0), .int .u64 (Go.Proofs.YtoobfgahbndhjaaDoor.L x 1), .int .u64 (Go.Proofs.YtoobfgahbndhjaaDoor.L x 2), .int .u64 (Go.Proofs.YtoobfgahbndhjaaDoor.L x 3)] := by
      simpa [W] using hx
    exact ⟨x :: xs, by simp [h1, wordsC, hx], by simp [h2], fun _ _ => trivial⟩

theorem bitsFolds_own : ownKnob Tryd.prog.godebug = none := by kernel_rfl
theorem bitsFolds_laid : laidOutB Tryd.prog = true := by kernel_rfl

set_option maxRecDepth 100000 in
theorem bitsFolds_lifted (os : Os) (started : os.Started) (H : Type) (enc : TypeId × Value → H) :
    ReturnsInHanded {} Tryd.checked os 6 .any (fun w args => (Rows.bitsFoldsSpec.pre enc Tryd.prog Tryd.f6 [] false w args ∧ laidMetH Tryd.prog laidT w) ∧ sizedMet enc Tryd.prog Tryd.f6 (OpenSpec.ofChange Rows.bitsFoldsSpec) false w args) (Rows.bitsFoldsSpec.post enc Tryd.prog Tryd.f6 false true false false) := by
  refine returnsInHanded_of_change_and (C := Tryd.checked) (X := fun w _ => laidMetH Tryd.prog laidT w) (fun _ _ _ hh h => h.of_heap hh) bitsFolds_own started (by kernel_rfl) Tryd.func6
    (ChangeSpec.witness_shaped (enc := enc) (C := Tryd.checked) (os := os) (X := fun w _ => laidMetH Tryd.prog laidT w) false (World.doorLaid Tryd.prog 14 os) #[.slice none 0 0, .agg #[.int .u64 0, .int .u64 0, .int .u64 0, .int .u64 0]] 8 rfl (World.shaped_of_RefB (by kernel_rfl) (by kernel_rfl)) (by kernel_rfl) (by kernel_rfl) (by kernel_rfl) (door_met os _)) ?_
  intro W base args ds gs before hval0 hW _ _ hL _
  have hT : TabTz 0 W := of_laid hL
  have hval : ∀ (j : Nat) t v, Tryd.f6.params[j]? = some t → args[j]? = some v → Value.okWide Tryd.prog W .any base t v := hval0
  have hW' := hW
  obtain ⟨p, q, hA0, hV, rfl, hfz, hnd⟩ := hW
  have hA : DataW.TrodAll enc Tryd.prog W 0 (fun _ => true) true Tryd.f6.params.toList args.toList ds p := hA0
  rw [Tryd.params6] at hA hval
  have hAk := hA
  obtain ⟨v0, vs0, d0, ds0, p0, q0, hargs, rfl, rfl, h0, r0⟩ := trodAll_cons hA
  obtain ⟨v1, vs1, d1, ds1, p1, q1, rfl, rfl, rfl, h1, r1⟩ := trodAll_cons r0
  obtain ⟨rfl, rfl, rfl⟩ := trodAll_nil r1
  obtain rfl : args = #[v0, v1] := by cases args; simp_all
  obtain ⟨rfl, rfl⟩ := trodVars_none hV
  have hlt := hW'.lt
  obtain ⟨A0, n0, k0, E0, rfl, kc0, kl0, kE0, S0, kn0⟩ := open_sl (a := [some .u64, some .u64, some .u64, some .u64]) 4 Tryd.underlying37 (by kernel_rfl) (by kernel_rfl) (by decide) (hval 0 37 v0 rfl rfl) h0
  obtain ⟨xs0, ke0, kx0, kw0⟩ := open_words E0 kE0
  rw [ke0] at S0
  obtain rfl : n0 = xs0.length := by omega
  obtain ⟨c1, hc1, L1⟩ := open_flat (a := [some .u64, some .u64, some .u64, some .u64]) 4 (by kernel_rfl) (by kernel_rfl) (hval 1 24 v1 rfl rfl) h1
  obtain ⟨_, r1_0, rfl, ⟨a1_0, rfl, w1_0⟩, L1_0⟩ := Leaves.cons L1
  obtain ⟨_, r1_1, rfl, ⟨a1_1, rfl, w1_1⟩, L1_1⟩ := Leaves.cons L1_0
  obtain ⟨_, r1_2, rfl, ⟨a1_2, rfl, w1_2⟩, L1_2⟩ := Leaves.cons L1_1
  obtain ⟨_, r1_3, rfl, ⟨a1_3, rfl, w1_3⟩, L1_3⟩ := Leaves.cons L1_2
  obtain rfl := Leaves.nil L1_3
  subst hc1
  have hcall : Calls Tryd.prog 6 #[.slice A0 xs0.length k0, .agg #[.int .u64 a1_0, .int .u64 a1_1, .int .u64 a1_2, .int .u64 a1_3]] W fun e W' => e = .returned (.bool true) ∧ Below W.heap.size W W' := by
    obtain ⟨y, hy⟩ := W_of a1_0 a1_1 a1_2 a1_3 w1_0 w1_1 w1_2 w1_3
    rw [hy]
    exact folds_any A0 xs0 k0 y W S0 kc0 hT
  refine hcall.mono fun e W' ⟨he, hg⟩ => ?_
  subst he
  refine ⟨_, rfl, post_of_below (pv := []) hW' (fun _ _ _ => (trodAll_cons_mk (shut_bool Tryd.underlying4 _) trodAll_mk0)) (fun sp hsp => args_keep bitsFolds_laid hg sp _ _ _ _ ?_ hAk (fun x hx => hlt x (by simpa using hx)) (fun x hx => hsp x (by simpa using hx))) (fun _ _ => rfl) (by simp) hg (ok_one (by kernel_rfl) rfl (okWide_bool_mk Tryd.underlying4 _))⟩
  intro t ht
  rw [Tryd.params6] at ht
  simp only [List.mem_cons, List.not_mem_nil, or_false] at ht
  rcases ht with rfl | rfl <;> exact ⟨by kernel_rfl, of_decide_eq_true (by kernel_rfl)⟩

theorem bitsFolds_over : Rows.bitsFoldsRow.holds Tryd.pinned (OpenSpec.ofChange Rows.bitsFoldsSpec) :=
  OpenClaim.holds_of_wide 6 Tryd.f6 rfl rfl rfl rfl rfl rfl rfl ⟨rfl, rfl, rfl, rfl, rfl⟩ rfl rfl rfl rfl rfl (by kernel_rfl) Tryd.func6 (by kernel_rfl)
    (of_decide_eq_true (by kernel_rfl)) (by unfold Func.isWrapper; first | (rw [if_pos (by decide +kernel)]; kernel_rfl) | (rw [if_neg (by decide +kernel)]; exact ⟨rfl, rfl⟩))
    (fun os started H enc _ => bitsFolds_lifted os started H enc)

/-- The statement. -/
theorem bitsFolds_card : Rows.BitsFoldsCardSaid :=
  Claim7.holds_tied_plain_at .later [] [.data] true (true, "fab25dd5a05c341af842bca44766a2fa49595128502db421bfdbc87546fbc042") false
    bitsFolds_over (fun _ h => by cases h) (by kernel_rfl) (fun _ h => by cases h) bitsFolds_row_tie rfl ⟨rfl, rfl⟩ (by kernel_rfl) rfl
    (fun f fn hf hfn => by
      obtain rfl : f = 6 := Option.some.inj ((show Tryd.prog.funcNamed "excise/exciselaw03.BitsFolds" = some 6 by kernel_rfl).symm.trans hf) |>.symm
      obtain rfl : fn = Tryd.f6 := (Option.some.inj (Tryd.func6.symm.trans hfn)).symm
      exact ⟨by kernel_rfl, fun j t ht => by
        rw [Tryd.params6] at ht
        have hm : t ∈ ([37, 24] : List TypeId) := by simpa using Array.mem_of_getElem? ht
        have hall : (([37, 24] : List TypeId).all fun u => !Tryd.prog.wantsStandIn u) = true := by kernel_rfl
        exact (show Tryd.prog.wantsStandIn t = false by simpa using List.all_eq_true.1 hall t hm)⟩)
    (by kernel_rfl)
#print axioms bitsFolds_card
end Go.Proofs.YtoobfgahbndhjaaDoor
