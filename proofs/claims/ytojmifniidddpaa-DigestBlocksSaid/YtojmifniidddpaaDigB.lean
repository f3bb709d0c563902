/- The three parts of a round. No condition. -/
import Derived.Test.YtojmifniidddpaaDigA
set_option linter.unusedVariables false
set_option linter.unusedSimpArgs false
set_option maxRecDepth 100000
namespace Go.Proofs.Ytojmifniidddpaa
open Go.RowKit

noncomputable def E0 : Env := ⟨Try.prog, fun _ => none, fun _ => none, fun _ => false⟩
theorem hE0 : EnvOK E0 := ⟨fun _ _ h => (by cases h), fun _ _ h => (by cases h), rfl⟩
theorem cols_ev (x0 x1 x2 x3 x4 x5 x6 x7 x8 x9 x10 x11 x12 x13 x14 x15 x16 x17 x18 x19 x20 x21 x22 x23 x24 : BitVec 64) : Is (evCall E0 400 31 [bvs [x0, x1, x2, x3, x4, x5, x6, x7, x8, x9, x10, x11, x12, x13, x14, x15, x16, x17, x18, x19, x20, x21, x22, x23, x24]] ⟨[], [], 0⟩ (fun v _ => v = bvs (colS [x0, x1, x2, x3, x4, x5, x6, x7, x8, x9, x10, x11, x12, x13, x14, x15, x16, x17, x18, x19, x20, x21, x22, x23, x24]))) := ev_of (r := bvs (colS [x0, x1, x2, x3, x4, x5, x6, x7, x8, x9, x10, x11, x12, x13, x14, x15, x16, x17, x18, x19, x20, x21, x22, x23, x24])) (by kernel_rfl)
theorem cols_ok : Enters Try.prog 31 ∧ ∀ args v cs, ctrL 25 colS args = some (v, cs) → (∀ c ∈ cs, c = true) → ∃ V, v.told? = some V ∧ ∀ (ρ : List Nat) (Args : List Value), RelL ρ args Args → ∀ w, Calls Try.prog 31 Args.toArray w fun e w' => e = .returned V ∧ Below w.heap.size w w' :=
  ctrL_ok (P := Try.prog) (ev_enters hE0 400 (cols_ev 0 0 0 0 0 0 0 0 0 0 0 0 0 0 0 0 0 0 0 0 0 0 0 0 0).is) fun l hl w => by
    obtain ⟨x0, x1, x2, x3, x4, x5, x6, x7, x8, x9, x10, x11, x12, x13, x14, x15, x16, x17, x18, x19, x20, x21, x22, x23, x24, rfl⟩ := len25 hl
    exact calls_agg hE0 (cols_ev x0 x1 x2 x3 x4 x5 x6 x7 x8 x9 x10 x11 x12 x13 x14 x15 x16 x17 x18 x19 x20 x21 x22 x23 x24) w
theorem places_ev (x0 x1 x2 x3 x4 x5 x6 x7 x8 x9 x10 x11 x12 x13 x14 x15 x16 x17 x18 x19 x20 x21 x22 x23 x24 : BitVec 64) : Is (evCall E0 400 32 [bvs [x0, x1, x2, x3, x4, x5, x6, x7, x8, x9, x10, x11, x12, x13, x14, x15, x16, x17, x18, x19, x20, x21, x22, x23, x24]] ⟨[], [], 0⟩ (fun v _ => v = bvs (plaS [x0, x1, x2, x3, x4, x5, x6, x7, x8, x9, x10, x11, x12, x13, x14, x15, x16, x17, x18, x19, x20, x21, x22, x23, x24]))) := ev_of (r := bvs (plaS [x0, x1, x2, x3, x4, x5, x6, x7, x8, x9, x10, x11, x12, x13, x14, x15, x16, x17, x18, x19, x20, x21, x22, x23, x24])) (by kernel_rfl)
theorem places_ok : Enters Try.prog 32 ∧ ∀ args v cs, ctrL 25 plaS args = some (v, cs) → (∀ c ∈ cs, c = true) → ∃ V, v.told? = some V ∧ ∀ (ρ : List Nat) (Args : List Value), RelL ρ args Args → ∀ w, Calls Try.prog 32 Args.toArray w fun e w' => e = .returned V ∧ Below w.heap.size w w' :=
  ctrL_ok (P := Try.prog) (ev_enters hE0 400 (places_ev 0 0 0 0 0 0 0 0 0 0 0 0 0 0 0 0 0 0 0 0 0 0 0 0 0).is) fun l hl w => by
    obtain ⟨x0, x1, x2, x3, x4, x5, x6, x7, x8, x9, x10, x11, x12, x13, x14, x15, x16, x17, x18, x19, x20, x21, x22, x23, x24, rfl⟩ := len25 hl
    exact calls_agg hE0 (places_ev x0 x1 x2 x3 x4 x5 x6 x7 x8 x9 x10 x11 x12 x13 x14 x15 x16 x17 x18 x19 x20 x21 x22 x23 x24) w
theorem rows_ev (x0 x1 x2 x3 x4 x5 x6 x7 x8 x9 x10 x11 x12 x13 x14 x15 x16 x17 x18 x19 x20 x21 x22 x23 x24 : BitVec 64) : Is (evCall E0 400 33 [bvs [x0, x1, x2, x3, x4, x5, x6, x7, x8, x9, x10, x11, x12, x13, x14, x15, x16, x17, x18, x19, x20, x21, x22, x23, x24]] ⟨[], [], 0⟩ (fun v _ => v = bvs (rowS [x0, x1, x2, x3, x4, x5, x6, x7, x8, x9, x10, x11, x12, x13, x14, x15, x16, x17, x18, x19, x20, x21, x22, x23, x24]))) := ev_of (r := bvs (rowS [x0, x1, x2, x3, x4, x5, x6, x7, x8, x9, x10, x11, x12, x13, x14, x15, x16, x17, x18, x19, x20, x21, x22, x23, x24])) (by kernel_rfl)
theorem rows_ok : Enters Try.prog 33 ∧ ∀ args v cs, ctrL 25 rowS args = some (v, cs) → (∀ c ∈ cs, c = true) → ∃ V, v.told? = some V ∧ ∀ (ρ : List Nat) (Args : List Value), RelL ρ args Args → ∀ w, Calls Try.prog 33 Args.toArray w fun e w' => e = .returned V ∧ Below w.heap.size w w' :=
  ctrL_ok (P := Try.prog) (ev_enters hE0 400 (rows_ev 0 0 0 0 0 0 0 0 0 0 0 0 0 0 0 0 0 0 0 0 0 0 0 0 0).is) fun l hl w => by
    obtain ⟨x0, x1, x2, x3, x4, x5, x6, x7, x8, x9, x10, x11, x12, x13, x14, x15, x16, x17, x18, x19, x20, x21, x22, x23, x24, rfl⟩ := len25 hl
    exact calls_agg hE0 (rows_ev x0 x1 x2 x3 x4 x5 x6 x7 x8 x9 x10 x11 x12 x13 x14 x15 x16 x17 x18 x19 x20 x21 x22 x23 x24) w
end Go.Proofs.Ytojmifniidddpaa
