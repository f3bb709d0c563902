/- A state is turned over where it lies. No condition. -/
import Derived.Test.YtojmifniidddpaaDigD
set_option linter.unusedVariables false
set_option linter.unusedSimpArgs false
set_option maxRecDepth 100000
namespace Go.Proofs.Ytojmifniidddpaa
open Go.RowKit

/-- A state's cells. -/
def bvA (l : List (BitVec 64)) : Array Value := (l.map fun x => Value.int .u64 (x.toNat : Int)).toArray
theorem u64s_bvA (l : List (BitVec 64)) : u64s l = .agg (bvA l) := rfl
theorem ev_same {α : Type} {p : Prop} {r : α} (h : p = (r = r)) : Is p := ⟨h ▸ rfl⟩
theorem relL_bvs (ρ : List Nat) : ∀ (l : List (BitVec 64)) (vs : List Value), RelL ρ (l.map b64) vs → vs = l.map fun x => Value.int .u64 (x.toNat : Int)
  | [], _, h => by cases h; rfl
  | x :: l, _, h => by
    cases h with
    | cons h1 h2 =>
      cases h1
      rw [relL_bvs ρ l _ h2]
      rfl
theorem relL_of_bvs (ρ : List Nat) : ∀ l : List (BitVec 64), RelL ρ (l.map b64) (l.map fun x => Value.int .u64 (x.toNat : Int))
  | [] => .nil
  | x :: l => .cons (.bv rfl) (relL_of_bvs ρ l)
theorem turnM_ev (x0 x1 x2 x3 x4 x5 x6 x7 x8 x9 x10 x11 x12 x13 x14 x15 x16 x17 x18 x19 x20 x21 x22 x23 x24 : BitVec 64) : Is (evCall E1 600 24 [.ptr 0 0] ⟨[([x0, x1, x2, x3, x4, x5, x6, x7, x8, x9, x10, x11, x12, x13, x14, x15, x16, x17, x18, x19, x20, x21, x22, x23, x24].map b64, 55)], [], 0⟩ (fun _ m => m.H.head? = some ((turnS [x0, x1, x2, x3, x4, x5, x6, x7, x8, x9, x10, x11, x12, x13, x14, x15, x16, x17, x18, x19, x20, x21, x22, x23, x24]).map b64, 55))) := ev_same (r := some ((turnS [x0, x1, x2, x3, x4, x5, x6, x7, x8, x9, x10, x11, x12, x13, x14, x15, x16, x17, x18, x19, x20, x21, x22, x23, x24]).map b64, 55)) (by kernel_rfl)
/-- A state is turned over where it lies. -/
theorem turnM_calls {l : List (BitVec 64)} (hl : l.length = 25) (b : Nat) (w : World) (hb : Blk w b (bvA l) 55) :
    Calls Try.prog 24 #[.pointer (some ⟨b, 0, none⟩)] w fun e w' => (∃ v, e = .returned v) ∧ Blk w' b (bvA (turnS l)) 55 ∧ w.grownBy w' (some b) := by
  obtain ⟨x0, x1, x2, x3, x4, x5, x6, x7, x8, x9, x10, x11, x12, x13, x14, x15, x16, x17, x18, x19, x20, x21, x22, x23, x24, rfl⟩ := len25 hl
  obtain ⟨v, m', hk, hlo, hen, hc⟩ := call_ok (ev_sound hE1 600) _ _ _ _ (turnM_ev x0 x1 x2 x3 x4 x5 x6 x7 x8 x9 x10 x11 x12 x13 x14 x15 x16 x17 x18 x19 x20 x21 x22 x23 x24).is
  refine (hc [(b, bvA [x0, x1, x2, x3, x4, x5, x6, x7, x8, x9, x10, x11, x12, x13, x14, x15, x16, x17, x18, x19, x20, x21, x22, x23, x24], 55)] w [.pointer (some ⟨b, 0, none⟩)] (.cons (.ptr rfl) .nil) (.cons (relL_of_bvs _ _) .nil) (by simp [nums]) (fun p hp => by simp at hp; subst hp; exact hb)).mono ?_
  rintro e w' ⟨V', Hr', rfl, hr, hB, hn, hO, hS⟩
  obtain ⟨H, ds, lo⟩ := m'
  simp only at hk hlo hB hS
  subst hlo
  cases H with
  | nil => cases hk
  | cons h H =>
    simp only [List.head?_cons, Option.some.injEq] at hk
    subst hk
    obtain ⟨b', Cs, h1, h2⟩ := hB.get (l := 0) rfl
    obtain ⟨sg, h3, h4⟩ := hS.ext
    have hb' : b' = b := by
      have := congrArg (·[0]?) h3
      simp [nums, h1] at this
      exact this
    subst hb'
    refine ⟨⟨_, rfl⟩, ?_, ⟨hS.os, hS.tape, hS.output, hS.size, fun k hk hne => hS.block k hk (by simp [nums]; exact fun h => hne (by rw [h]))⟩⟩
    have := hO.get 0 h1
    rw [relL_bvs _ _ _ h2] at this
    exact this
end Go.Proofs.Ytojmifniidddpaa
