/- Walks of package gauge: what becomes of numbers, one by one; labels. -/
import Derived.Test.YtiglfbnicihpmaaSGaugeB
import Derived.Shelf.Abstract
set_option linter.unusedVariables false
set_option linter.unusedSimpArgs false
namespace Go.Proofs.Ytiglfbnicihpmaa
open Go.RowKit

/-- What a folding's place holds behind k rounds. -/
def foldRow (g : Int → Int → Int) (x0 x1 x2 y0 y1 y2 : Int) : Nat → Array Value
  | 0 => #[.int .u64 0, .int .u64 0, .int .u64 0]
  | 1 => #[.int .u64 (g x0 y0), .int .u64 0, .int .u64 0]
  | 2 => #[.int .u64 (g x0 y0), .int .u64 (g x1 y1), .int .u64 0]
  | _ => #[.int .u64 (g x0 y0), .int .u64 (g x1 y1), .int .u64 (g x2 y2)]

/-- What holds at the head of a round. -/
def FoldRel (g : Int → Int → Int) (x0 x1 x2 y0 y1 y2 : Int) (w : World) (i : Value) (wr : World) : Prop :=
  ∃ k nd : Nat, k ≤ 3 ∧ i = .int .i64 k ∧ wr = (((w.alloc (.cells #[.int .u64 x0, .int .u64 x1, .int .u64 x2] 97)).alloc (.cells #[.int .u64 y0, .int .u64 y1, .int .u64 y2] 97)).alloc (.cells (foldRow g x0 x1 x2 y0 y1 y2 k) 97)).drewN nd

set_option maxHeartbeats 1000000 in
theorem folded_any (f : FuncId) (cap : Array Value) (g : Int → Int → Int) (x0 x1 x2 y0 y1 y2 : Int) (w : World)
    (hent : Enters Try.prog f)
    (hf : ∀ (x y : Int) (W : World), (x = x0 ∧ y = y0 ∨ x = x1 ∧ y = y1 ∨ x = x2 ∧ y = y2) → Below w.heap.size w W → Calls Try.prog f (#[.int .u64 x, .int .u64 y] ++ cap) W fun e w' => e = .returned (.int .u64 (g x y)) ∧ ∃ m, w' = W.drewN m) :
    Calls Try.prog 61 #[.agg #[.int .u64 x0, .int .u64 x1, .int .u64 x2], .agg #[.int .u64 y0, .int .u64 y1, .int .u64 y2], .func (.func f) #[] cap] w
      fun e w' => e = .returned (.agg #[.int .u64 (g x0 y0), .int .u64 (g x1 y1), .int .u64 (g x2 y2)]) ∧ Below w.heap.size w w' := by
  have hsd := setCell_drewN
  have HF := Lib.hid hf
  clear hf
  have hent' : ∀ (args : Array Value) (W : World), (callFunc f args).run Try.prog W = .ok (.enter f args) W := fun args W => hent args W
  clear hent
  go_enter Try.func61, Try.ntmps61
  go_wp2_with fail
  go_loopw [9] (fun i wr => FoldRel g x0 x1 x2 y0 y1 y2 w i wr)
    (fun i _ => 3 - (intOf i).toNat)
  case atStart => exact ⟨0, 0, by omega, rfl, rfl⟩
  case round =>
    obtain ⟨k, nd, hk, rfl, rfl⟩ := hrel
    rcases (by omega : k = 3 ∨ k = 0 ∨ k = 1 ∨ k = 2) with rfl | rfl | rfl | rfl
    · simp only [foldRow]
      go_wp2_with fail
      go_returns
      refine ⟨rfl, below_drewN ?_ _⟩
      go_grown
    · simp only [foldRow]
      go_wp2_with fail
      go_region_with (refine (HF.out _ _ _ (.inl ⟨rfl, rfl⟩) (by refine below_drewN ?_ _; go_grown)).mono ?_; rintro e w' ⟨rfl, m, rfl⟩)
      all_goals go_wp2_with fail
      all_goals exact ⟨⟨1, nd + 1 + m, by omega, rfl, rfl⟩, by simp [intOf]⟩
    · simp only [foldRow]
      go_wp2_with fail
      go_region_with (refine (HF.out _ _ _ (.inr (.inl ⟨rfl, rfl⟩)) (by refine below_drewN ?_ _; go_grown)).mono ?_; rintro e w' ⟨rfl, m, rfl⟩)
      all_goals go_wp2_with fail
      all_goals exact ⟨⟨2, nd + 1 + m, by omega, rfl, rfl⟩, by simp [intOf]⟩
    · simp only [foldRow]
      go_wp2_with fail
      go_region_with (refine (HF.out _ _ _ (.inr (.inr ⟨rfl, rfl⟩)) (by refine below_drewN ?_ _; go_grown)).mono ?_; rintro e w' ⟨rfl, m, rfl⟩)
      all_goals go_wp2_with fail
      all_goals exact ⟨⟨3, nd + 1 + m, by omega, rfl, rfl⟩, by simp [intOf]⟩

/-! ### The closures that numbers are folded with. -/
theorem plus1_any (x y : Int) (w : World) (hx : 0 ≤ x) (hy : 0 ≤ y) (hs : x + y ≤ 18446744073709551615) :
    Calls Try.prog 68 #[.int .u64 x, .int .u64 y] w fun e w' => e = .returned (.int .u64 (x + y)) ∧ w = w' := by
  go_enter Try.func68, Try.ntmps68
  go_wp2_with fail
  go_ret
  exact ⟨by simp, rfl⟩
theorem minus1_any (x y : Int) (w : World) (hx : 0 ≤ x) (hx' : x ≤ 18446744073709551615) (hy : 0 ≤ y) :
    Calls Try.prog 62 #[.int .u64 x, .int .u64 y] w fun e w' => e = .returned (.int .u64 (x - min x y)) ∧ w = w' := by
  by_cases h : x ≤ y
  · have hm : x - min x y = 0 := by omega
    have HM := Lib.hid hm
    clear hm
    go_enter Try.func62, Try.ntmps62
    go_wp2_with fail
    go_ret
    exact ⟨by rw [HM.out]; rfl, rfl⟩
  · have hm : x - min x y = x - y := by omega
    have h1 : y < x := by omega
    have h2 : 0 ≤ x - y := by omega
    have HM := Lib.hid hm
    clear hm h
    go_enter Try.func62, Try.ntmps62
    go_wp2_with fail
    go_ret
    exact ⟨by rw [HM.out]; rfl, rfl⟩
/-- Below, by bits. -/
def belowI (x y : Int) : Bool := bits .andNot .u64 x y == 0
/-- A bit of a number. -/
def hasI (x : Int) (k : Nat) : Bool := x / 2 ^ k % 2 == 1
theorem tmod2 {x : Int} (h : 0 ≤ x) : x.tmod 2 = x % 2 := Int.tmod_eq_emod_of_nonneg h
/-- Whether no bit of the first is none of the second. -/
def noneOut (x y : Int) (k : Nat) : Prop := ∀ j, j < k → (hasI x j && !hasI y j) = false
/-- What holds at the head of a round. -/
def BelowRel (x y : Int) (w : World) (i : Value) (wr : World) : Prop := ∃ k : Nat, k ≤ 64 ∧ i = .int .i64 k ∧ noneOut x y k ∧ w = wr
def refBelowI (x y : Int) : Bool := (List.range 64).all fun j => !(hasI x j && !hasI y j)

end Go.Proofs.Ytiglfbnicihpmaa
