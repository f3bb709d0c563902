/- Walks of package tag: which are alike. -/
import Derived.Test.YtknkepokkenokaaTagF
import Derived.Test.YtknkepokkenokaaEq
set_option linter.unusedVariables false
set_option linter.unusedSimpArgs false
namespace Go.Proofs.Ytknkepokkenokaa
open Go.RowKit

theorem known_any (x y : Int) (w : World) :
    Calls Try.prog 47 #[.int .u64 x, .int .u64 y] w fun e w' => e = .returned (.bool (belowI x y)) ∧ w = w' := by
  go_enter Try.func47, Try.ntmps47
  go_wp2_with fail
  refine (below_any _ _ _).mono ?_
  rintro e w1 ⟨rfl, rfl⟩
  go_wp2_with fail
  go_ret
  exact ⟨rfl, rfl⟩

/-- Cells that are alike up to a label. -/
def alikeC (bl : Int → Int → Bool) (up : Int) (x y : Int × Int) : Bool := decide (x.2 = y.2) && (decide (x.1 = y.1) || !bl x.2 up)
def alikeL (bl : Int → Int → Bool) (up : Int) (xs ys : List (Int × Int)) : Bool := decide (xs.length = ys.length) && (xs.zip ys).all fun p => alikeC bl up p.1 p.2
theorem alikeL_true {bl : Int → Int → Bool} {up : Int} {xs ys : List (Int × Int)} (hl : xs.length = ys.length) (h : ∀ (j : Nat) (x y : Int × Int), xs[j]? = some x → ys[j]? = some y → alikeC bl up x y = true) : alikeL bl up xs ys = true := by
  unfold alikeL
  rw [Bool.and_eq_true]
  refine ⟨by simpa using hl, ?_⟩
  rw [List.all_eq_true]
  intro p hp
  obtain ⟨j, hj⟩ := List.getElem?_of_mem hp
  rw [List.getElem?_zip_eq_some] at hj
  exact h j _ _ hj.1 hj.2
theorem alikeL_false {bl : Int → Int → Bool} {up : Int} {xs ys : List (Int × Int)} (j : Nat) (x y : Int × Int) (hx : xs[j]? = some x) (hy : ys[j]? = some y) (h : alikeC bl up x y = false) : alikeL bl up xs ys = false := by
  unfold alikeL
  have : ((xs.zip ys).all fun p => alikeC bl up p.1 p.2) = false := by
    rw [List.all_eq_false]
    refine ⟨(x, y), List.mem_of_getElem? (i := j) (by rw [List.getElem?_zip_eq_some]; exact ⟨hx, hy⟩), by simp [h]⟩
  rw [this]; simp
theorem alikeL_len {bl : Int → Int → Bool} {up : Int} {xs ys : List (Int × Int)} (hl : ¬ xs.length = ys.length) : alikeL bl up xs ys = false := by
  unfold alikeL; simp [hl]

theorem alike1_any (b : Nat) (x1 x2 y1 y2 up : Int) (w : World) (hc : w.cell? ⟨b, 0, none⟩ = some (.int .u64 up)) :
    Calls Try.prog 46 #[.agg #[.int .u8 x1, .int .u64 x2], .agg #[.int .u8 y1, .int .u64 y2], .pointer (some ⟨b, 0, none⟩)] w
      fun e w' => e = .returned (.bool (alikeC belowI up (x1, x2) (y1, y2))) ∧ Below w.heap.size w w' := by
  have hlt : b < w.heap.size := World.block_lt_of_cell? w ⟨b, 0, none⟩ hc
  have hc2 : ∀ o1 o2 : Obj, ((w.alloc o1).alloc o2).cell? ⟨b, 0, none⟩ = some (.int .u64 up) := fun o1 o2 => kept (World.below_alloc _ o2) (kept (World.below_alloc w o1) hc)
  by_cases e2 : x2 = y2
  · subst e2
    by_cases e1 : x1 = y1
    · subst e1
      go_enter Try.func46, Try.ntmps46
      go_wp2_with fail
      go_ret
      refine ⟨by simp [alikeC], ?_⟩; go_grown
    · go_enter Try.func46, Try.ntmps46
      go_wp2_with fail
      refine (known_any _ _ _).mono ?_
      rintro e w1 ⟨rfl, rfl⟩
      go_wp2_with fail
      go_ret
      refine ⟨by simp [alikeC, e1], ?_⟩; go_grown
  · go_enter Try.func46, Try.ntmps46
    go_wp2_with fail
    go_ret
    refine ⟨by simp [alikeC, e2], ?_⟩; go_grown

/-- A value: a word, and a label. -/
structure Vl where
  a : Int
  b : Int
  c : Int
  d : Int
  l : Int
abbrev Vl.v (x : Vl) : Value := .agg #[.int .u64 x.a, .int .u64 x.b, .int .u64 x.c, .int .u64 x.d, .int .u64 x.l]
def sameW (x y : Vl) : Bool := decide (x.a = y.a) && (decide (x.b = y.b) && (decide (x.c = y.c) && decide (x.d = y.d)))
def sameV (bl : Int → Int → Bool) (up : Int) (x y : Vl) : Bool := decide (x.l = y.l) && (sameW x y || !bl x.l up)
set_option maxRecDepth 20000 in
set_option maxHeartbeats 1000000 in
theorem same_any (x y : Vl) (up : Int) (w : World) :
    Calls Try.prog 25 #[x.v, y.v, .int .u64 up] w fun e w' => e = .returned (.bool (sameV belowI up x y)) ∧ Below w.heap.size w w' := by
  obtain ⟨a, b, c, d, l⟩ := x
  obtain ⟨a', b', c', d', l'⟩ := y
  by_cases e2 : l = l'
  · subst e2
    have hq := eqWord0 a b c d a' b' c' d'
    by_cases e1 : a = a' ∧ b = b' ∧ c = c' ∧ d = d'
    · rw [decide_eq_true e1] at hq
      have E1 := Lib.hid e1
      clear e1
      go_enter Try.func25, Try.ntmps25
      go_wp2_with fail
      go_ret
      refine ⟨by simp [sameV, sameW, E1.out], ?_⟩; go_grown
    · rw [decide_eq_false e1] at hq
      have E1 := Lib.hid e1
      clear e1
      go_enter Try.func25, Try.ntmps25
      go_wp2_with fail
      refine (known_any _ _ _).mono ?_
      rintro e w1 ⟨rfl, rfl⟩
      go_wp2_with fail
      go_ret
      refine ⟨by simp [sameV, sameW, E1.out], ?_⟩; go_grown
  · go_enter Try.func25, Try.ntmps25
    go_wp2_with fail
    go_ret
    refine ⟨by simp [sameV, sameW, e2], ?_⟩; go_grown
end Go.Proofs.Ytknkepokkenokaa
