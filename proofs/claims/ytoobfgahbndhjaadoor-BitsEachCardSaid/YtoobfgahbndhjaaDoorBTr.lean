/- Words added, ordered, divided. No condition. -/
import Derived.Test.YtoobfgahbndhjaaDoorKit
import Derived.Test.YtoobfgahbndhjaaDoorReg
import Derived.Test.YtoobfgahbndhjaaDoorSl
import Derived.Test.YtoobfgahbndhjaaDoorWords
import Derived.Test.YtoobfgahbndhjaaDoorRngB
import Derived.Test.YtoobfgahbndhjaaDoorRngC
import Derived.Test.YtoobfgahbndhjaaDoorByt
import Derived.Test.YtoobfgahbndhjaaDoorBytes
import Derived.Test.YtoobfgahbndhjaaDoorDWb
import Derived.Test.YtoobfgahbndhjaaDoorWr0
import Derived.Test.YtoobfgahbndhjaaDoorRb0
import Derived.Test.YtoobfgahbndhjaaDoorRf0
import Derived.Test.YtoobfgahbndhjaaDoorDig
import Derived.Test.YtoobfgahbndhjaaDoorWdc
import Derived.Test.YtoobfgahbndhjaaDoorGrw
import Derived.Test.YtoobfgahbndhjaaDoorRefA
import Derived.Test.YtoobfgahbndhjaaDoorRefM
import Derived.Test.YtoobfgahbndhjaaDoorSpP
import Derived.Test.YtoobfgahbndhjaaDoorDEq
import Derived.WalkKit
import Derived.WalkSpells
import Derived.WalkLawsBesides
import Derived.Lib.Hide
import Derived.Handy
import Derived.Deep.RegionWith
import Derived.Deep.LoopGhost
import Derived.Shelf.Abstract
import Derived.RegionIn
import Derived.OwnWalkIn
import Derived.TacticsInMore
import Derived.LoopNIn
import Derived.LoopIn
import Derived.Shelf.Spec.BitsCarry
set_option linter.unusedVariables false
set_option linter.unusedSimpArgs false
namespace Go.Proofs.YtoobfgahbndhjaaDoor
open Go.RowKit

section
/-- What the sum's place holds behind k rounds. -/
def addRow (x y : BitVec 256) : Nat → Array Value
  | 0 => #[.int .u64 0, .int .u64 0, .int .u64 0, .int .u64 0]
  | 1 => #[.int .u64 (aLo (L x 0) (L y 0) 0), .int .u64 0, .int .u64 0, .int .u64 0]
  | 2 => #[.int .u64 (aLo (L x 0) (L y 0) 0), .int .u64 (aLo (L x 1) (L y 1) (c1 x y)), .int .u64 0, .int .u64 0]
  | 3 => #[.int .u64 (aLo (L x 0) (L y 0) 0), .int .u64 (aLo (L x 1) (L y 1) (c1 x y)), .int .u64 (aLo (L x 2) (L y 2) (c2 x y)), .int .u64 0]
  | _ => #[.int .u64 (aLo (L x 0) (L y 0) 0), .int .u64 (aLo (L x 1) (L y 1) (c1 x y)), .int .u64 (aLo (L x 2) (L y 2) (c2 x y)), .int .u64 (aLo (L x 3) (L y 3) (cc3 x y))]
def addC (x y : BitVec 256) : Nat → Int
  | 0 => 0
  | 1 => c1 x y
  | 2 => c2 x y
  | 3 => cc3 x y
  | _ => aHi (L x 3) (L y 3) (cc3 x y)
end

section
abbrev wl (x : BitVec 256) : List Value := [.int .u64 (L x 0), .int .u64 (L x 1), .int .u64 (L x 2), .int .u64 (L x 3)]
abbrev wc (x : BitVec 256) : Array Value := #[.int .u64 (L x 0), .int .u64 (L x 1), .int .u64 (L x 2), .int .u64 (L x 3)]
def sumW (xs : List (BitVec 256)) (k : Nat) : BitVec 256 := (xs.take k).foldl (· + ·) 0
theorem sumW_zero (xs : List (BitVec 256)) : sumW xs 0 = 0 := rfl
theorem sumW_succ {xs : List (BitVec 256)} {k : Nat} {x : BitVec 256} (h : xs[k]? = some x) : sumW xs (k + 1) = sumW xs k + x := by
  unfold sumW
  rw [List.take_add_one, h, List.foldl_append]
  rfl
theorem sumW_all (xs : List (BitVec 256)) : sumW xs xs.length = xs.foldl (· + ·) 0 := by unfold sumW; rw [List.take_length]
theorem L_zero (i : Nat) : L 0#256 i = 0 := by rw [L_eq]; simp
theorem wc_zero : wc 0 = #[.int .u64 0, .int .u64 0, .int .u64 0, .int .u64 0] := by rw [show (0 : BitVec 256) = 0#256 from rfl]; unfold wc; rw [L_zero, L_zero, L_zero, L_zero]
def AddLRel (xs : List (BitVec 256)) (w : World) (i : Value) (wr : World) : Prop := ∃ k : Nat, k ≤ xs.length ∧ i = .int .i64 k ∧ Blk wr w.heap.size (wc (sumW xs k)) 24 ∧ Below w.heap.size w wr
end

section
def ordW (x y : BitVec 256) : Int := if x.toNat < y.toNat then -1 else if y.toNat < x.toNat then 1 else 0
theorem wc_at (x : BitVec 256) {q : Nat} (h : q < 4) : (wc x)[q]? = some (.int .u64 (L x q)) := by
  rcases (by omega : q = 0 ∨ q = 1 ∨ q = 2 ∨ q = 3) with rfl | rfl | rfl | rfl <;> rfl
theorem ord_lt {x y : BitVec 256} {q : Nat} (hq : q < 4) (hs : ∀ j, q < j → j < 4 → L x j = L y j) (h : L x q < L y q) : x.toNat < y.toNat := by
  have hx := L_sum x
  have hy := L_sum y
  have x0 := L_lo x 0; have x1 := L_lo x 1; have x2 := L_lo x 2; have x3 := L_lo x 3
  have y0 := L_lo y 0; have y1 := L_lo y 1; have y2 := L_lo y 2; have y3 := L_lo y 3
  have x0' := L_hi x 0; have x1' := L_hi x 1; have x2' := L_hi x 2; have x3' := L_hi x 3
  have y0' := L_hi y 0; have y1' := L_hi y 1; have y2' := L_hi y 2; have y3' := L_hi y 3
  rcases (by omega : q = 0 ∨ q = 1 ∨ q = 2 ∨ q = 3) with rfl | rfl | rfl | rfl
  · have h1 := hs 1 (by omega) (by omega); have h2 := hs 2 (by omega) (by omega); have h3 := hs 3 (by omega) (by omega); omega
  · have h2 := hs 2 (by omega) (by omega); have h3 := hs 3 (by omega) (by omega); omega
  · have h3 := hs 3 (by omega) (by omega); omega
  · omega
theorem ordW_lt {x y : BitVec 256} {q : Nat} (hq : q < 4) (hs : ∀ j, q < j → j < 4 → L x j = L y j) (h : L x q < L y q) : ordW x y = -1 := by
  unfold ordW; rw [if_pos (ord_lt hq hs h)]
theorem ordW_gt {x y : BitVec 256} {q : Nat} (hq : q < 4) (hs : ∀ j, q < j → j < 4 → L x j = L y j) (h : L y q < L x q) : ordW x y = 1 := by
  have := ord_lt hq (fun j h1 h2 => (hs j h1 h2).symm) h
  unfold ordW; rw [if_neg (by omega), if_pos this]
theorem ordW_eq {x y : BitVec 256} (hs : ∀ j, j < 4 → L x j = L y j) : ordW x y = 0 := by
  have : x = y := L_ext (hs 0 (by omega)) (hs 1 (by omega)) (hs 2 (by omega)) (hs 3 (by omega))
  subst this
  unfold ordW; rw [if_neg (by omega), if_neg (by omega)]
def OrdRel (x y : BitVec 256) (w : World) (i : Value) (wr : World) : Prop :=
  ∃ k : Nat, k ≤ 4 ∧ i = .int .i64 (3 - (k : Int)) ∧ (∀ j, 4 ≤ j + k → j < 4 → L x j = L y j) ∧ Own [(w.heap.size + 1, wc y, 24), (w.heap.size, wc x, 24)] wr ∧ Below w.heap.size w wr
set_option maxRecDepth 20000 in
set_option maxHeartbeats 4000000 in
theorem refOrderW (x y : BitVec 256) (w : World) : Calls Tryd.prog 51 #[W x, W y] w fun e w' => e = .returned (.int .i64 (ordW x y)) ∧ Below w.heap.size w w' := by
  have HST := Lib.hid (Own.new (Own.new (Own.nil w) (c := wc x) (t := 24) w.heap.size rfl) (c := wc y) (t := 24) (w.heap.size + 1) (by simp))
  have hO := HST.out
  go_enter Tryd.func51, Tryd.ntmps51
  go_wp2_with fail
  go_loopw [5] (fun i wr => OrdRel x y w i wr) (fun i _ => (intOf i + 1).toNat)
  case atStart => exact ⟨0, Nat.zero_le _, rfl, fun j h1 h2 => by omega, HST.out, by go_grown⟩
  case round =>
    clear hO HST
    obtain ⟨k, hk, rfl, hs, hO, hb⟩ := hrel
    have HB := Lib.hid hb
    by_cases hlt : k < 4
    · obtain ⟨q, hq⟩ : ∃ q, q + k = 3 := ⟨3 - k, by omega⟩
      have hqi : (3 - (k : Int)) = (q : Int) := by omega
      have hs' : ∀ j, q < j → j < 4 → L x j = L y j := fun j h1 h2 => hs j (by omega) h2
      have HS := Lib.hid hs
      have hwx := wc_at x (show q < 4 by omega)
      have hwy := wc_at y (show q < 4 by omega)
      have hL := ordW_lt (x := x) (y := y) (show q < 4 by omega) hs'
      have hG := ordW_gt (x := x) (y := y) (show q < 4 by omega) hs'
      have HL := Lib.hid hL
      have HG := Lib.hid hG
      have hxq := L_lo x q
      have hyq := L_lo y q
      generalize hlx : L x q = lx at *
      generalize hly : L y q = ly at *
      have HO := Lib.hid hO
      clear hs hs' hb hL hG hO
      rcases (by omega : lx < ly ∨ ly < lx ∨ lx = ly) with hc | hc | hc
      · have d1 : decide (lx < ly) = true := by simpa using hc
        go_wp2_with fail
        refine wp_region_grow wr.heap.size 7 0 0 [(0, 0, 1024, 32), (1, 1, 2048, 1028), (2, 2, 4096, 2048), (3, 0, 8192, 32), (4, 8, 16384, 8200), (5, 16, 32768, 16384), (6, 36, 65536, 36864)] [(.p 0, 1), (.p 1, 3), (.p 2, 7), (.p 3, 15), (.p 4, 31), (.p 5, 63), (.p 6, 127)] [] _ (fun p hp => hp) (by first | omega | (simp; done) | (simp; omega)) (by kernel_rfl) (by kernel_rfl) HO.out ?_
        refine wpG_move (i := 0) rfl rfl rfl (by rfl) rfl ?_
        simp only [List.set_cons_zero, List.set_cons_succ]
        refine wpG_pure (i := 1) (v := ?v11x1) rfl rfl (by rfl) (fun w hB hG K hK => ?h11x1) ?_
        case h11x1 =>
          go_wp2_with fail
          exact hK _ (Below.refl _ _)
        simp only [List.set_cons_zero, List.set_cons_succ]
        refine wpG_pure (i := 2) (v := ?v11x2) rfl rfl (by rfl) (fun w hB hG K hK => ?h11x2) ?_
        case h11x2 =>
          have hcx := (hG.cell 1 rfl q).trans hwx
          have cx := Own.cell hG 1 rfl
          go_wp2_with fail
          exact hK _ (Below.refl _ _)
        simp only [List.set_cons_zero, List.set_cons_succ]
        refine wpG_move (i := 3) rfl rfl rfl (by rfl) rfl ?_
        simp only [List.set_cons_zero, List.set_cons_succ]
        refine wpG_pure (i := 4) (v := ?v11x4) rfl rfl (by rfl) (fun w hB hG K hK => ?h11x4) ?_
        case h11x4 =>
          go_wp2_with fail
          exact hK _ (Below.refl _ _)
        simp only [List.set_cons_zero, List.set_cons_succ]
        refine wpG_pure (i := 5) (v := ?v11x5) rfl rfl (by rfl) (fun w hB hG K hK => ?h11x5) ?_
        case h11x5 =>
          have hcy := (hG.cell 0 rfl q).trans hwy
          have cx := Own.cell hG 0 rfl
          go_wp2_with fail
          exact hK _ (Below.refl _ _)
        simp only [List.set_cons_zero, List.set_cons_succ]
        refine wpG_pure (i := 6) (v := ?v11x6) rfl rfl (by rfl) (fun w hB hG K hK => ?h11x6) ?_
        case h11x6 =>
          go_wp2_with fail
          exact hK _ (Below.refl _ _)
        simp only [List.set_cons_zero, List.set_cons_succ]
        refine wpG_nil (fun w11 hb11 hG11 => ?_)
        simp only [List.append_eq, List.cons_append, List.nil_append, List.drop_succ_cons, List.drop_zero, List.drop_nil]
        have O11 := Own.of hG11
        try simp only [List.setIfInBounds_toArray, List.set_cons_zero, List.set_cons_succ] at O11
        have bw11 : Below wr.heap.size wr w11 := Below.trans (by go_grown) (Below.mono hb11 (by first | omega | (simp; done) | (simp; omega)))
        have zw11 := Below.size hb11
        try simp only [World.size_alloc, World.size_drew, World.size_setCell] at zw11
        have c11x0 := Own.cell O11 0 rfl
        have f11x0 := Own.free O11 0 rfl
        have l11x0 := Own.lt O11 0 rfl
        have l11x0d0 := le_up 0 l11x0
        have l11x0d1 := le_up 1 l11x0
        simp only [upN] at l11x0d0 l11x0d1
        have c11x1 := Own.cell O11 1 rfl
        have f11x1 := Own.free O11 1 rfl
        have l11x1 := Own.lt O11 1 rfl
        have l11x1d0 := le_up 0 l11x1
        have l11x1d1 := le_up 1 l11x1
        simp only [upN] at l11x1d0 l11x1d1
        have HO11 := Lib.hid O11
        clear O11 hb11
        go_wp2_with fail
        go_ret
        rw [HL.out hc]
        exact ⟨rfl, HB.out.trans (bw11.mono HB.out.size)⟩
      · have d1 : decide (lx < ly) = false := by simp; omega
        have d2 : decide (ly < lx) = true := by simpa using hc
        go_wp2_with fail
        refine wp_region_grow wr.heap.size 7 0 0 [(0, 0, 1024, 32), (1, 1, 2048, 1028), (2, 2, 4096, 2048), (3, 0, 8192, 32), (4, 8, 16384, 8200), (5, 16, 32768, 16384), (6, 36, 65536, 36864)] [(.p 0, 1), (.p 1, 3), (.p 2, 7), (.p 3, 15), (.p 4, 31), (.p 5, 63), (.p 6, 127)] [] _ (fun p hp => hp) (by first | omega | (simp; done) | (simp; omega)) (by kernel_rfl) (by kernel_rfl) HO.out ?_
        refine wpG_move (i := 0) rfl rfl rfl (by rfl) rfl ?_
        simp only [List.set_cons_zero, List.set_cons_succ]
        refine wpG_pure (i := 1) (v := ?v21x1) rfl rfl (by rfl) (fun w hB hG K hK => ?h21x1) ?_
        case h21x1 =>
          go_wp2_with fail
          exact hK _ (Below.refl _ _)
        simp only [List.set_cons_zero, List.set_cons_succ]
        refine wpG_pure (i := 2) (v := ?v21x2) rfl rfl (by rfl) (fun w hB hG K hK => ?h21x2) ?_
        case h21x2 =>
          have hcx := (hG.cell 1 rfl q).trans hwx
          have cx := Own.cell hG 1 rfl
          go_wp2_with fail
          exact hK _ (Below.refl _ _)
        simp only [List.set_cons_zero, List.set_cons_succ]
        refine wpG_move (i := 3) rfl rfl rfl (by rfl) rfl ?_
        simp only [List.set_cons_zero, List.set_cons_succ]
        refine wpG_pure (i := 4) (v := ?v21x4) rfl rfl (by rfl) (fun w hB hG K hK => ?h21x4) ?_
        case h21x4 =>
          go_wp2_with fail
          exact hK _ (Below.refl _ _)
        simp only [List.set_cons_zero, List.set_cons_succ]
        refine wpG_pure (i := 5) (v := ?v21x5) rfl rfl (by rfl) (fun w hB hG K hK => ?h21x5) ?_
        case h21x5 =>
          have hcy := (hG.cell 0 rfl q).trans hwy
          have cx := Own.cell hG 0 rfl
          go_wp2_with fail
          exact hK _ (Below.refl _ _)
        simp only [List.set_cons_zero, List.set_cons_succ]
        refine wpG_pure (i := 6) (v := ?v21x6) rfl rfl (by rfl) (fun w hB hG K hK => ?h21x6) ?_
        case h21x6 =>
          go_wp2_with fail
          exact hK _ (Below.refl _ _)
        simp only [List.set_cons_zero, List.set_cons_succ]
        refine wpG_nil (fun w21 hb21 hG21 => ?_)
        simp only [List.append_eq, List.cons_append, List.nil_append, List.drop_succ_cons, List.drop_zero, List.drop_nil]
        have O21 := Own.of hG21
        try simp only [List.setIfInBounds_toArray, List.set_cons_zero, List.set_cons_succ] at O21
        have bw21 : Below wr.heap.size wr w21 := Below.trans (by go_grown) (Below.mono hb21 (by first | omega | (simp; done) | (simp; omega)))
        have zw21 := Below.size hb21
        try simp only [World.size_alloc, World.size_drew, World.size_setCell] at zw21
        have c21x0 := Own.cell O21 0 rfl
        have f21x0 := Own.free O21 0 rfl
        have l21x0 := Own.lt O21 0 rfl
        have l21x0d0 := le_up 0 l21x0
        have l21x0d1 := le_up 1 l21x0
        simp only [upN] at l21x0d0 l21x0d1
        have c21x1 := Own.cell O21 1 rfl
        have f21x1 := Own.free O21 1 rfl
        have l21x1 := Own.lt O21 1 rfl
        have l21x1d0 := le_up 0 l21x1
        have l21x1d1 := le_up 1 l21x1
        simp only [upN] at l21x1d0 l21x1d1
        have HO21 := Lib.hid O21
        clear O21 hb21
        go_wp2_with fail
        refine wp_region_grow w21.heap.size 7 0 0 [(0, 0, 131072, 32), (1, 1, 262144, 131076), (2, 2, 524288, 262144), (3, 0, 1048576, 32), (4, 8, 2097152, 1048584), (5, 16, 4194304, 2097152), (6, 36, 8388608, 4718592)] [(.p 0, 1), (.p 1, 3), (.p 2, 7), (.p 3, 15), (.p 4, 31), (.p 5, 63), (.p 6, 127)] [] _ (fun p hp => hp) (by first | omega | (simp; done) | (simp; omega)) (by kernel_rfl) (by kernel_rfl) HO21.out ?_
        refine wpG_move (i := 0) rfl rfl rfl (by rfl) rfl ?_
        simp only [List.set_cons_zero, List.set_cons_succ]
        refine wpG_pure (i := 1) (v := ?v22x1) rfl rfl (by rfl) (fun w hB hG K hK => ?h22x1) ?_
        case h22x1 =>
          go_wp2_with fail
          exact hK _ (Below.refl _ _)
        simp only [List.set_cons_zero, List.set_cons_succ]
        refine wpG_pure (i := 2) (v := ?v22x2) rfl rfl (by rfl) (fun w hB hG K hK => ?h22x2) ?_
        case h22x2 =>
          have hcx := (hG.cell 1 rfl q).trans hwx
          have cx := Own.cell hG 1 rfl
          go_wp2_with fail
          exact hK _ (Below.refl _ _)
        simp only [List.set_cons_zero, List.set_cons_succ]
        refine wpG_move (i := 3) rfl rfl rfl (by rfl) rfl ?_
        simp only [List.set_cons_zero, List.set_cons_succ]
        refine wpG_pure (i := 4) (v := ?v22x4) rfl rfl (by rfl) (fun w hB hG K hK => ?h22x4) ?_
        case h22x4 =>
          go_wp2_with fail
          exact hK _ (Below.refl _ _)
        simp only [List.set_cons_zero, List.set_cons_succ]
        refine wpG_pure (i := 5) (v := ?v22x5) rfl rfl (by rfl) (fun w hB hG K hK => ?h22x5) ?_
        case h22x5 =>
          have hcy := (hG.cell 0 rfl q).trans hwy
          have cx := Own.cell hG 0 rfl
          go_wp2_with fail
          exact hK _ (Below.refl _ _)
        simp only [List.set_cons_zero, List.set_cons_succ]
        refine wpG_pure (i := 6) (v := ?v22x6) rfl rfl (by rfl) (fun w hB hG K hK => ?h22x6) ?_
        case h22x6 =>
          go_wp2_with fail
          exact hK _ (Below.refl _ _)
        simp only [List.set_cons_zero, List.set_cons_succ]
        refine wpG_nil (fun w22 hb22 hG22 => ?_)
        simp only [List.append_eq, List.cons_append, List.nil_append, List.drop_succ_cons, List.drop_zero, List.drop_nil]
        have O22 := Own.of hG22
        try simp only [List.setIfInBounds_toArray, List.set_cons_zero, List.set_cons_succ] at O22
        have bw22 : Below wr.heap.size wr w22 := Below.trans (by go_grown) (Below.mono hb22 (by first | omega | (simp; done) | (simp; omega)))
        have zw22 := Below.size hb22
        try simp only [World.size_alloc, World.size_drew, World.size_setCell] at zw22
        clear c21x0 f21x0 l21x0 l21x0d0 l21x0d1 c21x1 f21x1 l21x1 l21x1d0 l21x1d1
        have c22x0 := Own.cell O22 0 rfl
        have f22x0 := Own.free O22 0 rfl
        have l22x0 := Own.lt O22 0 rfl
        have l22x0d0 := le_up 0 l22x0
        have l22x0d1 := le_up 1 l22x0
        simp only [upN] at l22x0d0 l22x0d1
        have c22x1 := Own.cell O22 1 rfl
        have f22x1 := Own.free O22 1 rfl
        have l22x1 := Own.lt O22 1 rfl
        have l22x1d0 := le_up 0 l22x1
        have l22x1d1 := le_up 1 l22x1
        simp only [upN] at l22x1d0 l22x1d1
        have HO22 := Lib.hid O22
        clear O22 hb22
        go_wp2_with fail
        go_ret
        rw [HG.out hc]
        exact ⟨rfl, HB.out.trans (bw22.mono HB.out.size)⟩
      · have d1 : decide (lx < ly) = false := by simp; omega
        have d2 : decide (ly < lx) = false := by simp; omega
        have HE := Lib.hid hc
        clear hc
        go_wp2_with fail
        refine wp_region_grow wr.heap.size 7 0 0 [(0, 0, 1024, 32), (1, 1, 2048, 1028), (2, 2, 4096, 2048), (3, 0, 8192, 32), (4, 8, 16384, 8200), (5, 16, 32768, 16384), (6, 36, 65536, 36864)] [(.p 0, 1), (.p 1, 3), (.p 2, 7), (.p 3, 15), (.p 4, 31), (.p 5, 63), (.p 6, 127)] [] _ (fun p hp => hp) (by first | omega | (simp; done) | (simp; omega)) (by kernel_rfl) (by kernel_rfl) HO.out ?_
        refine wpG_move (i := 0) rfl rfl rfl (by rfl) rfl ?_
        simp only [List.set_cons_zero, List.set_cons_succ]
        refine wpG_pure (i := 1) (v := ?v31x1) rfl rfl (by rfl) (fun w hB hG K hK => ?h31x1) ?_
        case h31x1 =>
          go_wp2_with fail
          exact hK _ (Below.refl _ _)
        simp only [List.set_cons_zero, List.set_cons_succ]
        refine wpG_pure (i := 2) (v := ?v31x2) rfl rfl (by rfl) (fun w hB hG K hK => ?h31x2) ?_
        case h31x2 =>
          have hcx := (hG.cell 1 rfl q).trans hwx
          have cx := Own.cell hG 1 rfl
          go_wp2_with fail
          exact hK _ (Below.refl _ _)
        simp only [List.set_cons_zero, List.set_cons_succ]
        refine wpG_move (i := 3) rfl rfl rfl (by rfl) rfl ?_
        simp only [List.set_cons_zero, List.set_cons_succ]
        refine wpG_pure (i := 4) (v := ?v31x4) rfl rfl (by rfl) (fun w hB hG K hK => ?h31x4) ?_
        case h31x4 =>
          go_wp2_with fail
          exact hK _ (Below.refl _ _)
        simp only [List.set_cons_zero, List.set_cons_succ]
        refine wpG_pure (i := 5) (v := ?v31x5) rfl rfl (by rfl) (fun w hB hG K hK => ?h31x5) ?_
        case h31x5 =>
          have hcy := (hG.cell 0 rfl q).trans hwy
          have cx := Own.cell hG 0 rfl
          go_wp2_with fail
          exact hK _ (Below.refl _ _)
        simp only [List.set_cons_zero, List.set_cons_succ]
        refine wpG_pure (i := 6) (v := ?v31x6) rfl rfl (by rfl) (fun w hB hG K hK => ?h31x6) ?_
        case h31x6 =>
          go_wp2_with fail
          exact hK _ (Below.refl _ _)
        simp only [List.set_cons_zero, List.set_cons_succ]
        refine wpG_nil (fun w31 hb31 hG31 => ?_)
        simp only [List.append_eq, List.cons_append, List.nil_append, List.drop_succ_cons, List.drop_zero, List.drop_nil]
        have O31 := Own.of hG31
        try simp only [List.setIfInBounds_toArray, List.set_cons_zero, List.set_cons_succ] at O31
        have bw31 : Below wr.heap.size wr w31 := Below.trans (by go_grown) (Below.mono hb31 (by first | omega | (simp; done) | (simp; omega)))
        have zw31 := Below.size hb31
        try simp only [World.size_alloc, World.size_drew, World.size_setCell] at zw31
        have c31x0 := Own.cell O31 0 rfl
        have f31x0 := Own.free O31 0 rfl
        have l31x0 := Own.lt O31 0 rfl
        have l31x0d0 := le_up 0 l31x0
        have l31x0d1 := le_up 1 l31x0
        simp only [upN] at l31x0d0 l31x0d1
        have c31x1 := Own.cell O31 1 rfl
        have f31x1 := Own.free O31 1 rfl
        have l31x1 := Own.lt O31 1 rfl
        have l31x1d0 := le_up 0 l31x1
        have l31x1d1 := le_up 1 l31x1
        simp only [upN] at l31x1d0 l31x1d1
        have HO31 := Lib.hid O31
        clear O31 hb31
        go_wp2_with fail
        refine wp_region_grow w31.heap.size 7 0 0 [(0, 0, 131072, 32), (1, 1, 262144, 131076), (2, 2, 524288, 262144), (3, 0, 1048576, 32), (4, 8, 2097152, 1048584), (5, 16, 4194304, 2097152), (6, 36, 8388608, 4718592)] [(.p 0, 1), (.p 1, 3), (.p 2, 7), (.p 3, 15), (.p 4, 31), (.p 5, 63), (.p 6, 127)] [] _ (fun p hp => hp) (by first | omega | (simp; done) | (simp; omega)) (by kernel_rfl) (by kernel_rfl) HO31.out ?_
        refine wpG_move (i := 0) rfl rfl rfl (by rfl) rfl ?_
        simp only [List.set_cons_zero, List.set_cons_succ]
        refine wpG_pure (i := 1) (v := ?v32x1) rfl rfl (by rfl) (fun w hB hG K hK => ?h32x1) ?_
        case h32x1 =>
          go_wp2_with fail
          exact hK _ (Below.refl _ _)
        simp only [List.set_cons_zero, List.set_cons_succ]
        refine wpG_pure (i := 2) (v := ?v32x2) rfl rfl (by rfl) (fun w hB hG K hK => ?h32x2) ?_
        case h32x2 =>
          have hcx := (hG.cell 1 rfl q).trans hwx
          have cx := Own.cell hG 1 rfl
          go_wp2_with fail
          exact hK _ (Below.refl _ _)
        simp only [List.set_cons_zero, List.set_cons_succ]
        refine wpG_move (i := 3) rfl rfl rfl (by rfl) rfl ?_
        simp only [List.set_cons_zero, List.set_cons_succ]
        refine wpG_pure (i := 4) (v := ?v32x4) rfl rfl (by rfl) (fun w hB hG K hK => ?h32x4) ?_
        case h32x4 =>
          go_wp2_with fail
          exact hK _ (Below.refl _ _)
        simp only [List.set_cons_zero, List.set_cons_succ]
        refine wpG_pure (i := 5) (v := ?v32x5) rfl rfl (by rfl) (fun w hB hG K hK => ?h32x5) ?_
        case h32x5 =>
          have hcy := (hG.cell 0 rfl q).trans hwy
          have cx := Own.cell hG 0 rfl
          go_wp2_with fail
          exact hK _ (Below.refl _ _)
        simp only [List.set_cons_zero, List.set_cons_succ]
        refine wpG_pure (i := 6) (v := ?v32x6) rfl rfl (by rfl) (fun w hB hG K hK => ?h32x6) ?_
        case h32x6 =>
          go_wp2_with fail
          exact hK _ (Below.refl _ _)
        simp only [List.set_cons_zero, List.set_cons_succ]
        refine wpG_nil (fun w32 hb32 hG32 => ?_)
        simp only [List.append_eq, List.cons_append, List.nil_append, List.drop_succ_cons, List.drop_zero, List.drop_nil]
        have O32 := Own.of hG32
        try simp only [List.setIfInBounds_toArray, List.set_cons_zero, List.set_cons_succ] at O32
        have bw32 : Below wr.heap.size wr w32 := Below.trans (by go_grown) (Below.mono hb32 (by first | omega | (simp; done) | (simp; omega)))
        have zw32 := Below.size hb32
        try simp only [World.size_alloc, World.size_drew, World.size_setCell] at zw32
        clear c31x0 f31x0 l31x0 l31x0d0 l31x0d1 c31x1 f31x1 l31x1 l31x1d0 l31x1d1
        have c32x0 := Own.cell O32 0 rfl
        have f32x0 := Own.free O32 0 rfl
        have l32x0 := Own.lt O32 0 rfl
        have l32x0d0 := le_up 0 l32x0
        have l32x0d1 := le_up 1 l32x0
        simp only [upN] at l32x0d0 l32x0d1
        have c32x1 := Own.cell O32 1 rfl
        have f32x1 := Own.free O32 1 rfl
        have l32x1 := Own.lt O32 1 rfl
        have l32x1d0 := le_up 0 l32x1
        have l32x1d1 := le_up 1 l32x1
        simp only [upN] at l32x1d0 l32x1d1
        have HO32 := Lib.hid O32
        clear O32 hb32
        go_wp2_with fail
        refine ⟨⟨k + 1, by omega, ?_, fun j h1 h2 => ?_, HO32.out, HB.out.trans (bw32.mono HB.out.size)⟩, by simp only [intOf]; omega⟩
        · exact congrArg (Value.int .i64) (by omega)
        · by_cases hj : j = q
          · subst hj; rw [hlx, hly]; exact HE.out
          · exact HS.out j (by omega) h2
    · obtain rfl : k = 4 := by omega
      have hE := ordW_eq (x := x) (y := y) (fun j h => hs j (by omega) h)
      clear hs hO hb
      go_wp2_with fail
      go_ret
      rw [hE]
      exact ⟨rfl, HB.out⟩
end

section
attribute [local go_sem] Oper.semAt_some
abbrev u64L (xs : List Int) : List Value := xs.map (Value.int .u64)
abbrev bwEnc (n : Nat) : Nat → Int → Array Value := fun k x => #[.int .i64 ((n : Int) - 1 - (k : Int)), .int .u64 x]
def BwRel (J : Nat → World → Prop) (n : Nat) (S : Nat → Prop) (w0 : World) (i : Value) (wr : World) : Prop := ∃ k : Nat, k ≤ n ∧ i = .int .i64 ((n : Int) - 1 - (k : Int)) ∧ J k wr ∧ Keep S w0 wr
theorem rev_at {α : Type} {xs : List α} {n k m : Nat} (hl : xs.length = n) (h : m + k + 1 = n) : xs.reverse[k]? = xs[m]? := by
  rw [List.getElem?_reverse (by omega), hl, show n - 1 - k = m by omega]
end

section
theorem own1' {w : World} {b : Nat} {c : Array Value} {t : TypeId} (h : Blk w b c t) : Own [(b, c, t)] w := Own.cons h (Own.nil w)
attribute [local go_sem] Oper.semAt_some
/-- The last place at which two lists are unlike. -/
def LastP (xs ys : List Int) (r : Int) : Prop := (r = -1 ∧ xs = ys) ∨ ∃ i : Nat, r = i ∧ i < xs.length ∧ xs[i]? ≠ ys[i]? ∧ ∀ j, i < j → xs[j]? = ys[j]?
def sameTo (xs ys : List Int) (n k : Nat) : Prop := ∀ j, j < n → n ≤ j + k → xs[j]? = ys[j]?
end

section
def lastW (x y : BitVec 256) : Int := if L x 3 ≠ L y 3 then 3 else if L x 2 ≠ L y 2 then 2 else if L x 1 ≠ L y 1 then 1 else if L x 0 ≠ L y 0 then 0 else -1
abbrev wi (x : BitVec 256) : List Int := [L x 0, L x 1, L x 2, L x 3]
theorem lastW_of {x y : BitVec 256} {r : Int} (h : LastP (wi x) (wi y) r) : r = lastW x y := by
  unfold lastW
  rcases h with ⟨rfl, h⟩ | ⟨i, rfl, hi, h1, h2⟩
  · simp only [List.cons.injEq, and_true] at h
    obtain ⟨h0, h1, h2, h3⟩ := h
    rw [if_neg (by simp [h3]), if_neg (by simp [h2]), if_neg (by simp [h1]), if_neg (by simp [h0])]
  · simp only [List.length_cons, List.length_nil] at hi
    rcases (by omega : i = 0 ∨ i = 1 ∨ i = 2 ∨ i = 3) with rfl | rfl | rfl | rfl
    · have e1 := h2 1 (by omega); have e2 := h2 2 (by omega); have e3 := h2 3 (by omega)
      simp at e1 e2 e3 h1
      simp [e1, e2, e3, h1]
    · have e2 := h2 2 (by omega); have e3 := h2 3 (by omega)
      simp at e2 e3 h1
      simp [e2, e3, h1]
    · have e3 := h2 3 (by omega)
      simp at e3 h1
      simp [e3, h1]
    · simp at h1
      simp [h1]
theorem lastW_cases (x y : BitVec 256) : (lastW x y = -1 ∧ ordW x y = 0) ∨ ∃ q : Nat, q < 4 ∧ lastW x y = q ∧ (L x q < L y q ∧ ordW x y = -1 ∨ L y q < L x q ∧ ordW x y = 1) := by
  unfold lastW
  by_cases h3 : L x 3 = L y 3
  · by_cases h2 : L x 2 = L y 2
    · by_cases h1 : L x 1 = L y 1
      · by_cases h0 : L x 0 = L y 0
        · refine .inl ⟨by simp [h0, h1, h2, h3], ordW_eq fun j hj => ?_⟩
          rcases (by omega : j = 0 ∨ j = 1 ∨ j = 2 ∨ j = 3) with rfl | rfl | rfl | rfl <;> assumption
        · have hs : ∀ j, 0 < j → j < 4 → L x j = L y j := fun j hj hj4 => by rcases (by omega : j = 1 ∨ j = 2 ∨ j = 3) with rfl | rfl | rfl <;> assumption
          refine .inr ⟨0, by omega, by simp [h0, h1, h2, h3], ?_⟩
          rcases Int.lt_or_gt_of_ne h0 with h | h
          · exact .inl ⟨h, ordW_lt (by omega) hs h⟩
          · exact .inr ⟨h, ordW_gt (by omega) hs h⟩
      · have hs : ∀ j, 1 < j → j < 4 → L x j = L y j := fun j hj hj4 => by rcases (by omega : j = 2 ∨ j = 3) with rfl | rfl <;> assumption
        refine .inr ⟨1, by omega, by simp [h1, h2, h3], ?_⟩
        rcases Int.lt_or_gt_of_ne h1 with h | h
        · exact .inl ⟨h, ordW_lt (by omega) hs h⟩
        · exact .inr ⟨h, ordW_gt (by omega) hs h⟩
    · have hs : ∀ j, 2 < j → j < 4 → L x j = L y j := fun j hj hj4 => by rcases (by omega : j = 3) with rfl; assumption
      refine .inr ⟨2, by omega, by simp [h2, h3], ?_⟩
      rcases Int.lt_or_gt_of_ne h2 with h | h
      · exact .inl ⟨h, ordW_lt (by omega) hs h⟩
      · exact .inr ⟨h, ordW_gt (by omega) hs h⟩
  · have hs : ∀ j, 3 < j → j < 4 → L x j = L y j := fun j hj hj4 => by omega
    refine .inr ⟨3, by omega, by simp [h3], ?_⟩
    rcases Int.lt_or_gt_of_ne h3 with h | h
    · exact .inl ⟨h, ordW_lt (by omega) hs h⟩
    · exact .inr ⟨h, ordW_gt (by omega) hs h⟩
end

section
/-- What the sum's place holds behind k rounds. -/
def subRow (x y : BitVec 256) : Nat → Array Value
  | 0 => #[.int .u64 0, .int .u64 0, .int .u64 0, .int .u64 0]
  | 1 => #[.int .u64 (sLo (L x 0) (L y 0) 0), .int .u64 0, .int .u64 0, .int .u64 0]
  | 2 => #[.int .u64 (sLo (L x 0) (L y 0) 0), .int .u64 (sLo (L x 1) (L y 1) (d1 x y)), .int .u64 0, .int .u64 0]
  | 3 => #[.int .u64 (sLo (L x 0) (L y 0) 0), .int .u64 (sLo (L x 1) (L y 1) (d1 x y)), .int .u64 (sLo (L x 2) (L y 2) (d2 x y)), .int .u64 0]
  | _ => #[.int .u64 (sLo (L x 0) (L y 0) 0), .int .u64 (sLo (L x 1) (L y 1) (d1 x y)), .int .u64 (sLo (L x 2) (L y 2) (d2 x y)), .int .u64 (sLo (L x 3) (L y 3) (d3 x y))]
def subC (x y : BitVec 256) : Nat → Int
  | 0 => 0
  | 1 => d1 x y
  | 2 => d2 x y
  | 3 => d3 x y
  | _ => sHi (L x 3) (L y 3) (d3 x y)
end

section
theorem bit_of (x : BitVec 256) (i : Nat) (hi : i < 256) : (L x (i / 64) / 2 ^ (i % 64) % 2 == 1) = x.getLsbD i := by
  rw [L_eq]
  have e : (((x.toNat / 2 ^ (64 * (i / 64)) % 2 ^ 64 : Nat) : Int) / 2 ^ (i % 64) % 2 == 1) = ((x.toNat / 2 ^ (64 * (i / 64)) % 2 ^ 64) / 2 ^ (i % 64) % 2 == 1) := by
    rw [Bool.eq_iff_iff, beq_iff_eq, beq_iff_eq]
    have : ((x.toNat / 2 ^ (64 * (i / 64)) % 2 ^ 64 : Nat) : Int) / 2 ^ (i % 64) = ((x.toNat / 2 ^ (64 * (i / 64)) % 2 ^ 64 / 2 ^ (i % 64) : Nat) : Int) := by simp
    rw [this]
    omega
  rw [e]
  have h1 : (x.toNat / 2 ^ (64 * (i / 64)) % 2 ^ 64).testBit (i % 64) = x.getLsbD i := by
    rw [Nat.testBit_mod_two_pow, Nat.testBit_div_two_pow, decide_eq_true (show i % 64 < 64 by omega), Bool.true_and, BitVec.getLsbD]
    congr 1
    omega
  rw [← h1, Nat.testBit_eq_decide_div_mod_eq]
  rw [Bool.eq_iff_iff]
  simp
set_option maxRecDepth 20000 in
set_option maxHeartbeats 2000000 in
theorem refBitW (x : BitVec 256) (i : Nat) (hi : i < 256) (w : World)  : Calls Tryd.prog 33 #[W x, .int .i64 i] w fun e w' => e = .returned (.bool (x.getLsbD i)) ∧ Below w.heap.size w w' := by
  have hb := bit_of x i hi
  have hwx := wc_at x (show i / 64 < 4 by omega)
  have hc := fun V : World => (Own.new (Own.nil V) (c := wc x) (t := 24) V.heap.size rfl).cell 0 rfl (i / 64)
  have hc2 := (hc w).trans hwx
  have hlo := L_lo x (i / 64)
  have hpn : 0 ≤ L x (i / 64) / 2 ^ (i % 64) := Int.ediv_nonneg hlo (by exact Int.le_of_lt (Int.pow_pos (by decide)))
  have htm := Int.tmod_eq_emod_of_nonneg (b := 2) hpn
  have HTM := Lib.hid htm
  generalize L x (i / 64) = lx at *
  clear hc hwx hpn htm
  go_enter Tryd.func33, Tryd.ntmps33
  go_wp2_with fail
  go_ret
  exact ⟨by rw [HTM.out, hb]; rfl, by go_grown⟩
theorem neg_of (x : BitVec 256) : (L x 3 / 9223372036854775808 == 1) = x.getLsbD 255 := by
  have h := bit_of x 255 (by decide)
  rw [← h, show 255 / 64 = 3 from rfl, show 255 % 64 = 63 from rfl, Bool.eq_iff_iff, beq_iff_eq, beq_iff_eq]
  have h1 := L_lo x 3
  have h2 := L_hi x 3
  simp only [Int.reducePow]
  omega
theorem not_of {a : Int} (h0 : 0 ≤ a) (h1 : a < 18446744073709551616) : bits .xor .u64 IntKind.u64.max a = 18446744073709551615 - a := by
  obtain ⟨n, rfl⟩ := Int.eq_ofNat_of_zero_le h0
  show IntKind.u64.wrap ((BitVec.ofInt 64 IntKind.u64.max ^^^ BitVec.ofInt 64 ((n : Nat) : Int)).toNat : Int) = _
  rw [show BitVec.ofInt 64 IntKind.u64.max = BitVec.allOnes 64 by decide, BitVec.ofInt_natCast, BitVec.allOnes_xor, IntWalk.u64_in _ (by have := (~~~BitVec.ofNat 64 n).isLt; omega), BitVec.toNat_not, BitVec.toNat_ofNat]
  simp only [Nat.reducePow]
  omega
theorem L_not (x : BitVec 256) (i : Nat) (hi : i < 4) : 18446744073709551615 - L x i = L (~~~x) i := by
  have h := x.isLt
  have e : (~~~x).toNat = 2 ^ 256 - 1 - x.toNat := BitVec.toNat_not
  rcases (by omega : i = 0 ∨ i = 1 ∨ i = 2 ∨ i = 3) with rfl | rfl | rfl | rfl
  · rw [L0, L0, e]; simp only [Nat.reducePow] at *; omega
  · rw [L1, L1, e]; simp only [Nat.reducePow] at *; omega
  · rw [L2, L2, e]; simp only [Nat.reducePow] at *; omega
  · rw [L3, L3, e]; simp only [Nat.reducePow] at *; omega
theorem sub_not (x y : BitVec 256) : x + ~~~y + 1#256 = x - y := by
  rw [BitVec.sub_eq_add_neg, BitVec.neg_eq_not_add, BitVec.add_assoc]
theorem L_one : L 1#256 0 = 1 ∧ L 1#256 1 = 0 ∧ L 1#256 2 = 0 ∧ L 1#256 3 = 0 := by
  rw [L0, L1, L2, L3]; decide
theorem L_small {n : Nat} (h : n < 18446744073709551616) : L (BitVec.ofNat 256 n) 0 = n ∧ L (BitVec.ofNat 256 n) 1 = 0 ∧ L (BitVec.ofNat 256 n) 2 = 0 ∧ L (BitVec.ofNat 256 n) 3 = 0 := small_parts n h
theorem one_bit (j : Nat) : (1 : Nat).testBit j = decide (0 = j) := by rw [show (1 : Nat) = 2 ^ 0 from rfl, Nat.testBit_two_pow]
theorem lq_or (x : BitVec 256) (b : Bool) (q : Nat) : lq (x ||| (if b then 1#256 else 0#256)) q = lq x q ||| (if q = 0 then b.toNat else 0) := by
  cases b
  · simp
  · unfold lq
    rw [if_pos rfl, BitVec.toNat_or]
    apply Nat.eq_of_testBit_eq
    intro j
    simp only [Nat.testBit_mod_two_pow, Nat.testBit_div_two_pow, Nat.testBit_or]
    by_cases hj : j < 64
    · rw [decide_eq_true hj]
      simp only [Bool.true_and]
      congr 1
      rw [show (1#256 : BitVec 256).toNat = 1 from rfl]
      by_cases hq : q = 0
      · subst hq; simp
      · rw [if_neg hq, Nat.zero_testBit, one_bit]
        simp; omega
    · rw [decide_eq_false hj]
      simp only [Bool.false_and, Bool.false_or]
      split
      · rw [show (true).toNat = 1 from rfl, one_bit]; simp; omega
      · simp
theorem L_dbl (x : BitVec 256) (b : Bool) : bits .or .u64 (L (x + x) 0) (b.toNat : Int) = L (dbl x b) 0 ∧ L (x + x) 1 = L (dbl x b) 1 ∧ L (x + x) 2 = L (dbl x b) 2 ∧ L (x + x) 3 = L (dbl x b) 3 := by
  unfold dbl
  simp only [L_lq, lq_or]
  refine ⟨?_, by simp, by simp, by simp⟩
  rw [if_pos trivial]
  exact bits_or_nat (lq_lt _ _) (by have := Bool.toNat_lt b; omega)
set_option maxRecDepth 20000 in
set_option maxHeartbeats 2000000 in
theorem refNegW (x : BitVec 256) (w : World)  : Calls Tryd.prog 13 #[W x] w fun e w' => e = .returned (.bool (x.getLsbD 255)) ∧ Below w.heap.size w w' := by
  have HB := Lib.hid (fun V => show Calls Tryd.prog 33 #[W x, .int .i64 255] V fun e w' => e = .returned (.bool (x.getLsbD 255)) ∧ Below V.heap.size V w' from refBitW x 255 (by decide) V)
  go_enter Tryd.func13, Tryd.ntmps13
  go_wp2_with fail
  refine (HB.out _).mono ?_
  rintro e w1 ⟨rfl, hb1⟩
  have O1 := Own.grow' hb1 (Own.new (Own.nil w) (w.heap.size) (by first | rfl | simp))
  try simp only [List.setIfInBounds_toArray, List.set_cons_zero, List.set_cons_succ] at O1
  have bw1 : Below w.heap.size w w1 := Below.trans (by go_grown) (Below.mono hb1 (by first | omega | (simp; done) | (simp; omega)))
  have zw1 := Below.size hb1
  try simp only [World.size_alloc, World.size_drew, World.size_setCell] at zw1
  have c1x0 := Own.cell O1 0 rfl
  have f1x0 := Own.free O1 0 rfl
  have l1x0 := Own.lt O1 0 rfl
  have l1x0d0 := le_up 0 l1x0
  have l1x0d1 := le_up 1 l1x0
  simp only [upN] at l1x0d0 l1x0d1
  have HO1 := Lib.hid O1
  clear O1 hb1
  go_wp2_with fail
  go_ret
  exact ⟨rfl, by go_grown⟩
set_option maxRecDepth 20000 in
set_option maxHeartbeats 2000000 in
theorem negW (x : BitVec 256) (w : World)  : Calls Tryd.prog 35 #[W x] w fun e w' => e = .returned (.bool (x.getLsbD 255)) ∧ Below w.heap.size w w' := by
  go_enter Tryd.func35, Tryd.ntmps35
  go_wp2_with fail
  go_ret
  exact ⟨by rw [neg_of]; rfl, by go_grown⟩
set_option maxRecDepth 20000 in
set_option maxHeartbeats 2000000 in
theorem refNotW (x : BitVec 256) (w : World)  : Calls Tryd.prog 27 #[W x] w fun e w' => e = .returned (W (~~~x)) ∧ Below w.heap.size w w' := by
  have hn0 := (not_of (L_lo x 0) (L_hi x 0)).trans (L_not x 0 (by decide))
  have hn1 := (not_of (L_lo x 1) (L_hi x 1)).trans (L_not x 1 (by decide))
  have hn2 := (not_of (L_lo x 2) (L_hi x 2)).trans (L_not x 2 (by decide))
  have hn3 := (not_of (L_lo x 3) (L_hi x 3)).trans (L_not x 3 (by decide))
  have hsg : IntKind.u64.signed = false := rfl
  go_enter Tryd.func27, Tryd.ntmps27
  go_wp2_with fail
  refine bodyPost_ret (v := W (~~~x)) (by simp [results, Tryd.results27, go_sem, *]) rfl ?_
  exact ⟨rfl, by go_grown⟩
set_option maxRecDepth 20000 in
set_option maxHeartbeats 2000000 in
theorem refOneW  (w : World)  : Calls Tryd.prog 28 #[.int .u64 1] w fun e w' => e = .returned (W 1#256) ∧ Below w.heap.size w w' := by
  obtain ⟨o0, o1, o2, o3⟩ := L_one
  go_enter Tryd.func28, Tryd.ntmps28
  go_wp2_with fail
  refine bodyPost_ret (v := W 1#256) (by simp [results, Tryd.results28, go_sem, *]) rfl ?_
  exact ⟨rfl, by go_grown⟩
set_option maxRecDepth 20000 in
set_option maxHeartbeats 2000000 in
theorem refOfW (n : Nat) (hn : n < 18446744073709551616) (w : World)  : Calls Tryd.prog 28 #[.int .u64 n] w fun e w' => e = .returned (W (BitVec.ofNat 256 n)) ∧ Below w.heap.size w w' := by
  obtain ⟨o0, o1, o2, o3⟩ := L_small hn
  go_enter Tryd.func28, Tryd.ntmps28
  go_wp2_with fail
  refine bodyPost_ret (v := W (BitVec.ofNat 256 n)) (by simp [results, Tryd.results28, go_sem, *]) rfl ?_
  exact ⟨rfl, by go_grown⟩
set_option maxRecDepth 20000 in
set_option maxHeartbeats 2000000 in
theorem refSubW (x y : BitVec 256) (w : World)  : Calls Tryd.prog 52 #[W x, W y] w fun e w' => e = .returned (W (x - y)) ∧ Below w.heap.size w w' := by
  have HN := Lib.hid (fun V => refNotW y V)
  have HA := Lib.hid (fun V => refAddW x (~~~y) V)
  have HO := Lib.hid (fun V => refOneW V)
  have hs := fun V => refAddW (x + ~~~y) 1#256 V
  rw [sub_not] at hs
  have HS := Lib.hid hs
  clear hs
  go_enter Tryd.func52, Tryd.ntmps52
  go_wp2_with fail
  refine wp_region_grow w.heap.size 6 0 0 [(0, 0, 32, 4), (1, 0, 64, 8), (2, 2, 128, 64), (3, 5, 256, 160), (4, 8, 512, 0), (5, 24, 1024, 768), (6, 63, 0, 1040)] [(.p 0, 1), (.p 1, 3), (.p 2, 7), (.p 3, 15), (.p 4, 31), (.p 5, 63)] [(6, 127)] _ (fun p hp => hp) (by first | omega | (simp; done) | (simp; omega)) (by kernel_rfl) (by kernel_rfl) (Own.new (Own.new (Own.new (Own.nil w) (w.heap.size) (by first | rfl | simp)) (w.heap.size + 1) (by simp)) (w.heap.size + 1 + 1) (by simp)) ?_
  refine wpG_pure (i := 0) (v := ?v1x0) rfl rfl (by rfl) (fun w hB hG K hK => ?h1x0) ?_
  case h1x0 =>
    have cx := Own.cell hG 2 rfl
    go_wp2_with fail
    exact hK _ (Below.refl _ _)
  simp only [List.set_cons_zero, List.set_cons_succ]
  refine wpG_pure (i := 1) (v := ?v1x1) rfl rfl (by rfl) (fun w hB hG K hK => ?h1x1) ?_
  case h1x1 =>
    have cx := Own.cell hG 1 rfl
    go_wp2_with fail
    exact hK _ (Below.refl _ _)
  simp only [List.set_cons_zero, List.set_cons_succ]
  refine wpG_pure (i := 2) (v := ?v1x2) rfl rfl (by rfl) (fun w hB hG K hK => ?h1x2) ?_
  case h1x2 =>
    go_wp2_with fail
    refine (HN.out _).mono ?_
    rintro e wx ⟨rfl, hbx⟩
    exact hK _ hbx
  simp only [List.set_cons_zero, List.set_cons_succ]
  refine wpG_pure (i := 3) (v := ?v1x3) rfl rfl (by rfl) (fun w hB hG K hK => ?h1x3) ?_
  case h1x3 =>
    go_wp2_with fail
    refine (HA.out _).mono ?_
    rintro e wx ⟨rfl, hbx⟩
    exact hK _ hbx
  simp only [List.set_cons_zero, List.set_cons_succ]
  refine wpG_pure (i := 4) (v := ?v1x4) rfl rfl (by rfl) (fun w hB hG K hK => ?h1x4) ?_
  case h1x4 =>
    go_wp2_with fail
    refine (HO.out _).mono ?_
    rintro e wx ⟨rfl, hbx⟩
    exact hK _ hbx
  simp only [List.set_cons_zero, List.set_cons_succ]
  refine wpG_pure (i := 5) (v := ?v1x5) rfl rfl (by rfl) (fun w hB hG K hK => ?h1x5) ?_
  case h1x5 =>
    go_wp2_with fail
    refine (HS.out _).mono ?_
    rintro e wx ⟨rfl, hbx⟩
    exact hK _ hbx
  simp only [List.set_cons_zero, List.set_cons_succ]
  refine wpG_nil (fun w1 hb1 hG1 => ?_)
  simp only [List.append_eq, List.cons_append, List.nil_append, List.drop_succ_cons, List.drop_zero, List.drop_nil]
  have O1 := Own.of hG1
  try simp only [List.setIfInBounds_toArray, List.set_cons_zero, List.set_cons_succ] at O1
  have bw1 : Below w.heap.size w w1 := Below.trans (by go_grown) (Below.mono hb1 (by first | omega | (simp; done) | (simp; omega)))
  have zw1 := Below.size hb1
  try simp only [World.size_alloc, World.size_drew, World.size_setCell] at zw1
  have c1x0 := Own.cell O1 0 rfl
  have f1x0 := Own.free O1 0 rfl
  have l1x0 := Own.lt O1 0 rfl
  have l1x0d0 := le_up 0 l1x0
  have l1x0d1 := le_up 1 l1x0
  simp only [upN] at l1x0d0 l1x0d1
  have c1x1 := Own.cell O1 1 rfl
  have f1x1 := Own.free O1 1 rfl
  have l1x1 := Own.lt O1 1 rfl
  have l1x1d0 := le_up 0 l1x1
  have l1x1d1 := le_up 1 l1x1
  simp only [upN] at l1x1d0 l1x1d1
  have c1x2 := Own.cell O1 2 rfl
  have f1x2 := Own.free O1 2 rfl
  have l1x2 := Own.lt O1 2 rfl
  have l1x2d0 := le_up 0 l1x2
  have l1x2d1 := le_up 1 l1x2
  simp only [upN] at l1x2d0 l1x2d1
  have HO1 := Lib.hid O1
  clear O1 hb1
  go_wp2_with fail
  refine bodyPost_ret (v := W (x - y)) (by simp [results, Tryd.results52, go_sem, *]) rfl ?_
  exact ⟨rfl, by go_grown⟩
end

section
theorem W_zero : W 0#256 = .agg #[.int .u64 0, .int .u64 0, .int .u64 0, .int .u64 0] := by unfold W; rw [L_zero, L_zero, L_zero, L_zero]
theorem dbl_false (x : BitVec 256) : dbl x false = x + x := by unfold dbl; simp
theorem eqZ (b : BitVec 256) (V : World) : (Op.equalIn 10000 24 (.agg #[.int .u64 (L b 0), .int .u64 (L b 1), .int .u64 (L b 2), .int .u64 (L b 3)]) (.agg #[.int .u64 0, .int .u64 0, .int .u64 0, .int .u64 0])).run Tryd.prog V = .ok (decide (b = 0#256)) V := by
  rw [eqWord0]
  congr 1
  rw [decide_eq_decide]
  constructor
  · rintro ⟨h0, h1, h2, h3⟩
    exact L_ext (by rw [h0, L_zero]) (by rw [h1, L_zero]) (by rw [h2, L_zero]) (by rw [h3, L_zero])
  · rintro rfl
    exact ⟨L_zero 0, L_zero 1, L_zero 2, L_zero 3⟩
theorem refSubZ (x : BitVec 256) (w : World) : Calls Tryd.prog 52 #[.agg #[.int .u64 0, .int .u64 0, .int .u64 0, .int .u64 0], W x] w fun e w' => e = .returned (W (0#256 - x)) ∧ Below w.heap.size w w' := by
  rw [← W_zero]; exact refSubW 0#256 x w
def absW (x : BitVec 256) : BitVec 256 := if x.getLsbD 255 then 0#256 - x else x
theorem ordW_ge (x y : BitVec 256) : decide (0 ≤ ordW x y) = decide (y.toNat ≤ x.toNat) := by
  unfold ordW
  rw [decide_eq_decide]
  split
  · constructor <;> intro h <;> omega
  · split <;> constructor <;> intro h <;> omega
theorem ordW_neg (x y : BitVec 256) : decide (ordW x y < 0) = decide (x.toNat < y.toNat) := by
  unfold ordW
  rw [decide_eq_decide]
  split
  · constructor <;> intro h <;> omega
  · split <;> constructor <;> intro h <;> omega
theorem msb255 (x : BitVec 256) : x.msb = x.getLsbD 255 := by rw [BitVec.msb_eq_getLsbD_last]
def LpRel (O : Nat → World → Prop) (N : Nat) (w : World) (i : Value) (wr : World) : Prop := ∃ j : Nat, j ≤ N ∧ i = .int .i64 ((j : Int) - 1) ∧ O j wr ∧ Below w.heap.size w wr
set_option maxRecDepth 20000 in
set_option maxHeartbeats 2000000 in
theorem twice_true (x : BitVec 256) (w : World)  : Calls Tryd.prog 50 #[W x, .bool true] w fun e w' => e = .returned (.tuple #[W (dbl x true), .bool (x.getLsbD 255)]) ∧ Below w.heap.size w w' := by
  have HB := Lib.hid (fun V => show Calls Tryd.prog 33 #[W x, .int .i64 255] V fun e w' => e = .returned (.bool (x.getLsbD 255)) ∧ Below V.heap.size V w' from refBitW x 255 (by decide) V)
  have HA := Lib.hid (fun V => refAddW x x V)
  have hor : bits .or .u64 (L (x + x) 0) 1 = L (dbl x true) 0 := (L_dbl x true).1
  obtain ⟨_, h1, h2, h3⟩ := L_dbl x true
  go_enter Tryd.func50, Tryd.ntmps50
  go_wp2_with fail
  refine (HB.out _).mono ?_
  rintro e w1 ⟨rfl, hb1⟩
  have O1 := Own.grow' hb1 (Own.new (Own.new (Own.nil w) (w.heap.size) (by first | rfl | simp)) (w.heap.size + 1) (by simp))
  try simp only [List.setIfInBounds_toArray, List.set_cons_zero, List.set_cons_succ] at O1
  have bw1 : Below w.heap.size w w1 := Below.trans (by go_grown) (Below.mono hb1 (by first | omega | (simp; done) | (simp; omega)))
  have zw1 := Below.size hb1
  try simp only [World.size_alloc, World.size_drew, World.size_setCell] at zw1
  have c1x0 := Own.cell O1 0 rfl
  have f1x0 := Own.free O1 0 rfl
  have l1x0 := Own.lt O1 0 rfl
  have l1x0d0 := le_up 0 l1x0
  have l1x0d1 := le_up 1 l1x0
  simp only [upN] at l1x0d0 l1x0d1
  have c1x1 := Own.cell O1 1 rfl
  have f1x1 := Own.free O1 1 rfl
  have l1x1 := Own.lt O1 1 rfl
  have l1x1d0 := le_up 0 l1x1
  have l1x1d1 := le_up 1 l1x1
  simp only [upN] at l1x1d0 l1x1d1
  have HO1 := Lib.hid O1
  clear O1 hb1
  go_wp2_with fail
  refine (HA.out _).mono ?_
  rintro e w2 ⟨rfl, hb2⟩
  have O2 := Own.grow' hb2 HO1.out
  try simp only [List.setIfInBounds_toArray, List.set_cons_zero, List.set_cons_succ] at O2
  have bw2 : Below w.heap.size w w2 := Below.trans (by go_grown) (Below.mono hb2 (by first | omega | (simp; done) | (simp; omega)))
  have zw2 := Below.size hb2
  try simp only [World.size_alloc, World.size_drew, World.size_setCell] at zw2
  clear c1x0 f1x0 l1x0 l1x0d0 l1x0d1 c1x1 f1x1 l1x1 l1x1d0 l1x1d1
  have c2x0 := Own.cell O2 0 rfl
  have f2x0 := Own.free O2 0 rfl
  have l2x0 := Own.lt O2 0 rfl
  have l2x0d0 := le_up 0 l2x0
  have l2x0d1 := le_up 1 l2x0
  simp only [upN] at l2x0d0 l2x0d1
  have c2x1 := Own.cell O2 1 rfl
  have f2x1 := Own.free O2 1 rfl
  have l2x1 := Own.lt O2 1 rfl
  have l2x1d0 := le_up 0 l2x1
  have l2x1d1 := le_up 1 l2x1
  simp only [upN] at l2x1d0 l2x1d1
  have HO2 := Lib.hid O2
  clear O2 hb2
  go_upto_region 3 with (fail)
  refine wp_name fun wn3 hwn3 => ?_
  have hOwn3 := (show Own _ wn3 by rw [hwn3]; exact (Own.set (Own.set (Own.set (Own.set HO2.out 1 rfl (Ne1.cons (by first | omega | (simp; omega)) Ne1.nil)) 1 rfl (Ne1.cons (by first | omega | (simp; omega)) Ne1.nil)) 1 rfl (Ne1.cons (by first | omega | (simp; omega)) Ne1.nil)) 1 rfl (Ne1.cons (by first | omega | (simp; omega)) Ne1.nil)))
  try simp only [List.setIfInBounds_toArray, List.set_cons_zero, List.set_cons_succ] at hOwn3
  have hBwn3 : Below w.heap.size w wn3 := by rw [hwn3]; go_grown
  clear hwn3
  have bw3 := hBwn3
  clear c2x0 f2x0 l2x0 l2x0d0 l2x0d1 c2x1 f2x1 l2x1 l2x1d0 l2x1d1
  have O3 := hOwn3
  have c3x0 := Own.cell O3 0 rfl
  have f3x0 := Own.free O3 0 rfl
  have l3x0 := Own.lt O3 0 rfl
  have l3x0d0 := le_up 0 l3x0
  have l3x0d1 := le_up 1 l3x0
  simp only [upN] at l3x0d0 l3x0d1
  have c3x1 := Own.cell O3 1 rfl
  have f3x1 := Own.free O3 1 rfl
  have l3x1 := Own.lt O3 1 rfl
  have l3x1d0 := le_up 0 l3x1
  have l3x1d1 := le_up 1 l3x1
  simp only [upN] at l3x1d0 l3x1d1
  have HO3 := Lib.hid O3
  clear O3
  go_upto_region 5 with (fail)
  refine wp_name fun wn5 hwn5 => ?_
  have hOwn5 := (show Own _ wn5 by rw [hwn5]; exact (Own.set HO3.out 1 rfl (Ne1.cons (by first | omega | (simp; omega)) Ne1.nil)))
  try simp only [List.setIfInBounds_toArray, List.set_cons_zero, List.set_cons_succ] at hOwn5
  have hBwn5 : Below w.heap.size w wn5 := by rw [hwn5]; go_grown
  clear hwn5
  have bw4 := hBwn5
  clear c3x0 f3x0 l3x0 l3x0d0 l3x0d1 c3x1 f3x1 l3x1 l3x1d0 l3x1d1
  have O4 := hOwn5
  have c4x0 := Own.cell O4 0 rfl
  have f4x0 := Own.free O4 0 rfl
  have l4x0 := Own.lt O4 0 rfl
  have l4x0d0 := le_up 0 l4x0
  have l4x0d1 := le_up 1 l4x0
  simp only [upN] at l4x0d0 l4x0d1
  have c4x1 := Own.cell O4 1 rfl
  have f4x1 := Own.free O4 1 rfl
  have l4x1 := Own.lt O4 1 rfl
  have l4x1d0 := le_up 0 l4x1
  have l4x1d1 := le_up 1 l4x1
  simp only [upN] at l4x1d0 l4x1d1
  have HO4 := Lib.hid O4
  clear O4
  go_wp2_with fail
  refine bodyPost_ret (v := .tuple #[W (dbl x true), .bool (x.getLsbD 255)]) (by simp [results, Tryd.results50, go_sem, *]) rfl ?_
  exact ⟨rfl, by go_grown⟩
set_option maxRecDepth 20000 in
set_option maxHeartbeats 2000000 in
theorem twice_false (x : BitVec 256) (w : World)  : Calls Tryd.prog 50 #[W x, .bool false] w fun e w' => e = .returned (.tuple #[W (dbl x false), .bool (x.getLsbD 255)]) ∧ Below w.heap.size w w' := by
  have HB := Lib.hid (fun V => show Calls Tryd.prog 33 #[W x, .int .i64 255] V fun e w' => e = .returned (.bool (x.getLsbD 255)) ∧ Below V.heap.size V w' from refBitW x 255 (by decide) V)
  have HA := Lib.hid (fun V => refAddW x x V)
  rw [dbl_false]
  go_enter Tryd.func50, Tryd.ntmps50
  go_wp2_with fail
  refine (HB.out _).mono ?_
  rintro e w1 ⟨rfl, hb1⟩
  have O1 := Own.grow' hb1 (Own.new (Own.new (Own.nil w) (w.heap.size) (by first | rfl | simp)) (w.heap.size + 1) (by simp))
  try simp only [List.setIfInBounds_toArray, List.set_cons_zero, List.set_cons_succ] at O1
  have bw1 : Below w.heap.size w w1 := Below.trans (by go_grown) (Below.mono hb1 (by first | omega | (simp; done) | (simp; omega)))
  have zw1 := Below.size hb1
  try simp only [World.size_alloc, World.size_drew, World.size_setCell] at zw1
  have c1x0 := Own.cell O1 0 rfl
  have f1x0 := Own.free O1 0 rfl
  have l1x0 := Own.lt O1 0 rfl
  have l1x0d0 := le_up 0 l1x0
  have l1x0d1 := le_up 1 l1x0
  simp only [upN] at l1x0d0 l1x0d1
  have c1x1 := Own.cell O1 1 rfl
  have f1x1 := Own.free O1 1 rfl
  have l1x1 := Own.lt O1 1 rfl
  have l1x1d0 := le_up 0 l1x1
  have l1x1d1 := le_up 1 l1x1
  simp only [upN] at l1x1d0 l1x1d1
  have HO1 := Lib.hid O1
  clear O1 hb1
  go_wp2_with fail
  refine (HA.out _).mono ?_
  rintro e w2 ⟨rfl, hb2⟩
  have O2 := Own.grow' hb2 HO1.out
  try simp only [List.setIfInBounds_toArray, List.set_cons_zero, List.set_cons_succ] at O2
  have bw2 : Below w.heap.size w w2 := Below.trans (by go_grown) (Below.mono hb2 (by first | omega | (simp; done) | (simp; omega)))
  have zw2 := Below.size hb2
  try simp only [World.size_alloc, World.size_drew, World.size_setCell] at zw2
  clear c1x0 f1x0 l1x0 l1x0d0 l1x0d1 c1x1 f1x1 l1x1 l1x1d0 l1x1d1
  have c2x0 := Own.cell O2 0 rfl
  have f2x0 := Own.free O2 0 rfl
  have l2x0 := Own.lt O2 0 rfl
  have l2x0d0 := le_up 0 l2x0
  have l2x0d1 := le_up 1 l2x0
  simp only [upN] at l2x0d0 l2x0d1
  have c2x1 := Own.cell O2 1 rfl
  have f2x1 := Own.free O2 1 rfl
  have l2x1 := Own.lt O2 1 rfl
  have l2x1d0 := le_up 0 l2x1
  have l2x1d1 := le_up 1 l2x1
  simp only [upN] at l2x1d0 l2x1d1
  have HO2 := Lib.hid O2
  clear O2 hb2
  go_upto_region 3 with (fail)
  refine wp_name fun wn3 hwn3 => ?_
  have hOwn3 := (show Own _ wn3 by rw [hwn3]; exact (Own.set (Own.set (Own.set (Own.set HO2.out 1 rfl (Ne1.cons (by first | omega | (simp; omega)) Ne1.nil)) 1 rfl (Ne1.cons (by first | omega | (simp; omega)) Ne1.nil)) 1 rfl (Ne1.cons (by first | omega | (simp; omega)) Ne1.nil)) 1 rfl (Ne1.cons (by first | omega | (simp; omega)) Ne1.nil)))
  try simp only [List.setIfInBounds_toArray, List.set_cons_zero, List.set_cons_succ] at hOwn3
  have hBwn3 : Below w.heap.size w wn3 := by rw [hwn3]; go_grown
  clear hwn3
  have bw3 := hBwn3
  clear c2x0 f2x0 l2x0 l2x0d0 l2x0d1 c2x1 f2x1 l2x1 l2x1d0 l2x1d1
  have O3 := hOwn3
  have c3x0 := Own.cell O3 0 rfl
  have f3x0 := Own.free O3 0 rfl
  have l3x0 := Own.lt O3 0 rfl
  have l3x0d0 := le_up 0 l3x0
  have l3x0d1 := le_up 1 l3x0
  simp only [upN] at l3x0d0 l3x0d1
  have c3x1 := Own.cell O3 1 rfl
  have f3x1 := Own.free O3 1 rfl
  have l3x1 := Own.lt O3 1 rfl
  have l3x1d0 := le_up 0 l3x1
  have l3x1d1 := le_up 1 l3x1
  simp only [upN] at l3x1d0 l3x1d1
  have HO3 := Lib.hid O3
  clear O3
  go_wp2_with fail
  refine bodyPost_ret (v := .tuple #[W (x + x), .bool (x.getLsbD 255)]) (by simp [results, Tryd.results50, go_sem, *]) rfl ?_
  exact ⟨rfl, by go_grown⟩
theorem twiceW (x : BitVec 256) (b : Bool) (w : World) : Calls Tryd.prog 50 #[W x, .bool b] w fun e w' => e = .returned (.tuple #[W (dbl x b), .bool (x.getLsbD 255)]) ∧ Below w.heap.size w w' := by
  cases b
  · exact twice_false x w
  · exact twice_true x w
set_option maxRecDepth 20000 in
set_option maxHeartbeats 2000000 in
theorem divide_z (a : BitVec 256) (w : World)  : Calls Tryd.prog 29 #[W a, W 0#256] w fun e w' => e = .returned (.tuple #[W 0#256, W 0#256]) ∧ Below w.heap.size w w' := by
  have hq := eqZ 0#256
  rw [decide_eq_true rfl] at hq
  rw [W_zero]
  have z0 := L_zero 0
  have z1 := L_zero 1
  have z2 := L_zero 2
  have z3 := L_zero 3
  rw [z0, z1, z2, z3] at hq
  go_enter Tryd.func29, Tryd.ntmps29
  go_wp2_with fail
  refine wp_region_grow w.heap.size 4 12 0 [(0, 0, 16384, 64), (1, 0, 32768, 128), (2, 1, 0, 16400), (3, 7, 0, 32800)] [(.p 0, 1), (.p 1, 3), (.c 2, 7), (.c 3, 15)] [] (keepL [true, true, false, false, true, true] _) (fun p hp => mem_of_keep hp) (by first | omega | (simp; done) | (simp; omega)) (by kernel_rfl) (by kernel_rfl) (Own.new (Own.new (Own.new (Own.new (Own.new (Own.new (Own.nil w) (w.heap.size) (by first | rfl | simp)) (w.heap.size + 1) (by simp)) (w.heap.size + 1 + 1) (by simp)) (w.heap.size + 1 + 1 + 1) (by simp)) (w.heap.size + 1 + 1 + 1 + 1) (by simp)) (w.heap.size + 1 + 1 + 1 + 1 + 1) (by simp)) ?_
  refine wpG_pure (i := 0) (v := ?v1x0) rfl rfl (by rfl) (fun w hB hG K hK => ?h1x0) ?_
  case h1x0 =>
    have cx := Own.cell hG 1 rfl
    go_wp2_with fail
    exact hK _ (Below.refl _ _)
  simp only [List.set_cons_zero, List.set_cons_succ]
  refine wpG_pure (i := 1) (v := ?v1x1) rfl rfl (by rfl) (fun w hB hG K hK => ?h1x1) ?_
  case h1x1 =>
    have cx := Own.cell hG 0 rfl
    go_wp2_with fail
    exact hK _ (Below.refl _ _)
  simp only [List.set_cons_zero, List.set_cons_succ]
  refine wpG_store (i := 2) (c' := ?c1x2) 3 rfl (Ne1.cons (by first | omega | (simp; omega)) (Ne1.cons (by first | omega | (simp; omega)) (Ne1.cons (by first | omega | (simp; omega)) (Ne1.cons (by first | omega | (simp; omega)) (Ne1.cons (by first | omega | (simp; omega)) Ne1.nil))))) (by first | omega | (simp; omega)) (fun p hp => mem_of_keep (ms := [true, true, false, false, true, true]) hp) rfl rfl (by rfl) (fun w hB hF hG K hK => ?h1x2) ?_
  case h1x2 =>
    have cx := hF.cell
    have fx := hF.free
    go_wp2_with fail
    refine hK _ (Same.set (Same.set (Same.set (Same.set (Same.refl _ _) _ _) _ _) _ _) _ _) ?_
    exact (Blk.set (Blk.set (Blk.set (Blk.set hF _ _) _ _) _ _) _ _)
  simp only [List.set_cons_zero, List.set_cons_succ, List.setIfInBounds_toArray]
  refine wpG_store (i := 3) (c' := ?c1x3) 2 rfl (Ne1.cons (by first | omega | (simp; omega)) (Ne1.cons (by first | omega | (simp; omega)) (Ne1.cons (by first | omega | (simp; omega)) (Ne1.cons (by first | omega | (simp; omega)) (Ne1.cons (by first | omega | (simp; omega)) Ne1.nil))))) (by first | omega | (simp; omega)) (fun p hp => mem_of_keep (ms := [true, true, false, false, true, true]) hp) rfl rfl (by rfl) (fun w hB hF hG K hK => ?h1x3) ?_
  case h1x3 =>
    have cx := hF.cell
    have fx := hF.free
    go_wp2_with fail
    refine hK _ (Same.set (Same.set (Same.set (Same.set (Same.refl _ _) _ _) _ _) _ _) _ _) ?_
    exact (Blk.set (Blk.set (Blk.set (Blk.set hF _ _) _ _) _ _) _ _)
  simp only [List.set_cons_zero, List.set_cons_succ, List.setIfInBounds_toArray]
  refine wpG_nil (fun w1 hb1 hG1 => ?_)
  simp only [List.append_eq, List.cons_append, List.nil_append, List.drop_succ_cons, List.drop_zero, List.drop_nil]
  have O1 := Own.of hG1
  try simp only [List.setIfInBounds_toArray, List.set_cons_zero, List.set_cons_succ] at O1
  have bw1 : Below w.heap.size w w1 := Below.trans (by go_grown) (Below.mono hb1 (by first | omega | (simp; done) | (simp; omega)))
  have zw1 := Below.size hb1
  try simp only [World.size_alloc, World.size_drew, World.size_setCell] at zw1
  have c1x0 := Own.cell O1 0 rfl
  have f1x0 := Own.free O1 0 rfl
  have l1x0 := Own.lt O1 0 rfl
  have l1x0d0 := le_up 0 l1x0
  have l1x0d1 := le_up 1 l1x0
  simp only [upN] at l1x0d0 l1x0d1
  have c1x1 := Own.cell O1 1 rfl
  have f1x1 := Own.free O1 1 rfl
  have l1x1 := Own.lt O1 1 rfl
  have l1x1d0 := le_up 0 l1x1
  have l1x1d1 := le_up 1 l1x1
  simp only [upN] at l1x1d0 l1x1d1
  have c1x2 := Own.cell O1 2 rfl
  have f1x2 := Own.free O1 2 rfl
  have l1x2 := Own.lt O1 2 rfl
  have l1x2d0 := le_up 0 l1x2
  have l1x2d1 := le_up 1 l1x2
  simp only [upN] at l1x2d0 l1x2d1
  have c1x3 := Own.cell O1 3 rfl
  have f1x3 := Own.free O1 3 rfl
  have l1x3 := Own.lt O1 3 rfl
  have l1x3d0 := le_up 0 l1x3
  have l1x3d1 := le_up 1 l1x3
  simp only [upN] at l1x3d0 l1x3d1
  have c1x4 := Own.cell O1 4 rfl
  have f1x4 := Own.free O1 4 rfl
  have l1x4 := Own.lt O1 4 rfl
  have l1x4d0 := le_up 0 l1x4
  have l1x4d1 := le_up 1 l1x4
  simp only [upN] at l1x4d0 l1x4d1
  have c1x5 := Own.cell O1 5 rfl
  have f1x5 := Own.free O1 5 rfl
  have l1x5 := Own.lt O1 5 rfl
  have l1x5d0 := le_up 0 l1x5
  have l1x5d1 := le_up 1 l1x5
  simp only [upN] at l1x5d0 l1x5d1
  have HO1 := Lib.hid O1
  clear O1 hb1
  go_wp2_with fail
  refine bodyPost_ret (v := .tuple #[.agg #[.int .u64 0, .int .u64 0, .int .u64 0, .int .u64 0], .agg #[.int .u64 0, .int .u64 0, .int .u64 0, .int .u64 0]]) (by simp [results, Tryd.results29, go_sem, *]) rfl ?_
  exact ⟨rfl, by go_grown⟩
set_option maxRecDepth 20000 in
set_option maxHeartbeats 8000000 in
theorem divide_g (a b : BitVec 256) (w : World) (hb0 : ¬ b = 0#256) : Calls Tryd.prog 29 #[W a, W b] w fun e w' => e = .returned (.tuple #[W (quoN a.toNat b 0), W (remN a.toNat b 0)]) ∧ Below w.heap.size w w' := by
  have hbp := pos_of_ne hb0
  have hq := eqZ b
  rw [decide_eq_false hb0] at hq
  go_enter Tryd.func29, Tryd.ntmps29
  go_wp2_with fail
  go_loopw [8] (fun i wr => LpRel (fun j => Own [(w.heap.size + 1 + 1 + 1 + 1 + 1, wc (remN a.toNat b j), 24), (w.heap.size + 1 + 1 + 1 + 1, wc (quoN a.toNat b j), 24), (w.heap.size + 1 + 1 + 1, wc 0, 24), (w.heap.size + 1 + 1, wc 0, 24), (w.heap.size + 1, wc b, 24), (w.heap.size, wc a, 24)]) 256 w i wr) (fun i _ => (intOf i + 1).toNat)
  case atStart => exact ⟨256, Nat.le_refl _, by simp, Own.eqv (Own.new (Own.new (Own.new (Own.new (Own.new (Own.new (Own.nil w) (w.heap.size) (by first | rfl | simp)) (w.heap.size + 1) (by simp)) (w.heap.size + 1 + 1) (by simp)) (w.heap.size + 1 + 1 + 1) (by simp)) (w.heap.size + 1 + 1 + 1 + 1) (by simp)) (w.heap.size + 1 + 1 + 1 + 1 + 1) (by simp)) (by rw [remN_top b a.isLt, quoN_top b a.isLt, show (0#256 : BitVec 256) = 0 from rfl, wc_zero]), by go_grown⟩
  case round =>
    obtain ⟨j, hj, rfl, hO, hb⟩ := hrel
    try dsimp only at hO
    rcases j with _ | j
    · have hd0 : decide ((0 : Int) ≤ ((0 : Nat) : Int) - 1) = false := by simp
      have O1 := hO
      have c1x0 := Own.cell O1 0 rfl
      have f1x0 := Own.free O1 0 rfl
      have l1x0 := Own.lt O1 0 rfl
      have l1x0d0 := le_up 0 l1x0
      have l1x0d1 := le_up 1 l1x0
      simp only [upN] at l1x0d0 l1x0d1
      have c1x1 := Own.cell O1 1 rfl
      have f1x1 := Own.free O1 1 rfl
      have l1x1 := Own.lt O1 1 rfl
      have l1x1d0 := le_up 0 l1x1
      have l1x1d1 := le_up 1 l1x1
      simp only [upN] at l1x1d0 l1x1d1
      have c1x2 := Own.cell O1 2 rfl
      have f1x2 := Own.free O1 2 rfl
      have l1x2 := Own.lt O1 2 rfl
      have l1x2d0 := le_up 0 l1x2
      have l1x2d1 := le_up 1 l1x2
      simp only [upN] at l1x2d0 l1x2d1
      have c1x3 := Own.cell O1 3 rfl
      have f1x3 := Own.free O1 3 rfl
      have l1x3 := Own.lt O1 3 rfl
      have l1x3d0 := le_up 0 l1x3
      have l1x3d1 := le_up 1 l1x3
      simp only [upN] at l1x3d0 l1x3d1
      have c1x4 := Own.cell O1 4 rfl
      have f1x4 := Own.free O1 4 rfl
      have l1x4 := Own.lt O1 4 rfl
      have l1x4d0 := le_up 0 l1x4
      have l1x4d1 := le_up 1 l1x4
      simp only [upN] at l1x4d0 l1x4d1
      have c1x5 := Own.cell O1 5 rfl
      have f1x5 := Own.free O1 5 rfl
      have l1x5 := Own.lt O1 5 rfl
      have l1x5d0 := le_up 0 l1x5
      have l1x5d1 := le_up 1 l1x5
      simp only [upN] at l1x5d0 l1x5d1
      have HO1 := Lib.hid O1
      clear O1
      go_wp2_with fail
      refine wp_region_grow w.heap.size 4 12 0 [(0, 0, 281474976710656, 64), (1, 0, 562949953421312, 128), (2, 1, 0, 281474976710672), (3, 7, 0, 562949953421344)] [(.p 0, 1), (.p 1, 3), (.c 2, 7), (.c 3, 15)] [] (keepL [true, true, false, false, true, true] _) (fun p hp => mem_of_keep hp) (by first | omega | (simp; done) | (simp; omega)) (by kernel_rfl) (by kernel_rfl) HO1.out ?_
      refine wpG_pure (i := 0) (v := ?v2x0) rfl rfl (by rfl) (fun w hB hG K hK => ?h2x0) ?_
      case h2x0 =>
        have cx := Own.cell hG 1 rfl
        go_wp2_with fail
        exact hK _ (Below.refl _ _)
      simp only [List.set_cons_zero, List.set_cons_succ]
      refine wpG_pure (i := 1) (v := ?v2x1) rfl rfl (by rfl) (fun w hB hG K hK => ?h2x1) ?_
      case h2x1 =>
        have cx := Own.cell hG 0 rfl
        go_wp2_with fail
        exact hK _ (Below.refl _ _)
      simp only [List.set_cons_zero, List.set_cons_succ]
      refine wpG_store (i := 2) (c' := ?c2x2) 3 rfl (Ne1.cons (by first | omega | (simp; omega)) (Ne1.cons (by first | omega | (simp; omega)) (Ne1.cons (by first | omega | (simp; omega)) (Ne1.cons (by first | omega | (simp; omega)) (Ne1.cons (by first | omega | (simp; omega)) Ne1.nil))))) (by first | omega | (simp; omega)) (fun p hp => mem_of_keep (ms := [true, true, false, false, true, true]) hp) rfl rfl (by rfl) (fun w hB hF hG K hK => ?h2x2) ?_
      case h2x2 =>
        have cx := hF.cell
        have fx := hF.free
        go_wp2_with fail
        refine hK _ (Same.set (Same.set (Same.set (Same.set (Same.refl _ _) _ _) _ _) _ _) _ _) ?_
        exact (Blk.set (Blk.set (Blk.set (Blk.set hF _ _) _ _) _ _) _ _)
      simp only [List.set_cons_zero, List.set_cons_succ, List.setIfInBounds_toArray]
      refine wpG_store (i := 3) (c' := ?c2x3) 2 rfl (Ne1.cons (by first | omega | (simp; omega)) (Ne1.cons (by first | omega | (simp; omega)) (Ne1.cons (by first | omega | (simp; omega)) (Ne1.cons (by first | omega | (simp; omega)) (Ne1.cons (by first | omega | (simp; omega)) Ne1.nil))))) (by first | omega | (simp; omega)) (fun p hp => mem_of_keep (ms := [true, true, false, false, true, true]) hp) rfl rfl (by rfl) (fun w hB hF hG K hK => ?h2x3) ?_
      case h2x3 =>
        have cx := hF.cell
        have fx := hF.free
        go_wp2_with fail
        refine hK _ (Same.set (Same.set (Same.set (Same.set (Same.refl _ _) _ _) _ _) _ _) _ _) ?_
        exact (Blk.set (Blk.set (Blk.set (Blk.set hF _ _) _ _) _ _) _ _)
      simp only [List.set_cons_zero, List.set_cons_succ, List.setIfInBounds_toArray]
      refine wpG_nil (fun w2 hb2 hG2 => ?_)
      simp only [List.append_eq, List.cons_append, List.nil_append, List.drop_succ_cons, List.drop_zero, List.drop_nil]
      have O2 := Own.of hG2
      try simp only [List.setIfInBounds_toArray, List.set_cons_zero, List.set_cons_succ] at O2
      have bw2 : Below w.heap.size w w2 := Below.trans (by go_grown) (Below.mono hb2 (by first | omega | (simp; done) | (simp; omega)))
      have zw2 := Below.size hb2
      try simp only [World.size_alloc, World.size_drew, World.size_setCell] at zw2
      clear c1x0 f1x0 l1x0 l1x0d0 l1x0d1 c1x1 f1x1 l1x1 l1x1d0 l1x1d1 c1x2 f1x2 l1x2 l1x2d0 l1x2d1 c1x3 f1x3 l1x3 l1x3d0 l1x3d1 c1x4 f1x4 l1x4 l1x4d0 l1x4d1 c1x5 f1x5 l1x5 l1x5d0 l1x5d1
      have c2x0 := Own.cell O2 0 rfl
      have f2x0 := Own.free O2 0 rfl
      have l2x0 := Own.lt O2 0 rfl
      have l2x0d0 := le_up 0 l2x0
      have l2x0d1 := le_up 1 l2x0
      simp only [upN] at l2x0d0 l2x0d1
      have c2x1 := Own.cell O2 1 rfl
      have f2x1 := Own.free O2 1 rfl
      have l2x1 := Own.lt O2 1 rfl
      have l2x1d0 := le_up 0 l2x1
      have l2x1d1 := le_up 1 l2x1
      simp only [upN] at l2x1d0 l2x1d1
      have c2x2 := Own.cell O2 2 rfl
      have f2x2 := Own.free O2 2 rfl
      have l2x2 := Own.lt O2 2 rfl
      have l2x2d0 := le_up 0 l2x2
      have l2x2d1 := le_up 1 l2x2
      simp only [upN] at l2x2d0 l2x2d1
      have c2x3 := Own.cell O2 3 rfl
      have f2x3 := Own.free O2 3 rfl
      have l2x3 := Own.lt O2 3 rfl
      have l2x3d0 := le_up 0 l2x3
      have l2x3d1 := le_up 1 l2x3
      simp only [upN] at l2x3d0 l2x3d1
      have c2x4 := Own.cell O2 4 rfl
      have f2x4 := Own.free O2 4 rfl
      have l2x4 := Own.lt O2 4 rfl
      have l2x4d0 := le_up 0 l2x4
      have l2x4d1 := le_up 1 l2x4
      simp only [upN] at l2x4d0 l2x4d1
      have c2x5 := Own.cell O2 5 rfl
      have f2x5 := Own.free O2 5 rfl
      have l2x5 := Own.lt O2 5 rfl
      have l2x5d0 := le_up 0 l2x5
      have l2x5d1 := le_up 1 l2x5
      simp only [upN] at l2x5d0 l2x5d1
      have HO2 := Lib.hid O2
      clear O2 hb2
      go_wp2_with fail
      refine bodyPost_ret (v := .tuple #[W (quoN a.toNat b 0), W (remN a.toNat b 0)]) (by simp [results, Tryd.results29, go_sem, *]) rfl ?_
      exact ⟨rfl, by go_grown⟩
    · have hji : (((j + 1 : Nat) : Int) - 1) = (j : Int) := by omega
      rw [hji]
      have hd0 : decide ((0 : Int) ≤ (j : Int)) = true := by simp
      have HRS := Lib.hid (remN_step a.toNat b j hbp)
      have HQS := Lib.hid (quoN_step a.toNat b j hbp)
      have HBI := Lib.hid (fun V => refBitW a j (by omega) V)
      rw [show a.toNat.testBit j = a.getLsbD j from rfl] at HRS HQS
      generalize hr1 : remN a.toNat b j = r1 at *
      generalize hq1 : quoN a.toNat b j = q1 at *
      generalize remN a.toNat b (j + 1) = r at *
      generalize quoN a.toNat b (j + 1) = q at *
      generalize a.getLsbD j = bt at *
      have HT1 := Lib.hid (fun V => twiceW r bt V)
      have HT2 := Lib.hid (fun V => twiceW q false V)
      have HOD := Lib.hid (fun V => refOrderW (dbl r bt) b V)
      have HSB := Lib.hid (fun V => refSubW (dbl r bt) b V)
      have hge := ordW_ge (dbl r bt) b
      have hor : bits .or .u64 (L (dbl q false) 0) 1 = L (dbl q true) 0 := by rw [dbl_false]; exact (L_dbl q true).1
      have h1 : L (dbl q false) 1 = L (dbl q true) 1 := by rw [dbl_false]; exact (L_dbl q true).2.1
      have h2 : L (dbl q false) 2 = L (dbl q true) 2 := by rw [dbl_false]; exact (L_dbl q true).2.2.1
      have h3 : L (dbl q false) 3 = L (dbl q true) 3 := by rw [dbl_false]; exact (L_dbl q true).2.2.2
      have HR1 := Lib.hid (show r1 = if r.getLsbD 255 || decide (b.toNat ≤ (dbl r bt).toNat) then dbl r bt - b else dbl r bt by rw [← HRS.out]; unfold stepW goesB; rw [msb255])
      have HQ1 := Lib.hid (show q1 = if r.getLsbD 255 || decide (b.toNat ≤ (dbl r bt).toNat) then dbl q true else dbl q false by rw [← HQS.out]; unfold stepQ goesB; rw [msb255, or_one_dbl])
      generalize dbl r bt = d at *
      generalize hdt : dbl q true = qt at *
      generalize hdf : dbl q false = qf at *
      generalize hov : r.getLsbD 255 = ov at *
      generalize ordW d b = od at *
      clear HRS HQS hdt hdf hov
      rcases (show (ov = true) ∨ (ov = false ∧ b.toNat ≤ d.toNat) ∨ (ov = false ∧ ¬ b.toNat ≤ d.toNat) by cases ov <;> simp <;> omega) with hc | ⟨hc, hc2⟩ | ⟨hc, hc2⟩
      · subst hc
        rw [show (true || decide (b.toNat ≤ d.toNat)) = true from rfl, if_pos rfl] at HR1 HQ1
        obtain rfl := HR1.out
        obtain rfl := HQ1.out
        clear HR1 HQ1
        have O3 := hO
        have c3x0 := Own.cell O3 0 rfl
        have f3x0 := Own.free O3 0 rfl
        have l3x0 := Own.lt O3 0 rfl
        have l3x0d0 := le_up 0 l3x0
        have l3x0d1 := le_up 1 l3x0
        simp only [upN] at l3x0d0 l3x0d1
        have c3x1 := Own.cell O3 1 rfl
        have f3x1 := Own.free O3 1 rfl
        have l3x1 := Own.lt O3 1 rfl
        have l3x1d0 := le_up 0 l3x1
        have l3x1d1 := le_up 1 l3x1
        simp only [upN] at l3x1d0 l3x1d1
        have c3x2 := Own.cell O3 2 rfl
        have f3x2 := Own.free O3 2 rfl
        have l3x2 := Own.lt O3 2 rfl
        have l3x2d0 := le_up 0 l3x2
        have l3x2d1 := le_up 1 l3x2
        simp only [upN] at l3x2d0 l3x2d1
        have c3x3 := Own.cell O3 3 rfl
        have f3x3 := Own.free O3 3 rfl
        have l3x3 := Own.lt O3 3 rfl
        have l3x3d0 := le_up 0 l3x3
        have l3x3d1 := le_up 1 l3x3
        simp only [upN] at l3x3d0 l3x3d1
        have c3x4 := Own.cell O3 4 rfl
        have f3x4 := Own.free O3 4 rfl
        have l3x4 := Own.lt O3 4 rfl
        have l3x4d0 := le_up 0 l3x4
        have l3x4d1 := le_up 1 l3x4
        simp only [upN] at l3x4d0 l3x4d1
        have c3x5 := Own.cell O3 5 rfl
        have f3x5 := Own.free O3 5 rfl
        have l3x5 := Own.lt O3 5 rfl
        have l3x5d0 := le_up 0 l3x5
        have l3x5d1 := le_up 1 l3x5
        simp only [upN] at l3x5d0 l3x5d1
        have HO3 := Lib.hid O3
        clear O3
        have hz0 := l3x0
        have hz1 := l3x1
        have hz2 := l3x2
        have hz3 := l3x3
        have hz4 := l3x4
        have hz5 := l3x5
        go_wp2_with fail
        refine wp_region_grow w.heap.size 11 512 256 [(0, 0, 2097152, 128), (1, 0, 4194304, 4), (2, 0, 8388608, 256), (3, 6, 16777216, 12582912), (4, 9, 33554432, 18874368), (5, 16, 1048576, 33554432), (6, 32, 67108864, 1048576), (7, 32, 134217728, 1048576), (8, 0, 512, 0), (9, 383, 0, 67109376), (10, 1023, 1024, 134217728)] [(.p 0, 1), (.p 1, 3), (.p 2, 7), (.p 3, 15), (.p 4, 31), (.p 5, 63), (.p 6, 127), (.p 7, 255), (.g 8, 511), (.c 9, 1023), (.p 10, 2047)] [] _ (fun p hp => hp) (by first | omega | (simp; done) | (simp; omega)) (by kernel_rfl) (by kernel_rfl) HO3.out ?_
        refine wpG_pure (i := 0) (v := ?v4x0) rfl rfl (by rfl) (fun w hB hG K hK => ?h4x0) ?_
        case h4x0 =>
          have cx := Own.cell hG 0 rfl
          go_wp2_with fail
          exact hK _ (Below.refl _ _)
        simp only [List.set_cons_zero, List.set_cons_succ]
        refine wpG_pure (i := 1) (v := ?v4x1) rfl rfl (by rfl) (fun w hB hG K hK => ?h4x1) ?_
        case h4x1 =>
          have cx := Own.cell hG 5 rfl
          go_wp2_with fail
          exact hK _ (Below.refl _ _)
        simp only [List.set_cons_zero, List.set_cons_succ]
        refine wpG_move (i := 2) rfl rfl rfl (by rfl) rfl ?_
        simp only [List.set_cons_zero, List.set_cons_succ]
        refine wpG_pure (i := 3) (v := ?v4x3) rfl rfl (by rfl) (fun w hB hG K hK => ?h4x3) ?_
        case h4x3 =>
          go_wp2_with fail
          refine (HBI.out _).mono ?_
          rintro e wx ⟨rfl, hbx⟩
          exact hK _ hbx
        simp only [List.set_cons_zero, List.set_cons_succ]
        refine wpG_pure (i := 4) (v := ?v4x4) rfl rfl (by rfl) (fun w hB hG K hK => ?h4x4) ?_
        case h4x4 =>
          go_wp2_with fail
          refine (HT1.out _).mono ?_
          rintro e wx ⟨rfl, hbx⟩
          exact hK _ hbx
        simp only [List.set_cons_zero, List.set_cons_succ]
        refine wpG_move (i := 5) rfl rfl rfl (by rfl) rfl ?_
        simp only [List.set_cons_zero, List.set_cons_succ]
        refine wpG_pure (i := 6) (v := ?v4x6) rfl rfl (by rfl) (fun w hB hG K hK => ?h4x6) ?_
        case h4x6 =>
          go_wp2_with fail
          exact hK _ (Below.refl _ _)
        simp only [List.set_cons_zero, List.set_cons_succ]
        refine wpG_pure (i := 7) (v := ?v4x7) rfl rfl (by rfl) (fun w hB hG K hK => ?h4x7) ?_
        case h4x7 =>
          go_wp2_with fail
          exact hK _ (Below.refl _ _)
        simp only [List.set_cons_zero, List.set_cons_succ]
        refine wpG_make (i := 8) (c := ?c4x8) (t := ?t4x8) (fun b => .pointer (some ⟨b, 0, none⟩)) rfl rfl (by rfl) (fun w hB hG K hK => ?h4x8) (fun v4g1 l4g1 n4g1 => ?_)
        case h4x8 =>
          go_wp2_with fail
          exact hK
        simp only [List.set_cons_zero, List.set_cons_succ]
        try simp only [World.size_alloc, World.size_drew, World.size_setCell] at l4g1
        clear n4g1
        refine wpG_store (i := 9) (c' := ?c4x9) 0 rfl (Ne1.cons (by first | omega | (simp; omega)) (Ne1.cons (by first | omega | (simp; omega)) (Ne1.cons (by first | omega | (simp; omega)) (Ne1.cons (by first | omega | (simp; omega)) (Ne1.cons (by first | omega | (simp; omega)) (Ne1.cons (by first | omega | (simp; omega)) Ne1.nil)))))) (by first | omega | (simp; omega)) (fun p hp => List.mem_cons_of_mem _ (hp)) rfl rfl (by rfl) (fun w hB hF hG K hK => ?h4x9) ?_
        case h4x9 =>
          have cx := hF.cell
          have fx := hF.free
          go_wp2_with fail
          refine hK _ (Same.set (Same.set (Same.set (Same.set (Same.refl _ _) _ _) _ _) _ _) _ _) ?_
          exact (Blk.set (Blk.set (Blk.set (Blk.set hF _ _) _ _) _ _) _ _)
        simp only [List.set_cons_zero, List.set_cons_succ, List.setIfInBounds_toArray]
        refine wpG_assign (i := 10) rfl rfl rfl (by rfl) rfl ?_
        simp only [List.set_cons_zero, List.set_cons_succ]
        refine wpG_nil (fun w4 hb4 hG4 => ?_)
        simp only [List.append_eq, List.cons_append, List.nil_append, List.drop_succ_cons, List.drop_zero, List.drop_nil]
        have u4g1 := Own.lt hG4 0 rfl
        have O4 := Own.of hG4
        try simp only [List.setIfInBounds_toArray, List.set_cons_zero, List.set_cons_succ] at O4
        have bw4 : Below w.heap.size w w4 := Below.trans (by go_grown) (Below.mono hb4 (by first | omega | (simp; done) | (simp; omega)))
        have zw4 := Below.size hb4
        try simp only [World.size_alloc, World.size_drew, World.size_setCell] at zw4
        clear c3x0 f3x0 l3x0 l3x0d0 l3x0d1 c3x1 f3x1 l3x1 l3x1d0 l3x1d1 c3x2 f3x2 l3x2 l3x2d0 l3x2d1 c3x3 f3x3 l3x3 l3x3d0 l3x3d1 c3x4 f3x4 l3x4 l3x4d0 l3x4d1 c3x5 f3x5 l3x5 l3x5d0 l3x5d1
        have c4x0 := Own.cell O4 0 rfl
        have f4x0 := Own.free O4 0 rfl
        have l4x0 := Own.lt O4 0 rfl
        have l4x0d0 := le_up 0 l4x0
        have l4x0d1 := le_up 1 l4x0
        simp only [upN] at l4x0d0 l4x0d1
        have c4x1 := Own.cell O4 1 rfl
        have f4x1 := Own.free O4 1 rfl
        have l4x1 := Own.lt O4 1 rfl
        have l4x1d0 := le_up 0 l4x1
        have l4x1d1 := le_up 1 l4x1
        simp only [upN] at l4x1d0 l4x1d1
        have c4x2 := Own.cell O4 2 rfl
        have f4x2 := Own.free O4 2 rfl
        have l4x2 := Own.lt O4 2 rfl
        have l4x2d0 := le_up 0 l4x2
        have l4x2d1 := le_up 1 l4x2
        simp only [upN] at l4x2d0 l4x2d1
        have c4x3 := Own.cell O4 3 rfl
        have f4x3 := Own.free O4 3 rfl
        have l4x3 := Own.lt O4 3 rfl
        have l4x3d0 := le_up 0 l4x3
        have l4x3d1 := le_up 1 l4x3
        simp only [upN] at l4x3d0 l4x3d1
        have c4x4 := Own.cell O4 4 rfl
        have f4x4 := Own.free O4 4 rfl
        have l4x4 := Own.lt O4 4 rfl
        have l4x4d0 := le_up 0 l4x4
        have l4x4d1 := le_up 1 l4x4
        simp only [upN] at l4x4d0 l4x4d1
        have c4x5 := Own.cell O4 5 rfl
        have f4x5 := Own.free O4 5 rfl
        have l4x5 := Own.lt O4 5 rfl
        have l4x5d0 := le_up 0 l4x5
        have l4x5d1 := le_up 1 l4x5
        simp only [upN] at l4x5d0 l4x5d1
        have c4x6 := Own.cell O4 6 rfl
        have f4x6 := Own.free O4 6 rfl
        have l4x6 := Own.lt O4 6 rfl
        have l4x6d0 := le_up 0 l4x6
        have l4x6d1 := le_up 1 l4x6
        simp only [upN] at l4x6d0 l4x6d1
        have HO4 := Lib.hid O4
        clear O4 hb4
        go_wp2_with fail
        refine (HT2.out _).mono ?_
        rintro e w5 ⟨rfl, hb5⟩
        have O5 := Own.grow' hb5 HO4.out
        try simp only [List.setIfInBounds_toArray, List.set_cons_zero, List.set_cons_succ] at O5
        have bw5 : Below w.heap.size w w5 := Below.trans (by go_grown) (Below.mono hb5 (by first | omega | (simp; done) | (simp; omega)))
        have zw5 := Below.size hb5
        try simp only [World.size_alloc, World.size_drew, World.size_setCell] at zw5
        clear c4x0 f4x0 l4x0 l4x0d0 l4x0d1 c4x1 f4x1 l4x1 l4x1d0 l4x1d1 c4x2 f4x2 l4x2 l4x2d0 l4x2d1 c4x3 f4x3 l4x3 l4x3d0 l4x3d1 c4x4 f4x4 l4x4 l4x4d0 l4x4d1 c4x5 f4x5 l4x5 l4x5d0 l4x5d1 c4x6 f4x6 l4x6 l4x6d0 l4x6d1
        have c5x0 := Own.cell O5 0 rfl
        have f5x0 := Own.free O5 0 rfl
        have l5x0 := Own.lt O5 0 rfl
        have l5x0d0 := le_up 0 l5x0
        have l5x0d1 := le_up 1 l5x0
        simp only [upN] at l5x0d0 l5x0d1
        have c5x1 := Own.cell O5 1 rfl
        have f5x1 := Own.free O5 1 rfl
        have l5x1 := Own.lt O5 1 rfl
        have l5x1d0 := le_up 0 l5x1
        have l5x1d1 := le_up 1 l5x1
        simp only [upN] at l5x1d0 l5x1d1
        have c5x2 := Own.cell O5 2 rfl
        have f5x2 := Own.free O5 2 rfl
        have l5x2 := Own.lt O5 2 rfl
        have l5x2d0 := le_up 0 l5x2
        have l5x2d1 := le_up 1 l5x2
        simp only [upN] at l5x2d0 l5x2d1
        have c5x3 := Own.cell O5 3 rfl
        have f5x3 := Own.free O5 3 rfl
        have l5x3 := Own.lt O5 3 rfl
        have l5x3d0 := le_up 0 l5x3
        have l5x3d1 := le_up 1 l5x3
        simp only [upN] at l5x3d0 l5x3d1
        have c5x4 := Own.cell O5 4 rfl
        have f5x4 := Own.free O5 4 rfl
        have l5x4 := Own.lt O5 4 rfl
        have l5x4d0 := le_up 0 l5x4
        have l5x4d1 := le_up 1 l5x4
        simp only [upN] at l5x4d0 l5x4d1
        have c5x5 := Own.cell O5 5 rfl
        have f5x5 := Own.free O5 5 rfl
        have l5x5 := Own.lt O5 5 rfl
        have l5x5d0 := le_up 0 l5x5
        have l5x5d1 := le_up 1 l5x5
        simp only [upN] at l5x5d0 l5x5d1
        have c5x6 := Own.cell O5 6 rfl
        have f5x6 := Own.free O5 6 rfl
        have l5x6 := Own.lt O5 6 rfl
        have l5x6d0 := le_up 0 l5x6
        have l5x6d1 := le_up 1 l5x6
        simp only [upN] at l5x6d0 l5x6d1
        have HO5 := Lib.hid O5
        clear O5 hb5
        go_upto_region 9 with (fail)
        refine wp_name fun wn9x hwn9x => ?_
        have hOwn9x := (show Own _ wn9x by rw [hwn9x]; exact (Own.set (Own.set (Own.set (Own.set HO5.out 2 rfl (Ne1.cons (by first | omega | (simp; omega)) (Ne1.cons (by first | omega | (simp; omega)) (Ne1.cons (by first | omega | (simp; omega)) (Ne1.cons (by first | omega | (simp; omega)) (Ne1.cons (by first | omega | (simp; omega)) (Ne1.cons (by first | omega | (simp; omega)) Ne1.nil))))))) 2 rfl (Ne1.cons (by first | omega | (simp; omega)) (Ne1.cons (by first | omega | (simp; omega)) (Ne1.cons (by first | omega | (simp; omega)) (Ne1.cons (by first | omega | (simp; omega)) (Ne1.cons (by first | omega | (simp; omega)) (Ne1.cons (by first | omega | (simp; omega)) Ne1.nil))))))) 2 rfl (Ne1.cons (by first | omega | (simp; omega)) (Ne1.cons (by first | omega | (simp; omega)) (Ne1.cons (by first | omega | (simp; omega)) (Ne1.cons (by first | omega | (simp; omega)) (Ne1.cons (by first | omega | (simp; omega)) (Ne1.cons (by first | omega | (simp; omega)) Ne1.nil))))))) 2 rfl (Ne1.cons (by first | omega | (simp; omega)) (Ne1.cons (by first | omega | (simp; omega)) (Ne1.cons (by first | omega | (simp; omega)) (Ne1.cons (by first | omega | (simp; omega)) (Ne1.cons (by first | omega | (simp; omega)) (Ne1.cons (by first | omega | (simp; omega)) Ne1.nil))))))))
        try simp only [List.setIfInBounds_toArray, List.set_cons_zero, List.set_cons_succ] at hOwn9x
        have hBwn9x : Below w.heap.size w wn9x := by rw [hwn9x]; go_grown
        clear hwn9x
        have bw6 := hBwn9x
        clear c5x0 f5x0 l5x0 l5x0d0 l5x0d1 c5x1 f5x1 l5x1 l5x1d0 l5x1d1 c5x2 f5x2 l5x2 l5x2d0 l5x2d1 c5x3 f5x3 l5x3 l5x3d0 l5x3d1 c5x4 f5x4 l5x4 l5x4d0 l5x4d1 c5x5 f5x5 l5x5 l5x5d0 l5x5d1 c5x6 f5x6 l5x6 l5x6d0 l5x6d1
        have O6 := hOwn9x
        have c6x0 := Own.cell O6 0 rfl
        have f6x0 := Own.free O6 0 rfl
        have l6x0 := Own.lt O6 0 rfl
        have l6x0d0 := le_up 0 l6x0
        have l6x0d1 := le_up 1 l6x0
        simp only [upN] at l6x0d0 l6x0d1
        have c6x1 := Own.cell O6 1 rfl
        have f6x1 := Own.free O6 1 rfl
        have l6x1 := Own.lt O6 1 rfl
        have l6x1d0 := le_up 0 l6x1
        have l6x1d1 := le_up 1 l6x1
        simp only [upN] at l6x1d0 l6x1d1
        have c6x2 := Own.cell O6 2 rfl
        have f6x2 := Own.free O6 2 rfl
        have l6x2 := Own.lt O6 2 rfl
        have l6x2d0 := le_up 0 l6x2
        have l6x2d1 := le_up 1 l6x2
        simp only [upN] at l6x2d0 l6x2d1
        have c6x3 := Own.cell O6 3 rfl
        have f6x3 := Own.free O6 3 rfl
        have l6x3 := Own.lt O6 3 rfl
        have l6x3d0 := le_up 0 l6x3
        have l6x3d1 := le_up 1 l6x3
        simp only [upN] at l6x3d0 l6x3d1
        have c6x4 := Own.cell O6 4 rfl
        have f6x4 := Own.free O6 4 rfl
        have l6x4 := Own.lt O6 4 rfl
        have l6x4d0 := le_up 0 l6x4
        have l6x4d1 := le_up 1 l6x4
        simp only [upN] at l6x4d0 l6x4d1
        have c6x5 := Own.cell O6 5 rfl
        have f6x5 := Own.free O6 5 rfl
        have l6x5 := Own.lt O6 5 rfl
        have l6x5d0 := le_up 0 l6x5
        have l6x5d1 := le_up 1 l6x5
        simp only [upN] at l6x5d0 l6x5d1
        have c6x6 := Own.cell O6 6 rfl
        have f6x6 := Own.free O6 6 rfl
        have l6x6 := Own.lt O6 6 rfl
        have l6x6d0 := le_up 0 l6x6
        have l6x6d1 := le_up 1 l6x6
        simp only [upN] at l6x6d0 l6x6d1
        have HO6 := Lib.hid O6
        clear O6
        go_upto_region 10 with (fail)
        refine wp_name fun wn10x hwn10x => ?_
        have hOwn10x := (show Own _ wn10x by rw [hwn10x]; exact (Own.set (Own.set (Own.set (Own.set HO6.out 1 rfl (Ne1.cons (by first | omega | (simp; omega)) (Ne1.cons (by first | omega | (simp; omega)) (Ne1.cons (by first | omega | (simp; omega)) (Ne1.cons (by first | omega | (simp; omega)) (Ne1.cons (by first | omega | (simp; omega)) (Ne1.cons (by first | omega | (simp; omega)) Ne1.nil))))))) 1 rfl (Ne1.cons (by first | omega | (simp; omega)) (Ne1.cons (by first | omega | (simp; omega)) (Ne1.cons (by first | omega | (simp; omega)) (Ne1.cons (by first | omega | (simp; omega)) (Ne1.cons (by first | omega | (simp; omega)) (Ne1.cons (by first | omega | (simp; omega)) Ne1.nil))))))) 1 rfl (Ne1.cons (by first | omega | (simp; omega)) (Ne1.cons (by first | omega | (simp; omega)) (Ne1.cons (by first | omega | (simp; omega)) (Ne1.cons (by first | omega | (simp; omega)) (Ne1.cons (by first | omega | (simp; omega)) (Ne1.cons (by first | omega | (simp; omega)) Ne1.nil))))))) 1 rfl (Ne1.cons (by first | omega | (simp; omega)) (Ne1.cons (by first | omega | (simp; omega)) (Ne1.cons (by first | omega | (simp; omega)) (Ne1.cons (by first | omega | (simp; omega)) (Ne1.cons (by first | omega | (simp; omega)) (Ne1.cons (by first | omega | (simp; omega)) Ne1.nil))))))))
        try simp only [List.setIfInBounds_toArray, List.set_cons_zero, List.set_cons_succ] at hOwn10x
        have hBwn10x : Below w.heap.size w wn10x := by rw [hwn10x]; go_grown
        clear hwn10x
        have bw7 := hBwn10x
        clear c6x0 f6x0 l6x0 l6x0d0 l6x0d1 c6x1 f6x1 l6x1 l6x1d0 l6x1d1 c6x2 f6x2 l6x2 l6x2d0 l6x2d1 c6x3 f6x3 l6x3 l6x3d0 l6x3d1 c6x4 f6x4 l6x4 l6x4d0 l6x4d1 c6x5 f6x5 l6x5 l6x5d0 l6x5d1 c6x6 f6x6 l6x6 l6x6d0 l6x6d1
        have O7 := hOwn10x
        have c7x0 := Own.cell O7 0 rfl
        have f7x0 := Own.free O7 0 rfl
        have l7x0 := Own.lt O7 0 rfl
        have l7x0d0 := le_up 0 l7x0
        have l7x0d1 := le_up 1 l7x0
        simp only [upN] at l7x0d0 l7x0d1
        have c7x1 := Own.cell O7 1 rfl
        have f7x1 := Own.free O7 1 rfl
        have l7x1 := Own.lt O7 1 rfl
        have l7x1d0 := le_up 0 l7x1
        have l7x1d1 := le_up 1 l7x1
        simp only [upN] at l7x1d0 l7x1d1
        have c7x2 := Own.cell O7 2 rfl
        have f7x2 := Own.free O7 2 rfl
        have l7x2 := Own.lt O7 2 rfl
        have l7x2d0 := le_up 0 l7x2
        have l7x2d1 := le_up 1 l7x2
        simp only [upN] at l7x2d0 l7x2d1
        have c7x3 := Own.cell O7 3 rfl
        have f7x3 := Own.free O7 3 rfl
        have l7x3 := Own.lt O7 3 rfl
        have l7x3d0 := le_up 0 l7x3
        have l7x3d1 := le_up 1 l7x3
        simp only [upN] at l7x3d0 l7x3d1
        have c7x4 := Own.cell O7 4 rfl
        have f7x4 := Own.free O7 4 rfl
        have l7x4 := Own.lt O7 4 rfl
        have l7x4d0 := le_up 0 l7x4
        have l7x4d1 := le_up 1 l7x4
        simp only [upN] at l7x4d0 l7x4d1
        have c7x5 := Own.cell O7 5 rfl
        have f7x5 := Own.free O7 5 rfl
        have l7x5 := Own.lt O7 5 rfl
        have l7x5d0 := le_up 0 l7x5
        have l7x5d1 := le_up 1 l7x5
        simp only [upN] at l7x5d0 l7x5d1
        have c7x6 := Own.cell O7 6 rfl
        have f7x6 := Own.free O7 6 rfl
        have l7x6 := Own.lt O7 6 rfl
        have l7x6d0 := le_up 0 l7x6
        have l7x6d1 := le_up 1 l7x6
        simp only [upN] at l7x6d0 l7x6d1
        have HO7 := Lib.hid O7
        clear O7
        go_wp2_with fail
        refine (HSB.out _).mono ?_
        rintro e w8 ⟨rfl, hb8⟩
        have O8 := Own.grow' hb8 HO7.out
        try simp only [List.setIfInBounds_toArray, List.set_cons_zero, List.set_cons_succ] at O8
        have bw8 : Below w.heap.size w w8 := Below.trans (by go_grown) (Below.mono hb8 (by first | omega | (simp; done) | (simp; omega)))
        have zw8 := Below.size hb8
        try simp only [World.size_alloc, World.size_drew, World.size_setCell] at zw8
        clear c7x0 f7x0 l7x0 l7x0d0 l7x0d1 c7x1 f7x1 l7x1 l7x1d0 l7x1d1 c7x2 f7x2 l7x2 l7x2d0 l7x2d1 c7x3 f7x3 l7x3 l7x3d0 l7x3d1 c7x4 f7x4 l7x4 l7x4d0 l7x4d1 c7x5 f7x5 l7x5 l7x5d0 l7x5d1 c7x6 f7x6 l7x6 l7x6d0 l7x6d1
        have c8x0 := Own.cell O8 0 rfl
        have f8x0 := Own.free O8 0 rfl
        have l8x0 := Own.lt O8 0 rfl
        have l8x0d0 := le_up 0 l8x0
        have l8x0d1 := le_up 1 l8x0
        simp only [upN] at l8x0d0 l8x0d1
        have c8x1 := Own.cell O8 1 rfl
        have f8x1 := Own.free O8 1 rfl
        have l8x1 := Own.lt O8 1 rfl
        have l8x1d0 := le_up 0 l8x1
        have l8x1d1 := le_up 1 l8x1
        simp only [upN] at l8x1d0 l8x1d1
        have c8x2 := Own.cell O8 2 rfl
        have f8x2 := Own.free O8 2 rfl
        have l8x2 := Own.lt O8 2 rfl
        have l8x2d0 := le_up 0 l8x2
        have l8x2d1 := le_up 1 l8x2
        simp only [upN] at l8x2d0 l8x2d1
        have c8x3 := Own.cell O8 3 rfl
        have f8x3 := Own.free O8 3 rfl
        have l8x3 := Own.lt O8 3 rfl
        have l8x3d0 := le_up 0 l8x3
        have l8x3d1 := le_up 1 l8x3
        simp only [upN] at l8x3d0 l8x3d1
        have c8x4 := Own.cell O8 4 rfl
        have f8x4 := Own.free O8 4 rfl
        have l8x4 := Own.lt O8 4 rfl
        have l8x4d0 := le_up 0 l8x4
        have l8x4d1 := le_up 1 l8x4
        simp only [upN] at l8x4d0 l8x4d1
        have c8x5 := Own.cell O8 5 rfl
        have f8x5 := Own.free O8 5 rfl
        have l8x5 := Own.lt O8 5 rfl
        have l8x5d0 := le_up 0 l8x5
        have l8x5d1 := le_up 1 l8x5
        simp only [upN] at l8x5d0 l8x5d1
        have c8x6 := Own.cell O8 6 rfl
        have f8x6 := Own.free O8 6 rfl
        have l8x6 := Own.lt O8 6 rfl
        have l8x6d0 := le_up 0 l8x6
        have l8x6d1 := le_up 1 l8x6
        simp only [upN] at l8x6d0 l8x6d1
        have HO8 := Lib.hid O8
        clear O8 hb8
        go_upto_region 12 with (fail)
        refine wp_name fun wn12x hwn12x => ?_
        have hOwn12x := (show Own _ wn12x by rw [hwn12x]; exact (Own.set (Own.set (Own.set (Own.set HO8.out 1 rfl (Ne1.cons (by first | omega | (simp; omega)) (Ne1.cons (by first | omega | (simp; omega)) (Ne1.cons (by first | omega | (simp; omega)) (Ne1.cons (by first | omega | (simp; omega)) (Ne1.cons (by first | omega | (simp; omega)) (Ne1.cons (by first | omega | (simp; omega)) Ne1.nil))))))) 1 rfl (Ne1.cons (by first | omega | (simp; omega)) (Ne1.cons (by first | omega | (simp; omega)) (Ne1.cons (by first | omega | (simp; omega)) (Ne1.cons (by first | omega | (simp; omega)) (Ne1.cons (by first | omega | (simp; omega)) (Ne1.cons (by first | omega | (simp; omega)) Ne1.nil))))))) 1 rfl (Ne1.cons (by first | omega | (simp; omega)) (Ne1.cons (by first | omega | (simp; omega)) (Ne1.cons (by first | omega | (simp; omega)) (Ne1.cons (by first | omega | (simp; omega)) (Ne1.cons (by first | omega | (simp; omega)) (Ne1.cons (by first | omega | (simp; omega)) Ne1.nil))))))) 1 rfl (Ne1.cons (by first | omega | (simp; omega)) (Ne1.cons (by first | omega | (simp; omega)) (Ne1.cons (by first | omega | (simp; omega)) (Ne1.cons (by first | omega | (simp; omega)) (Ne1.cons (by first | omega | (simp; omega)) (Ne1.cons (by first | omega | (simp; omega)) Ne1.nil))))))))
        try simp only [List.setIfInBounds_toArray, List.set_cons_zero, List.set_cons_succ] at hOwn12x
        have hBwn12x : Below w.heap.size w wn12x := by rw [hwn12x]; go_grown
        clear hwn12x
        have bw9 := hBwn12x
        clear c8x0 f8x0 l8x0 l8x0d0 l8x0d1 c8x1 f8x1 l8x1 l8x1d0 l8x1d1 c8x2 f8x2 l8x2 l8x2d0 l8x2d1 c8x3 f8x3 l8x3 l8x3d0 l8x3d1 c8x4 f8x4 l8x4 l8x4d0 l8x4d1 c8x5 f8x5 l8x5 l8x5d0 l8x5d1 c8x6 f8x6 l8x6 l8x6d0 l8x6d1
        have O9 := hOwn12x
        have c9x0 := Own.cell O9 0 rfl
        have f9x0 := Own.free O9 0 rfl
        have l9x0 := Own.lt O9 0 rfl
        have l9x0d0 := le_up 0 l9x0
        have l9x0d1 := le_up 1 l9x0
        simp only [upN] at l9x0d0 l9x0d1
        have c9x1 := Own.cell O9 1 rfl
        have f9x1 := Own.free O9 1 rfl
        have l9x1 := Own.lt O9 1 rfl
        have l9x1d0 := le_up 0 l9x1
        have l9x1d1 := le_up 1 l9x1
        simp only [upN] at l9x1d0 l9x1d1
        have c9x2 := Own.cell O9 2 rfl
        have f9x2 := Own.free O9 2 rfl
        have l9x2 := Own.lt O9 2 rfl
        have l9x2d0 := le_up 0 l9x2
        have l9x2d1 := le_up 1 l9x2
        simp only [upN] at l9x2d0 l9x2d1
        have c9x3 := Own.cell O9 3 rfl
        have f9x3 := Own.free O9 3 rfl
        have l9x3 := Own.lt O9 3 rfl
        have l9x3d0 := le_up 0 l9x3
        have l9x3d1 := le_up 1 l9x3
        simp only [upN] at l9x3d0 l9x3d1
        have c9x4 := Own.cell O9 4 rfl
        have f9x4 := Own.free O9 4 rfl
        have l9x4 := Own.lt O9 4 rfl
        have l9x4d0 := le_up 0 l9x4
        have l9x4d1 := le_up 1 l9x4
        simp only [upN] at l9x4d0 l9x4d1
        have c9x5 := Own.cell O9 5 rfl
        have f9x5 := Own.free O9 5 rfl
        have l9x5 := Own.lt O9 5 rfl
        have l9x5d0 := le_up 0 l9x5
        have l9x5d1 := le_up 1 l9x5
        simp only [upN] at l9x5d0 l9x5d1
        have c9x6 := Own.cell O9 6 rfl
        have f9x6 := Own.free O9 6 rfl
        have l9x6 := Own.lt O9 6 rfl
        have l9x6d0 := le_up 0 l9x6
        have l9x6d1 := le_up 1 l9x6
        simp only [upN] at l9x6d0 l9x6d1
        have HO9 := Lib.hid O9
        clear O9
        go_upto_region 6 with (fail)
        refine wp_name fun wn6x hwn6x => ?_
        have hOwn6x := (show Own _ wn6x by rw [hwn6x]; exact (Own.set HO9.out 2 rfl (Ne1.cons (by first | omega | (simp; omega)) (Ne1.cons (by first | omega | (simp; omega)) (Ne1.cons (by first | omega | (simp; omega)) (Ne1.cons (by first | omega | (simp; omega)) (Ne1.cons (by first | omega | (simp; omega)) (Ne1.cons (by first | omega | (simp; omega)) Ne1.nil))))))))
        try simp only [List.setIfInBounds_toArray, List.set_cons_zero, List.set_cons_succ] at hOwn6x
        have hBwn6x : Below w.heap.size w wn6x := by rw [hwn6x]; go_grown
        clear hwn6x
        have bw10 := hBwn6x
        clear c9x0 f9x0 l9x0 l9x0d0 l9x0d1 c9x1 f9x1 l9x1 l9x1d0 l9x1d1 c9x2 f9x2 l9x2 l9x2d0 l9x2d1 c9x3 f9x3 l9x3 l9x3d0 l9x3d1 c9x4 f9x4 l9x4 l9x4d0 l9x4d1 c9x5 f9x5 l9x5 l9x5d0 l9x5d1 c9x6 f9x6 l9x6 l9x6d0 l9x6d1
        have O10 := hOwn6x
        have c10x0 := Own.cell O10 0 rfl
        have f10x0 := Own.free O10 0 rfl
        have l10x0 := Own.lt O10 0 rfl
        have l10x0d0 := le_up 0 l10x0
        have l10x0d1 := le_up 1 l10x0
        simp only [upN] at l10x0d0 l10x0d1
        have c10x1 := Own.cell O10 1 rfl
        have f10x1 := Own.free O10 1 rfl
        have l10x1 := Own.lt O10 1 rfl
        have l10x1d0 := le_up 0 l10x1
        have l10x1d1 := le_up 1 l10x1
        simp only [upN] at l10x1d0 l10x1d1
        have c10x2 := Own.cell O10 2 rfl
        have f10x2 := Own.free O10 2 rfl
        have l10x2 := Own.lt O10 2 rfl
        have l10x2d0 := le_up 0 l10x2
        have l10x2d1 := le_up 1 l10x2
        simp only [upN] at l10x2d0 l10x2d1
        have c10x3 := Own.cell O10 3 rfl
        have f10x3 := Own.free O10 3 rfl
        have l10x3 := Own.lt O10 3 rfl
        have l10x3d0 := le_up 0 l10x3
        have l10x3d1 := le_up 1 l10x3
        simp only [upN] at l10x3d0 l10x3d1
        have c10x4 := Own.cell O10 4 rfl
        have f10x4 := Own.free O10 4 rfl
        have l10x4 := Own.lt O10 4 rfl
        have l10x4d0 := le_up 0 l10x4
        have l10x4d1 := le_up 1 l10x4
        simp only [upN] at l10x4d0 l10x4d1
        have c10x5 := Own.cell O10 5 rfl
        have f10x5 := Own.free O10 5 rfl
        have l10x5 := Own.lt O10 5 rfl
        have l10x5d0 := le_up 0 l10x5
        have l10x5d1 := le_up 1 l10x5
        simp only [upN] at l10x5d0 l10x5d1
        have c10x6 := Own.cell O10 6 rfl
        have f10x6 := Own.free O10 6 rfl
        have l10x6 := Own.lt O10 6 rfl
        have l10x6d0 := le_up 0 l10x6
        have l10x6d1 := le_up 1 l10x6
        simp only [upN] at l10x6d0 l10x6d1
        have HO10 := Lib.hid O10
        clear O10
        go_wp2_with fail
        refine ⟨⟨j, by omega, rfl, ?_, by go_grown⟩, by simp only [intOf]; omega⟩
        dsimp only; rw [hr1, hq1]; exact Own.eqv (Own.tl HO10.out) (by first | rfl | simp only [List.setIfInBounds_toArray, List.set_cons_zero, List.set_cons_succ])
      · subst hc
        rw [decide_eq_true hc2] at hge
        rw [decide_eq_true hc2, show (false || true) = true from rfl, if_pos rfl] at HR1 HQ1
        obtain rfl := HR1.out
        obtain rfl := HQ1.out
        clear HR1 HQ1
        clear hc2
        have O11 := hO
        have c11x0 := Own.cell O11 0 rfl
        have f11x0 := Own.free O11 0 rfl
        have l11x0 := Own.lt O11 0 rfl
        have l11x0d0 := le_up 0 l11x0
        have l11x0d1 := le_up 1 l11x0
        simp only [upN] at l11x0d0 l11x0d1
        have c11x1 := Own.cell O11 1 rfl
        have f11x1 := Own.free O11 1 rfl
        have l11x1 := Own.lt O11 1 rfl
        have l11x1d0 := le_up 0 l11x1
        have l11x1d1 := le_up 1 l11x1
        simp only [upN] at l11x1d0 l11x1d1
        have c11x2 := Own.cell O11 2 rfl
        have f11x2 := Own.free O11 2 rfl
        have l11x2 := Own.lt O11 2 rfl
        have l11x2d0 := le_up 0 l11x2
        have l11x2d1 := le_up 1 l11x2
        simp only [upN] at l11x2d0 l11x2d1
        have c11x3 := Own.cell O11 3 rfl
        have f11x3 := Own.free O11 3 rfl
        have l11x3 := Own.lt O11 3 rfl
        have l11x3d0 := le_up 0 l11x3
        have l11x3d1 := le_up 1 l11x3
        simp only [upN] at l11x3d0 l11x3d1
        have c11x4 := Own.cell O11 4 rfl
        have f11x4 := Own.free O11 4 rfl
        have l11x4 := Own.lt O11 4 rfl
        have l11x4d0 := le_up 0 l11x4
        have l11x4d1 := le_up 1 l11x4
        simp only [upN] at l11x4d0 l11x4d1
        have c11x5 := Own.cell O11 5 rfl
        have f11x5 := Own.free O11 5 rfl
        have l11x5 := Own.lt O11 5 rfl
        have l11x5d0 := le_up 0 l11x5
        have l11x5d1 := le_up 1 l11x5
        simp only [upN] at l11x5d0 l11x5d1
        have HO11 := Lib.hid O11
        clear O11
        have hz0 := l11x0
        have hz1 := l11x1
        have hz2 := l11x2
        have hz3 := l11x3
        have hz4 := l11x4
        have hz5 := l11x5
        go_wp2_with fail
        refine wp_region_grow w.heap.size 11 512 256 [(0, 0, 2097152, 128), (1, 0, 4194304, 4), (2, 0, 8388608, 256), (3, 6, 16777216, 12582912), (4, 9, 33554432, 18874368), (5, 16, 1048576, 33554432), (6, 32, 67108864, 1048576), (7, 32, 134217728, 1048576), (8, 0, 512, 0), (9, 383, 0, 67109376), (10, 1023, 1024, 134217728)] [(.p 0, 1), (.p 1, 3), (.p 2, 7), (.p 3, 15), (.p 4, 31), (.p 5, 63), (.p 6, 127), (.p 7, 255), (.g 8, 511), (.c 9, 1023), (.p 10, 2047)] [] _ (fun p hp => hp) (by first | omega | (simp; done) | (simp; omega)) (by kernel_rfl) (by kernel_rfl) HO11.out ?_
        refine wpG_pure (i := 0) (v := ?v12x0) rfl rfl (by rfl) (fun w hB hG K hK => ?h12x0) ?_
        case h12x0 =>
          have cx := Own.cell hG 0 rfl
          go_wp2_with fail
          exact hK _ (Below.refl _ _)
        simp only [List.set_cons_zero, List.set_cons_succ]
        refine wpG_pure (i := 1) (v := ?v12x1) rfl rfl (by rfl) (fun w hB hG K hK => ?h12x1) ?_
        case h12x1 =>
          have cx := Own.cell hG 5 rfl
          go_wp2_with fail
          exact hK _ (Below.refl _ _)
        simp only [List.set_cons_zero, List.set_cons_succ]
        refine wpG_move (i := 2) rfl rfl rfl (by rfl) rfl ?_
        simp only [List.set_cons_zero, List.set_cons_succ]
        refine wpG_pure (i := 3) (v := ?v12x3) rfl rfl (by rfl) (fun w hB hG K hK => ?h12x3) ?_
        case h12x3 =>
          go_wp2_with fail
          refine (HBI.out _).mono ?_
          rintro e wx ⟨rfl, hbx⟩
          exact hK _ hbx
        simp only [List.set_cons_zero, List.set_cons_succ]
        refine wpG_pure (i := 4) (v := ?v12x4) rfl rfl (by rfl) (fun w hB hG K hK => ?h12x4) ?_
        case h12x4 =>
          go_wp2_with fail
          refine (HT1.out _).mono ?_
          rintro e wx ⟨rfl, hbx⟩
          exact hK _ hbx
        simp only [List.set_cons_zero, List.set_cons_succ]
        refine wpG_move (i := 5) rfl rfl rfl (by rfl) rfl ?_
        simp only [List.set_cons_zero, List.set_cons_succ]
        refine wpG_pure (i := 6) (v := ?v12x6) rfl rfl (by rfl) (fun w hB hG K hK => ?h12x6) ?_
        case h12x6 =>
          go_wp2_with fail
          exact hK _ (Below.refl _ _)
        simp only [List.set_cons_zero, List.set_cons_succ]
        refine wpG_pure (i := 7) (v := ?v12x7) rfl rfl (by rfl) (fun w hB hG K hK => ?h12x7) ?_
        case h12x7 =>
          go_wp2_with fail
          exact hK _ (Below.refl _ _)
        simp only [List.set_cons_zero, List.set_cons_succ]
        refine wpG_make (i := 8) (c := ?c12x8) (t := ?t12x8) (fun b => .pointer (some ⟨b, 0, none⟩)) rfl rfl (by rfl) (fun w hB hG K hK => ?h12x8) (fun v12g1 l12g1 n12g1 => ?_)
        case h12x8 =>
          go_wp2_with fail
          exact hK
        simp only [List.set_cons_zero, List.set_cons_succ]
        try simp only [World.size_alloc, World.size_drew, World.size_setCell] at l12g1
        clear n12g1
        refine wpG_store (i := 9) (c' := ?c12x9) 0 rfl (Ne1.cons (by first | omega | (simp; omega)) (Ne1.cons (by first | omega | (simp; omega)) (Ne1.cons (by first | omega | (simp; omega)) (Ne1.cons (by first | omega | (simp; omega)) (Ne1.cons (by first | omega | (simp; omega)) (Ne1.cons (by first | omega | (simp; omega)) Ne1.nil)))))) (by first | omega | (simp; omega)) (fun p hp => List.mem_cons_of_mem _ (hp)) rfl rfl (by rfl) (fun w hB hF hG K hK => ?h12x9) ?_
        case h12x9 =>
          have cx := hF.cell
          have fx := hF.free
          go_wp2_with fail
          refine hK _ (Same.set (Same.set (Same.set (Same.set (Same.refl _ _) _ _) _ _) _ _) _ _) ?_
          exact (Blk.set (Blk.set (Blk.set (Blk.set hF _ _) _ _) _ _) _ _)
        simp only [List.set_cons_zero, List.set_cons_succ, List.setIfInBounds_toArray]
        refine wpG_assign (i := 10) rfl rfl rfl (by rfl) rfl ?_
        simp only [List.set_cons_zero, List.set_cons_succ]
        refine wpG_nil (fun w12 hb12 hG12 => ?_)
        simp only [List.append_eq, List.cons_append, List.nil_append, List.drop_succ_cons, List.drop_zero, List.drop_nil]
        have u12g1 := Own.lt hG12 0 rfl
        have O12 := Own.of hG12
        try simp only [List.setIfInBounds_toArray, List.set_cons_zero, List.set_cons_succ] at O12
        have bw12 : Below w.heap.size w w12 := Below.trans (by go_grown) (Below.mono hb12 (by first | omega | (simp; done) | (simp; omega)))
        have zw12 := Below.size hb12
        try simp only [World.size_alloc, World.size_drew, World.size_setCell] at zw12
        clear c11x0 f11x0 l11x0 l11x0d0 l11x0d1 c11x1 f11x1 l11x1 l11x1d0 l11x1d1 c11x2 f11x2 l11x2 l11x2d0 l11x2d1 c11x3 f11x3 l11x3 l11x3d0 l11x3d1 c11x4 f11x4 l11x4 l11x4d0 l11x4d1 c11x5 f11x5 l11x5 l11x5d0 l11x5d1
        have c12x0 := Own.cell O12 0 rfl
        have f12x0 := Own.free O12 0 rfl
        have l12x0 := Own.lt O12 0 rfl
        have l12x0d0 := le_up 0 l12x0
        have l12x0d1 := le_up 1 l12x0
        simp only [upN] at l12x0d0 l12x0d1
        have c12x1 := Own.cell O12 1 rfl
        have f12x1 := Own.free O12 1 rfl
        have l12x1 := Own.lt O12 1 rfl
        have l12x1d0 := le_up 0 l12x1
        have l12x1d1 := le_up 1 l12x1
        simp only [upN] at l12x1d0 l12x1d1
        have c12x2 := Own.cell O12 2 rfl
        have f12x2 := Own.free O12 2 rfl
        have l12x2 := Own.lt O12 2 rfl
        have l12x2d0 := le_up 0 l12x2
        have l12x2d1 := le_up 1 l12x2
        simp only [upN] at l12x2d0 l12x2d1
        have c12x3 := Own.cell O12 3 rfl
        have f12x3 := Own.free O12 3 rfl
        have l12x3 := Own.lt O12 3 rfl
        have l12x3d0 := le_up 0 l12x3
        have l12x3d1 := le_up 1 l12x3
        simp only [upN] at l12x3d0 l12x3d1
        have c12x4 := Own.cell O12 4 rfl
        have f12x4 := Own.free O12 4 rfl
        have l12x4 := Own.lt O12 4 rfl
        have l12x4d0 := le_up 0 l12x4
        have l12x4d1 := le_up 1 l12x4
        simp only [upN] at l12x4d0 l12x4d1
        have c12x5 := Own.cell O12 5 rfl
        have f12x5 := Own.free O12 5 rfl
        have l12x5 := Own.lt O12 5 rfl
        have l12x5d0 := le_up 0 l12x5
        have l12x5d1 := le_up 1 l12x5
        simp only [upN] at l12x5d0 l12x5d1
        have c12x6 := Own.cell O12 6 rfl
        have f12x6 := Own.free O12 6 rfl
        have l12x6 := Own.lt O12 6 rfl
        have l12x6d0 := le_up 0 l12x6
        have l12x6d1 := le_up 1 l12x6
        simp only [upN] at l12x6d0 l12x6d1
        have HO12 := Lib.hid O12
        clear O12 hb12
        go_wp2_with fail
        refine (HT2.out _).mono ?_
        rintro e w13 ⟨rfl, hb13⟩
        have O13 := Own.grow' hb13 HO12.out
        try simp only [List.setIfInBounds_toArray, List.set_cons_zero, List.set_cons_succ] at O13
        have bw13 : Below w.heap.size w w13 := Below.trans (by go_grown) (Below.mono hb13 (by first | omega | (simp; done) | (simp; omega)))
        have zw13 := Below.size hb13
        try simp only [World.size_alloc, World.size_drew, World.size_setCell] at zw13
        clear c12x0 f12x0 l12x0 l12x0d0 l12x0d1 c12x1 f12x1 l12x1 l12x1d0 l12x1d1 c12x2 f12x2 l12x2 l12x2d0 l12x2d1 c12x3 f12x3 l12x3 l12x3d0 l12x3d1 c12x4 f12x4 l12x4 l12x4d0 l12x4d1 c12x5 f12x5 l12x5 l12x5d0 l12x5d1 c12x6 f12x6 l12x6 l12x6d0 l12x6d1
        have c13x0 := Own.cell O13 0 rfl
        have f13x0 := Own.free O13 0 rfl
        have l13x0 := Own.lt O13 0 rfl
        have l13x0d0 := le_up 0 l13x0
        have l13x0d1 := le_up 1 l13x0
        simp only [upN] at l13x0d0 l13x0d1
        have c13x1 := Own.cell O13 1 rfl
        have f13x1 := Own.free O13 1 rfl
        have l13x1 := Own.lt O13 1 rfl
        have l13x1d0 := le_up 0 l13x1
        have l13x1d1 := le_up 1 l13x1
        simp only [upN] at l13x1d0 l13x1d1
        have c13x2 := Own.cell O13 2 rfl
        have f13x2 := Own.free O13 2 rfl
        have l13x2 := Own.lt O13 2 rfl
        have l13x2d0 := le_up 0 l13x2
        have l13x2d1 := le_up 1 l13x2
        simp only [upN] at l13x2d0 l13x2d1
        have c13x3 := Own.cell O13 3 rfl
        have f13x3 := Own.free O13 3 rfl
        have l13x3 := Own.lt O13 3 rfl
        have l13x3d0 := le_up 0 l13x3
        have l13x3d1 := le_up 1 l13x3
        simp only [upN] at l13x3d0 l13x3d1
        have c13x4 := Own.cell O13 4 rfl
        have f13x4 := Own.free O13 4 rfl
        have l13x4 := Own.lt O13 4 rfl
        have l13x4d0 := le_up 0 l13x4
        have l13x4d1 := le_up 1 l13x4
        simp only [upN] at l13x4d0 l13x4d1
        have c13x5 := Own.cell O13 5 rfl
        have f13x5 := Own.free O13 5 rfl
        have l13x5 := Own.lt O13 5 rfl
        have l13x5d0 := le_up 0 l13x5
        have l13x5d1 := le_up 1 l13x5
        simp only [upN] at l13x5d0 l13x5d1
        have c13x6 := Own.cell O13 6 rfl
        have f13x6 := Own.free O13 6 rfl
        have l13x6 := Own.lt O13 6 rfl
        have l13x6d0 := le_up 0 l13x6
        have l13x6d1 := le_up 1 l13x6
        simp only [upN] at l13x6d0 l13x6d1
        have HO13 := Lib.hid O13
        clear O13 hb13
        go_upto_region 9 with (fail)
        refine wp_name fun wn9y hwn9y => ?_
        have hOwn9y := (show Own _ wn9y by rw [hwn9y]; exact (Own.set (Own.set (Own.set (Own.set HO13.out 2 rfl (Ne1.cons (by first | omega | (simp; omega)) (Ne1.cons (by first | omega | (simp; omega)) (Ne1.cons (by first | omega | (simp; omega)) (Ne1.cons (by first | omega | (simp; omega)) (Ne1.cons (by first | omega | (simp; omega)) (Ne1.cons (by first | omega | (simp; omega)) Ne1.nil))))))) 2 rfl (Ne1.cons (by first | omega | (simp; omega)) (Ne1.cons (by first | omega | (simp; omega)) (Ne1.cons (by first | omega | (simp; omega)) (Ne1.cons (by first | omega | (simp; omega)) (Ne1.cons (by first | omega | (simp; omega)) (Ne1.cons (by first | omega | (simp; omega)) Ne1.nil))))))) 2 rfl (Ne1.cons (by first | omega | (simp; omega)) (Ne1.cons (by first | omega | (simp; omega)) (Ne1.cons (by first | omega | (simp; omega)) (Ne1.cons (by first | omega | (simp; omega)) (Ne1.cons (by first | omega | (simp; omega)) (Ne1.cons (by first | omega | (simp; omega)) Ne1.nil))))))) 2 rfl (Ne1.cons (by first | omega | (simp; omega)) (Ne1.cons (by first | omega | (simp; omega)) (Ne1.cons (by first | omega | (simp; omega)) (Ne1.cons (by first | omega | (simp; omega)) (Ne1.cons (by first | omega | (simp; omega)) (Ne1.cons (by first | omega | (simp; omega)) Ne1.nil))))))))
        try simp only [List.setIfInBounds_toArray, List.set_cons_zero, List.set_cons_succ] at hOwn9y
        have hBwn9y : Below w.heap.size w wn9y := by rw [hwn9y]; go_grown
        clear hwn9y
        have bw14 := hBwn9y
        clear c13x0 f13x0 l13x0 l13x0d0 l13x0d1 c13x1 f13x1 l13x1 l13x1d0 l13x1d1 c13x2 f13x2 l13x2 l13x2d0 l13x2d1 c13x3 f13x3 l13x3 l13x3d0 l13x3d1 c13x4 f13x4 l13x4 l13x4d0 l13x4d1 c13x5 f13x5 l13x5 l13x5d0 l13x5d1 c13x6 f13x6 l13x6 l13x6d0 l13x6d1
        have O14 := hOwn9y
        have c14x0 := Own.cell O14 0 rfl
        have f14x0 := Own.free O14 0 rfl
        have l14x0 := Own.lt O14 0 rfl
        have l14x0d0 := le_up 0 l14x0
        have l14x0d1 := le_up 1 l14x0
        simp only [upN] at l14x0d0 l14x0d1
        have c14x1 := Own.cell O14 1 rfl
        have f14x1 := Own.free O14 1 rfl
        have l14x1 := Own.lt O14 1 rfl
        have l14x1d0 := le_up 0 l14x1
        have l14x1d1 := le_up 1 l14x1
        simp only [upN] at l14x1d0 l14x1d1
        have c14x2 := Own.cell O14 2 rfl
        have f14x2 := Own.free O14 2 rfl
        have l14x2 := Own.lt O14 2 rfl
        have l14x2d0 := le_up 0 l14x2
        have l14x2d1 := le_up 1 l14x2
        simp only [upN] at l14x2d0 l14x2d1
        have c14x3 := Own.cell O14 3 rfl
        have f14x3 := Own.free O14 3 rfl
        have l14x3 := Own.lt O14 3 rfl
        have l14x3d0 := le_up 0 l14x3
        have l14x3d1 := le_up 1 l14x3
        simp only [upN] at l14x3d0 l14x3d1
        have c14x4 := Own.cell O14 4 rfl
        have f14x4 := Own.free O14 4 rfl
        have l14x4 := Own.lt O14 4 rfl
        have l14x4d0 := le_up 0 l14x4
        have l14x4d1 := le_up 1 l14x4
        simp only [upN] at l14x4d0 l14x4d1
        have c14x5 := Own.cell O14 5 rfl
        have f14x5 := Own.free O14 5 rfl
        have l14x5 := Own.lt O14 5 rfl
        have l14x5d0 := le_up 0 l14x5
        have l14x5d1 := le_up 1 l14x5
        simp only [upN] at l14x5d0 l14x5d1
        have c14x6 := Own.cell O14 6 rfl
        have f14x6 := Own.free O14 6 rfl
        have l14x6 := Own.lt O14 6 rfl
        have l14x6d0 := le_up 0 l14x6
        have l14x6d1 := le_up 1 l14x6
        simp only [upN] at l14x6d0 l14x6d1
        have HO14 := Lib.hid O14
        clear O14
        go_upto_region 10 with (fail)
        refine wp_name fun wn10y hwn10y => ?_
        have hOwn10y := (show Own _ wn10y by rw [hwn10y]; exact (Own.set (Own.set (Own.set (Own.set HO14.out 1 rfl (Ne1.cons (by first | omega | (simp; omega)) (Ne1.cons (by first | omega | (simp; omega)) (Ne1.cons (by first | omega | (simp; omega)) (Ne1.cons (by first | omega | (simp; omega)) (Ne1.cons (by first | omega | (simp; omega)) (Ne1.cons (by first | omega | (simp; omega)) Ne1.nil))))))) 1 rfl (Ne1.cons (by first | omega | (simp; omega)) (Ne1.cons (by first | omega | (simp; omega)) (Ne1.cons (by first | omega | (simp; omega)) (Ne1.cons (by first | omega | (simp; omega)) (Ne1.cons (by first | omega | (simp; omega)) (Ne1.cons (by first | omega | (simp; omega)) Ne1.nil))))))) 1 rfl (Ne1.cons (by first | omega | (simp; omega)) (Ne1.cons (by first | omega | (simp; omega)) (Ne1.cons (by first | omega | (simp; omega)) (Ne1.cons (by first | omega | (simp; omega)) (Ne1.cons (by first | omega | (simp; omega)) (Ne1.cons (by first | omega | (simp; omega)) Ne1.nil))))))) 1 rfl (Ne1.cons (by first | omega | (simp; omega)) (Ne1.cons (by first | omega | (simp; omega)) (Ne1.cons (by first | omega | (simp; omega)) (Ne1.cons (by first | omega | (simp; omega)) (Ne1.cons (by first | omega | (simp; omega)) (Ne1.cons (by first | omega | (simp; omega)) Ne1.nil))))))))
        try simp only [List.setIfInBounds_toArray, List.set_cons_zero, List.set_cons_succ] at hOwn10y
        have hBwn10y : Below w.heap.size w wn10y := by rw [hwn10y]; go_grown
        clear hwn10y
        have bw15 := hBwn10y
        clear c14x0 f14x0 l14x0 l14x0d0 l14x0d1 c14x1 f14x1 l14x1 l14x1d0 l14x1d1 c14x2 f14x2 l14x2 l14x2d0 l14x2d1 c14x3 f14x3 l14x3 l14x3d0 l14x3d1 c14x4 f14x4 l14x4 l14x4d0 l14x4d1 c14x5 f14x5 l14x5 l14x5d0 l14x5d1 c14x6 f14x6 l14x6 l14x6d0 l14x6d1
        have O15 := hOwn10y
        have c15x0 := Own.cell O15 0 rfl
        have f15x0 := Own.free O15 0 rfl
        have l15x0 := Own.lt O15 0 rfl
        have l15x0d0 := le_up 0 l15x0
        have l15x0d1 := le_up 1 l15x0
        simp only [upN] at l15x0d0 l15x0d1
        have c15x1 := Own.cell O15 1 rfl
        have f15x1 := Own.free O15 1 rfl
        have l15x1 := Own.lt O15 1 rfl
        have l15x1d0 := le_up 0 l15x1
        have l15x1d1 := le_up 1 l15x1
        simp only [upN] at l15x1d0 l15x1d1
        have c15x2 := Own.cell O15 2 rfl
        have f15x2 := Own.free O15 2 rfl
        have l15x2 := Own.lt O15 2 rfl
        have l15x2d0 := le_up 0 l15x2
        have l15x2d1 := le_up 1 l15x2
        simp only [upN] at l15x2d0 l15x2d1
        have c15x3 := Own.cell O15 3 rfl
        have f15x3 := Own.free O15 3 rfl
        have l15x3 := Own.lt O15 3 rfl
        have l15x3d0 := le_up 0 l15x3
        have l15x3d1 := le_up 1 l15x3
        simp only [upN] at l15x3d0 l15x3d1
        have c15x4 := Own.cell O15 4 rfl
        have f15x4 := Own.free O15 4 rfl
        have l15x4 := Own.lt O15 4 rfl
        have l15x4d0 := le_up 0 l15x4
        have l15x4d1 := le_up 1 l15x4
        simp only [upN] at l15x4d0 l15x4d1
        have c15x5 := Own.cell O15 5 rfl
        have f15x5 := Own.free O15 5 rfl
        have l15x5 := Own.lt O15 5 rfl
        have l15x5d0 := le_up 0 l15x5
        have l15x5d1 := le_up 1 l15x5
        simp only [upN] at l15x5d0 l15x5d1
        have c15x6 := Own.cell O15 6 rfl
        have f15x6 := Own.free O15 6 rfl
        have l15x6 := Own.lt O15 6 rfl
        have l15x6d0 := le_up 0 l15x6
        have l15x6d1 := le_up 1 l15x6
        simp only [upN] at l15x6d0 l15x6d1
        have HO15 := Lib.hid O15
        clear O15
        go_wp2_with fail
        refine (HOD.out _).mono ?_
        rintro e w16 ⟨rfl, hb16⟩
        have O16 := Own.grow' hb16 HO15.out
        try simp only [List.setIfInBounds_toArray, List.set_cons_zero, List.set_cons_succ] at O16
        have bw16 : Below w.heap.size w w16 := Below.trans (by go_grown) (Below.mono hb16 (by first | omega | (simp; done) | (simp; omega)))
        have zw16 := Below.size hb16
        try simp only [World.size_alloc, World.size_drew, World.size_setCell] at zw16
        clear c15x0 f15x0 l15x0 l15x0d0 l15x0d1 c15x1 f15x1 l15x1 l15x1d0 l15x1d1 c15x2 f15x2 l15x2 l15x2d0 l15x2d1 c15x3 f15x3 l15x3 l15x3d0 l15x3d1 c15x4 f15x4 l15x4 l15x4d0 l15x4d1 c15x5 f15x5 l15x5 l15x5d0 l15x5d1 c15x6 f15x6 l15x6 l15x6d0 l15x6d1
        have c16x0 := Own.cell O16 0 rfl
        have f16x0 := Own.free O16 0 rfl
        have l16x0 := Own.lt O16 0 rfl
        have l16x0d0 := le_up 0 l16x0
        have l16x0d1 := le_up 1 l16x0
        simp only [upN] at l16x0d0 l16x0d1
        have c16x1 := Own.cell O16 1 rfl
        have f16x1 := Own.free O16 1 rfl
        have l16x1 := Own.lt O16 1 rfl
        have l16x1d0 := le_up 0 l16x1
        have l16x1d1 := le_up 1 l16x1
        simp only [upN] at l16x1d0 l16x1d1
        have c16x2 := Own.cell O16 2 rfl
        have f16x2 := Own.free O16 2 rfl
        have l16x2 := Own.lt O16 2 rfl
        have l16x2d0 := le_up 0 l16x2
        have l16x2d1 := le_up 1 l16x2
        simp only [upN] at l16x2d0 l16x2d1
        have c16x3 := Own.cell O16 3 rfl
        have f16x3 := Own.free O16 3 rfl
        have l16x3 := Own.lt O16 3 rfl
        have l16x3d0 := le_up 0 l16x3
        have l16x3d1 := le_up 1 l16x3
        simp only [upN] at l16x3d0 l16x3d1
        have c16x4 := Own.cell O16 4 rfl
        have f16x4 := Own.free O16 4 rfl
        have l16x4 := Own.lt O16 4 rfl
        have l16x4d0 := le_up 0 l16x4
        have l16x4d1 := le_up 1 l16x4
        simp only [upN] at l16x4d0 l16x4d1
        have c16x5 := Own.cell O16 5 rfl
        have f16x5 := Own.free O16 5 rfl
        have l16x5 := Own.lt O16 5 rfl
        have l16x5d0 := le_up 0 l16x5
        have l16x5d1 := le_up 1 l16x5
        simp only [upN] at l16x5d0 l16x5d1
        have c16x6 := Own.cell O16 6 rfl
        have f16x6 := Own.free O16 6 rfl
        have l16x6 := Own.lt O16 6 rfl
        have l16x6d0 := le_up 0 l16x6
        have l16x6d1 := le_up 1 l16x6
        simp only [upN] at l16x6d0 l16x6d1
        have HO16 := Lib.hid O16
        clear O16 hb16
        go_wp2_with fail
        refine (HSB.out _).mono ?_
        rintro e w17 ⟨rfl, hb17⟩
        have O17 := Own.grow' hb17 HO16.out
        try simp only [List.setIfInBounds_toArray, List.set_cons_zero, List.set_cons_succ] at O17
        have bw17 : Below w.heap.size w w17 := Below.trans (by go_grown) (Below.mono hb17 (by first | omega | (simp; done) | (simp; omega)))
        have zw17 := Below.size hb17
        try simp only [World.size_alloc, World.size_drew, World.size_setCell] at zw17
        clear c16x0 f16x0 l16x0 l16x0d0 l16x0d1 c16x1 f16x1 l16x1 l16x1d0 l16x1d1 c16x2 f16x2 l16x2 l16x2d0 l16x2d1 c16x3 f16x3 l16x3 l16x3d0 l16x3d1 c16x4 f16x4 l16x4 l16x4d0 l16x4d1 c16x5 f16x5 l16x5 l16x5d0 l16x5d1 c16x6 f16x6 l16x6 l16x6d0 l16x6d1
        have c17x0 := Own.cell O17 0 rfl
        have f17x0 := Own.free O17 0 rfl
        have l17x0 := Own.lt O17 0 rfl
        have l17x0d0 := le_up 0 l17x0
        have l17x0d1 := le_up 1 l17x0
        simp only [upN] at l17x0d0 l17x0d1
        have c17x1 := Own.cell O17 1 rfl
        have f17x1 := Own.free O17 1 rfl
        have l17x1 := Own.lt O17 1 rfl
        have l17x1d0 := le_up 0 l17x1
        have l17x1d1 := le_up 1 l17x1
        simp only [upN] at l17x1d0 l17x1d1
        have c17x2 := Own.cell O17 2 rfl
        have f17x2 := Own.free O17 2 rfl
        have l17x2 := Own.lt O17 2 rfl
        have l17x2d0 := le_up 0 l17x2
        have l17x2d1 := le_up 1 l17x2
        simp only [upN] at l17x2d0 l17x2d1
        have c17x3 := Own.cell O17 3 rfl
        have f17x3 := Own.free O17 3 rfl
        have l17x3 := Own.lt O17 3 rfl
        have l17x3d0 := le_up 0 l17x3
        have l17x3d1 := le_up 1 l17x3
        simp only [upN] at l17x3d0 l17x3d1
        have c17x4 := Own.cell O17 4 rfl
        have f17x4 := Own.free O17 4 rfl
        have l17x4 := Own.lt O17 4 rfl
        have l17x4d0 := le_up 0 l17x4
        have l17x4d1 := le_up 1 l17x4
        simp only [upN] at l17x4d0 l17x4d1
        have c17x5 := Own.cell O17 5 rfl
        have f17x5 := Own.free O17 5 rfl
        have l17x5 := Own.lt O17 5 rfl
        have l17x5d0 := le_up 0 l17x5
        have l17x5d1 := le_up 1 l17x5
        simp only [upN] at l17x5d0 l17x5d1
        have c17x6 := Own.cell O17 6 rfl
        have f17x6 := Own.free O17 6 rfl
        have l17x6 := Own.lt O17 6 rfl
        have l17x6d0 := le_up 0 l17x6
        have l17x6d1 := le_up 1 l17x6
        simp only [upN] at l17x6d0 l17x6d1
        have HO17 := Lib.hid O17
        clear O17 hb17
        go_upto_region 12 with (fail)
        refine wp_name fun wn12y hwn12y => ?_
        have hOwn12y := (show Own _ wn12y by rw [hwn12y]; exact (Own.set (Own.set (Own.set (Own.set HO17.out 1 rfl (Ne1.cons (by first | omega | (simp; omega)) (Ne1.cons (by first | omega | (simp; omega)) (Ne1.cons (by first | omega | (simp; omega)) (Ne1.cons (by first | omega | (simp; omega)) (Ne1.cons (by first | omega | (simp; omega)) (Ne1.cons (by first | omega | (simp; omega)) Ne1.nil))))))) 1 rfl (Ne1.cons (by first | omega | (simp; omega)) (Ne1.cons (by first | omega | (simp; omega)) (Ne1.cons (by first | omega | (simp; omega)) (Ne1.cons (by first | omega | (simp; omega)) (Ne1.cons (by first | omega | (simp; omega)) (Ne1.cons (by first | omega | (simp; omega)) Ne1.nil))))))) 1 rfl (Ne1.cons (by first | omega | (simp; omega)) (Ne1.cons (by first | omega | (simp; omega)) (Ne1.cons (by first | omega | (simp; omega)) (Ne1.cons (by first | omega | (simp; omega)) (Ne1.cons (by first | omega | (simp; omega)) (Ne1.cons (by first | omega | (simp; omega)) Ne1.nil))))))) 1 rfl (Ne1.cons (by first | omega | (simp; omega)) (Ne1.cons (by first | omega | (simp; omega)) (Ne1.cons (by first | omega | (simp; omega)) (Ne1.cons (by first | omega | (simp; omega)) (Ne1.cons (by first | omega | (simp; omega)) (Ne1.cons (by first | omega | (simp; omega)) Ne1.nil))))))))
        try simp only [List.setIfInBounds_toArray, List.set_cons_zero, List.set_cons_succ] at hOwn12y
        have hBwn12y : Below w.heap.size w wn12y := by rw [hwn12y]; go_grown
        clear hwn12y
        have bw18 := hBwn12y
        clear c17x0 f17x0 l17x0 l17x0d0 l17x0d1 c17x1 f17x1 l17x1 l17x1d0 l17x1d1 c17x2 f17x2 l17x2 l17x2d0 l17x2d1 c17x3 f17x3 l17x3 l17x3d0 l17x3d1 c17x4 f17x4 l17x4 l17x4d0 l17x4d1 c17x5 f17x5 l17x5 l17x5d0 l17x5d1 c17x6 f17x6 l17x6 l17x6d0 l17x6d1
        have O18 := hOwn12y
        have c18x0 := Own.cell O18 0 rfl
        have f18x0 := Own.free O18 0 rfl
        have l18x0 := Own.lt O18 0 rfl
        have l18x0d0 := le_up 0 l18x0
        have l18x0d1 := le_up 1 l18x0
        simp only [upN] at l18x0d0 l18x0d1
        have c18x1 := Own.cell O18 1 rfl
        have f18x1 := Own.free O18 1 rfl
        have l18x1 := Own.lt O18 1 rfl
        have l18x1d0 := le_up 0 l18x1
        have l18x1d1 := le_up 1 l18x1
        simp only [upN] at l18x1d0 l18x1d1
        have c18x2 := Own.cell O18 2 rfl
        have f18x2 := Own.free O18 2 rfl
        have l18x2 := Own.lt O18 2 rfl
        have l18x2d0 := le_up 0 l18x2
        have l18x2d1 := le_up 1 l18x2
        simp only [upN] at l18x2d0 l18x2d1
        have c18x3 := Own.cell O18 3 rfl
        have f18x3 := Own.free O18 3 rfl
        have l18x3 := Own.lt O18 3 rfl
        have l18x3d0 := le_up 0 l18x3
        have l18x3d1 := le_up 1 l18x3
        simp only [upN] at l18x3d0 l18x3d1
        have c18x4 := Own.cell O18 4 rfl
        have f18x4 := Own.free O18 4 rfl
        have l18x4 := Own.lt O18 4 rfl
        have l18x4d0 := le_up 0 l18x4
        have l18x4d1 := le_up 1 l18x4
        simp only [upN] at l18x4d0 l18x4d1
        have c18x5 := Own.cell O18 5 rfl
        have f18x5 := Own.free O18 5 rfl
        have l18x5 := Own.lt O18 5 rfl
        have l18x5d0 := le_up 0 l18x5
        have l18x5d1 := le_up 1 l18x5
        simp only [upN] at l18x5d0 l18x5d1
        have c18x6 := Own.cell O18 6 rfl
        have f18x6 := Own.free O18 6 rfl
        have l18x6 := Own.lt O18 6 rfl
        have l18x6d0 := le_up 0 l18x6
        have l18x6d1 := le_up 1 l18x6
        simp only [upN] at l18x6d0 l18x6d1
        have HO18 := Lib.hid O18
        clear O18
        go_upto_region 6 with (fail)
        refine wp_name fun wn6y hwn6y => ?_
        have hOwn6y := (show Own _ wn6y by rw [hwn6y]; exact (Own.set HO18.out 2 rfl (Ne1.cons (by first | omega | (simp; omega)) (Ne1.cons (by first | omega | (simp; omega)) (Ne1.cons (by first | omega | (simp; omega)) (Ne1.cons (by first | omega | (simp; omega)) (Ne1.cons (by first | omega | (simp; omega)) (Ne1.cons (by first | omega | (simp; omega)) Ne1.nil))))))))
        try simp only [List.setIfInBounds_toArray, List.set_cons_zero, List.set_cons_succ] at hOwn6y
        have hBwn6y : Below w.heap.size w wn6y := by rw [hwn6y]; go_grown
        clear hwn6y
        have bw19 := hBwn6y
        clear c18x0 f18x0 l18x0 l18x0d0 l18x0d1 c18x1 f18x1 l18x1 l18x1d0 l18x1d1 c18x2 f18x2 l18x2 l18x2d0 l18x2d1 c18x3 f18x3 l18x3 l18x3d0 l18x3d1 c18x4 f18x4 l18x4 l18x4d0 l18x4d1 c18x5 f18x5 l18x5 l18x5d0 l18x5d1 c18x6 f18x6 l18x6 l18x6d0 l18x6d1
        have O19 := hOwn6y
        have c19x0 := Own.cell O19 0 rfl
        have f19x0 := Own.free O19 0 rfl
        have l19x0 := Own.lt O19 0 rfl
        have l19x0d0 := le_up 0 l19x0
        have l19x0d1 := le_up 1 l19x0
        simp only [upN] at l19x0d0 l19x0d1
        have c19x1 := Own.cell O19 1 rfl
        have f19x1 := Own.free O19 1 rfl
        have l19x1 := Own.lt O19 1 rfl
        have l19x1d0 := le_up 0 l19x1
        have l19x1d1 := le_up 1 l19x1
        simp only [upN] at l19x1d0 l19x1d1
        have c19x2 := Own.cell O19 2 rfl
        have f19x2 := Own.free O19 2 rfl
        have l19x2 := Own.lt O19 2 rfl
        have l19x2d0 := le_up 0 l19x2
        have l19x2d1 := le_up 1 l19x2
        simp only [upN] at l19x2d0 l19x2d1
        have c19x3 := Own.cell O19 3 rfl
        have f19x3 := Own.free O19 3 rfl
        have l19x3 := Own.lt O19 3 rfl
        have l19x3d0 := le_up 0 l19x3
        have l19x3d1 := le_up 1 l19x3
        simp only [upN] at l19x3d0 l19x3d1
        have c19x4 := Own.cell O19 4 rfl
        have f19x4 := Own.free O19 4 rfl
        have l19x4 := Own.lt O19 4 rfl
        have l19x4d0 := le_up 0 l19x4
        have l19x4d1 := le_up 1 l19x4
        simp only [upN] at l19x4d0 l19x4d1
        have c19x5 := Own.cell O19 5 rfl
        have f19x5 := Own.free O19 5 rfl
        have l19x5 := Own.lt O19 5 rfl
        have l19x5d0 := le_up 0 l19x5
        have l19x5d1 := le_up 1 l19x5
        simp only [upN] at l19x5d0 l19x5d1
        have c19x6 := Own.cell O19 6 rfl
        have f19x6 := Own.free O19 6 rfl
        have l19x6 := Own.lt O19 6 rfl
        have l19x6d0 := le_up 0 l19x6
        have l19x6d1 := le_up 1 l19x6
        simp only [upN] at l19x6d0 l19x6d1
        have HO19 := Lib.hid O19
        clear O19
        go_wp2_with fail
        refine ⟨⟨j, by omega, rfl, ?_, by go_grown⟩, by simp only [intOf]; omega⟩
        dsimp only; rw [hr1, hq1]; exact Own.eqv (Own.tl HO19.out) (by first | rfl | simp only [List.setIfInBounds_toArray, List.set_cons_zero, List.set_cons_succ])
      · subst hc
        rw [decide_eq_false hc2] at hge
        rw [decide_eq_false hc2, show (false || false) = false from rfl, if_neg (by simp)] at HR1 HQ1
        obtain rfl := HR1.out
        obtain rfl := HQ1.out
        clear HR1 HQ1
        clear hc2
        clear hor h1 h2 h3
        have O20 := hO
        have c20x0 := Own.cell O20 0 rfl
        have f20x0 := Own.free O20 0 rfl
        have l20x0 := Own.lt O20 0 rfl
        have l20x0d0 := le_up 0 l20x0
        have l20x0d1 := le_up 1 l20x0
        simp only [upN] at l20x0d0 l20x0d1
        have c20x1 := Own.cell O20 1 rfl
        have f20x1 := Own.free O20 1 rfl
        have l20x1 := Own.lt O20 1 rfl
        have l20x1d0 := le_up 0 l20x1
        have l20x1d1 := le_up 1 l20x1
        simp only [upN] at l20x1d0 l20x1d1
        have c20x2 := Own.cell O20 2 rfl
        have f20x2 := Own.free O20 2 rfl
        have l20x2 := Own.lt O20 2 rfl
        have l20x2d0 := le_up 0 l20x2
        have l20x2d1 := le_up 1 l20x2
        simp only [upN] at l20x2d0 l20x2d1
        have c20x3 := Own.cell O20 3 rfl
        have f20x3 := Own.free O20 3 rfl
        have l20x3 := Own.lt O20 3 rfl
        have l20x3d0 := le_up 0 l20x3
        have l20x3d1 := le_up 1 l20x3
        simp only [upN] at l20x3d0 l20x3d1
        have c20x4 := Own.cell O20 4 rfl
        have f20x4 := Own.free O20 4 rfl
        have l20x4 := Own.lt O20 4 rfl
        have l20x4d0 := le_up 0 l20x4
        have l20x4d1 := le_up 1 l20x4
        simp only [upN] at l20x4d0 l20x4d1
        have c20x5 := Own.cell O20 5 rfl
        have f20x5 := Own.free O20 5 rfl
        have l20x5 := Own.lt O20 5 rfl
        have l20x5d0 := le_up 0 l20x5
        have l20x5d1 := le_up 1 l20x5
        simp only [upN] at l20x5d0 l20x5d1
        have HO20 := Lib.hid O20
        clear O20
        have hz0 := l20x0
        have hz1 := l20x1
        have hz2 := l20x2
        have hz3 := l20x3
        have hz4 := l20x4
        have hz5 := l20x5
        go_wp2_with fail
        refine wp_region_grow w.heap.size 11 512 256 [(0, 0, 2097152, 128), (1, 0, 4194304, 4), (2, 0, 8388608, 256), (3, 6, 16777216, 12582912), (4, 9, 33554432, 18874368), (5, 16, 1048576, 33554432), (6, 32, 67108864, 1048576), (7, 32, 134217728, 1048576), (8, 0, 512, 0), (9, 383, 0, 67109376), (10, 1023, 1024, 134217728)] [(.p 0, 1), (.p 1, 3), (.p 2, 7), (.p 3, 15), (.p 4, 31), (.p 5, 63), (.p 6, 127), (.p 7, 255), (.g 8, 511), (.c 9, 1023), (.p 10, 2047)] [] _ (fun p hp => hp) (by first | omega | (simp; done) | (simp; omega)) (by kernel_rfl) (by kernel_rfl) HO20.out ?_
        refine wpG_pure (i := 0) (v := ?v21x0) rfl rfl (by rfl) (fun w hB hG K hK => ?h21x0) ?_
        case h21x0 =>
          have cx := Own.cell hG 0 rfl
          go_wp2_with fail
          exact hK _ (Below.refl _ _)
        simp only [List.set_cons_zero, List.set_cons_succ]
        refine wpG_pure (i := 1) (v := ?v21x1) rfl rfl (by rfl) (fun w hB hG K hK => ?h21x1) ?_
        case h21x1 =>
          have cx := Own.cell hG 5 rfl
          go_wp2_with fail
          exact hK _ (Below.refl _ _)
        simp only [List.set_cons_zero, List.set_cons_succ]
        refine wpG_move (i := 2) rfl rfl rfl (by rfl) rfl ?_
        simp only [List.set_cons_zero, List.set_cons_succ]
        refine wpG_pure (i := 3) (v := ?v21x3) rfl rfl (by rfl) (fun w hB hG K hK => ?h21x3) ?_
        case h21x3 =>
          go_wp2_with fail
          refine (HBI.out _).mono ?_
          rintro e wx ⟨rfl, hbx⟩
          exact hK _ hbx
        simp only [List.set_cons_zero, List.set_cons_succ]
        refine wpG_pure (i := 4) (v := ?v21x4) rfl rfl (by rfl) (fun w hB hG K hK => ?h21x4) ?_
        case h21x4 =>
          go_wp2_with fail
          refine (HT1.out _).mono ?_
          rintro e wx ⟨rfl, hbx⟩
          exact hK _ hbx
        simp only [List.set_cons_zero, List.set_cons_succ]
        refine wpG_move (i := 5) rfl rfl rfl (by rfl) rfl ?_
        simp only [List.set_cons_zero, List.set_cons_succ]
        refine wpG_pure (i := 6) (v := ?v21x6) rfl rfl (by rfl) (fun w hB hG K hK => ?h21x6) ?_
        case h21x6 =>
          go_wp2_with fail
          exact hK _ (Below.refl _ _)
        simp only [List.set_cons_zero, List.set_cons_succ]
        refine wpG_pure (i := 7) (v := ?v21x7) rfl rfl (by rfl) (fun w hB hG K hK => ?h21x7) ?_
        case h21x7 =>
          go_wp2_with fail
          exact hK _ (Below.refl _ _)
        simp only [List.set_cons_zero, List.set_cons_succ]
        refine wpG_make (i := 8) (c := ?c21x8) (t := ?t21x8) (fun b => .pointer (some ⟨b, 0, none⟩)) rfl rfl (by rfl) (fun w hB hG K hK => ?h21x8) (fun v21g1 l21g1 n21g1 => ?_)
        case h21x8 =>
          go_wp2_with fail
          exact hK
        simp only [List.set_cons_zero, List.set_cons_succ]
        try simp only [World.size_alloc, World.size_drew, World.size_setCell] at l21g1
        clear n21g1
        refine wpG_store (i := 9) (c' := ?c21x9) 0 rfl (Ne1.cons (by first | omega | (simp; omega)) (Ne1.cons (by first | omega | (simp; omega)) (Ne1.cons (by first | omega | (simp; omega)) (Ne1.cons (by first | omega | (simp; omega)) (Ne1.cons (by first | omega | (simp; omega)) (Ne1.cons (by first | omega | (simp; omega)) Ne1.nil)))))) (by first | omega | (simp; omega)) (fun p hp => List.mem_cons_of_mem _ (hp)) rfl rfl (by rfl) (fun w hB hF hG K hK => ?h21x9) ?_
        case h21x9 =>
          have cx := hF.cell
          have fx := hF.free
          go_wp2_with fail
          refine hK _ (Same.set (Same.set (Same.set (Same.set (Same.refl _ _) _ _) _ _) _ _) _ _) ?_
          exact (Blk.set (Blk.set (Blk.set (Blk.set hF _ _) _ _) _ _) _ _)
        simp only [List.set_cons_zero, List.set_cons_succ, List.setIfInBounds_toArray]
        refine wpG_assign (i := 10) rfl rfl rfl (by rfl) rfl ?_
        simp only [List.set_cons_zero, List.set_cons_succ]
        refine wpG_nil (fun w21 hb21 hG21 => ?_)
        simp only [List.append_eq, List.cons_append, List.nil_append, List.drop_succ_cons, List.drop_zero, List.drop_nil]
        have u21g1 := Own.lt hG21 0 rfl
        have O21 := Own.of hG21
        try simp only [List.setIfInBounds_toArray, List.set_cons_zero, List.set_cons_succ] at O21
        have bw21 : Below w.heap.size w w21 := Below.trans (by go_grown) (Below.mono hb21 (by first | omega | (simp; done) | (simp; omega)))
        have zw21 := Below.size hb21
        try simp only [World.size_alloc, World.size_drew, World.size_setCell] at zw21
        clear c20x0 f20x0 l20x0 l20x0d0 l20x0d1 c20x1 f20x1 l20x1 l20x1d0 l20x1d1 c20x2 f20x2 l20x2 l20x2d0 l20x2d1 c20x3 f20x3 l20x3 l20x3d0 l20x3d1 c20x4 f20x4 l20x4 l20x4d0 l20x4d1 c20x5 f20x5 l20x5 l20x5d0 l20x5d1
        have c21x0 := Own.cell O21 0 rfl
        have f21x0 := Own.free O21 0 rfl
        have l21x0 := Own.lt O21 0 rfl
        have l21x0d0 := le_up 0 l21x0
        have l21x0d1 := le_up 1 l21x0
        simp only [upN] at l21x0d0 l21x0d1
        have c21x1 := Own.cell O21 1 rfl
        have f21x1 := Own.free O21 1 rfl
        have l21x1 := Own.lt O21 1 rfl
        have l21x1d0 := le_up 0 l21x1
        have l21x1d1 := le_up 1 l21x1
        simp only [upN] at l21x1d0 l21x1d1
        have c21x2 := Own.cell O21 2 rfl
        have f21x2 := Own.free O21 2 rfl
        have l21x2 := Own.lt O21 2 rfl
        have l21x2d0 := le_up 0 l21x2
        have l21x2d1 := le_up 1 l21x2
        simp only [upN] at l21x2d0 l21x2d1
        have c21x3 := Own.cell O21 3 rfl
        have f21x3 := Own.free O21 3 rfl
        have l21x3 := Own.lt O21 3 rfl
        have l21x3d0 := le_up 0 l21x3
        have l21x3d1 := le_up 1 l21x3
        simp only [upN] at l21x3d0 l21x3d1
        have c21x4 := Own.cell O21 4 rfl
        have f21x4 := Own.free O21 4 rfl
        have l21x4 := Own.lt O21 4 rfl
        have l21x4d0 := le_up 0 l21x4
        have l21x4d1 := le_up 1 l21x4
        simp only [upN] at l21x4d0 l21x4d1
        have c21x5 := Own.cell O21 5 rfl
        have f21x5 := Own.free O21 5 rfl
        have l21x5 := Own.lt O21 5 rfl
        have l21x5d0 := le_up 0 l21x5
        have l21x5d1 := le_up 1 l21x5
        simp only [upN] at l21x5d0 l21x5d1
        have c21x6 := Own.cell O21 6 rfl
        have f21x6 := Own.free O21 6 rfl
        have l21x6 := Own.lt O21 6 rfl
        have l21x6d0 := le_up 0 l21x6
        have l21x6d1 := le_up 1 l21x6
        simp only [upN] at l21x6d0 l21x6d1
        have HO21 := Lib.hid O21
        clear O21 hb21
        go_wp2_with fail
        refine (HT2.out _).mono ?_
        rintro e w22 ⟨rfl, hb22⟩
        have O22 := Own.grow' hb22 HO21.out
        try simp only [List.setIfInBounds_toArray, List.set_cons_zero, List.set_cons_succ] at O22
        have bw22 : Below w.heap.size w w22 := Below.trans (by go_grown) (Below.mono hb22 (by first | omega | (simp; done) | (simp; omega)))
        have zw22 := Below.size hb22
        try simp only [World.size_alloc, World.size_drew, World.size_setCell] at zw22
        clear c21x0 f21x0 l21x0 l21x0d0 l21x0d1 c21x1 f21x1 l21x1 l21x1d0 l21x1d1 c21x2 f21x2 l21x2 l21x2d0 l21x2d1 c21x3 f21x3 l21x3 l21x3d0 l21x3d1 c21x4 f21x4 l21x4 l21x4d0 l21x4d1 c21x5 f21x5 l21x5 l21x5d0 l21x5d1 c21x6 f21x6 l21x6 l21x6d0 l21x6d1
        have c22x0 := Own.cell O22 0 rfl
        have f22x0 := Own.free O22 0 rfl
        have l22x0 := Own.lt O22 0 rfl
        have l22x0d0 := le_up 0 l22x0
        have l22x0d1 := le_up 1 l22x0
        simp only [upN] at l22x0d0 l22x0d1
        have c22x1 := Own.cell O22 1 rfl
        have f22x1 := Own.free O22 1 rfl
        have l22x1 := Own.lt O22 1 rfl
        have l22x1d0 := le_up 0 l22x1
        have l22x1d1 := le_up 1 l22x1
        simp only [upN] at l22x1d0 l22x1d1
        have c22x2 := Own.cell O22 2 rfl
        have f22x2 := Own.free O22 2 rfl
        have l22x2 := Own.lt O22 2 rfl
        have l22x2d0 := le_up 0 l22x2
        have l22x2d1 := le_up 1 l22x2
        simp only [upN] at l22x2d0 l22x2d1
        have c22x3 := Own.cell O22 3 rfl
        have f22x3 := Own.free O22 3 rfl
        have l22x3 := Own.lt O22 3 rfl
        have l22x3d0 := le_up 0 l22x3
        have l22x3d1 := le_up 1 l22x3
        simp only [upN] at l22x3d0 l22x3d1
        have c22x4 := Own.cell O22 4 rfl
        have f22x4 := Own.free O22 4 rfl
        have l22x4 := Own.lt O22 4 rfl
        have l22x4d0 := le_up 0 l22x4
        have l22x4d1 := le_up 1 l22x4
        simp only [upN] at l22x4d0 l22x4d1
        have c22x5 := Own.cell O22 5 rfl
        have f22x5 := Own.free O22 5 rfl
        have l22x5 := Own.lt O22 5 rfl
        have l22x5d0 := le_up 0 l22x5
        have l22x5d1 := le_up 1 l22x5
        simp only [upN] at l22x5d0 l22x5d1
        have c22x6 := Own.cell O22 6 rfl
        have f22x6 := Own.free O22 6 rfl
        have l22x6 := Own.lt O22 6 rfl
        have l22x6d0 := le_up 0 l22x6
        have l22x6d1 := le_up 1 l22x6
        simp only [upN] at l22x6d0 l22x6d1
        have HO22 := Lib.hid O22
        clear O22 hb22
        go_upto_region 9 with (fail)
        refine wp_name fun wn9z hwn9z => ?_
        have hOwn9z := (show Own _ wn9z by rw [hwn9z]; exact (Own.set (Own.set (Own.set (Own.set HO22.out 2 rfl (Ne1.cons (by first | omega | (simp; omega)) (Ne1.cons (by first | omega | (simp; omega)) (Ne1.cons (by first | omega | (simp; omega)) (Ne1.cons (by first | omega | (simp; omega)) (Ne1.cons (by first | omega | (simp; omega)) (Ne1.cons (by first | omega | (simp; omega)) Ne1.nil))))))) 2 rfl (Ne1.cons (by first | omega | (simp; omega)) (Ne1.cons (by first | omega | (simp; omega)) (Ne1.cons (by first | omega | (simp; omega)) (Ne1.cons (by first | omega | (simp; omega)) (Ne1.cons (by first | omega | (simp; omega)) (Ne1.cons (by first | omega | (simp; omega)) Ne1.nil))))))) 2 rfl (Ne1.cons (by first | omega | (simp; omega)) (Ne1.cons (by first | omega | (simp; omega)) (Ne1.cons (by first | omega | (simp; omega)) (Ne1.cons (by first | omega | (simp; omega)) (Ne1.cons (by first | omega | (simp; omega)) (Ne1.cons (by first | omega | (simp; omega)) Ne1.nil))))))) 2 rfl (Ne1.cons (by first | omega | (simp; omega)) (Ne1.cons (by first | omega | (simp; omega)) (Ne1.cons (by first | omega | (simp; omega)) (Ne1.cons (by first | omega | (simp; omega)) (Ne1.cons (by first | omega | (simp; omega)) (Ne1.cons (by first | omega | (simp; omega)) Ne1.nil))))))))
        try simp only [List.setIfInBounds_toArray, List.set_cons_zero, List.set_cons_succ] at hOwn9z
        have hBwn9z : Below w.heap.size w wn9z := by rw [hwn9z]; go_grown
        clear hwn9z
        have bw23 := hBwn9z
        clear c22x0 f22x0 l22x0 l22x0d0 l22x0d1 c22x1 f22x1 l22x1 l22x1d0 l22x1d1 c22x2 f22x2 l22x2 l22x2d0 l22x2d1 c22x3 f22x3 l22x3 l22x3d0 l22x3d1 c22x4 f22x4 l22x4 l22x4d0 l22x4d1 c22x5 f22x5 l22x5 l22x5d0 l22x5d1 c22x6 f22x6 l22x6 l22x6d0 l22x6d1
        have O23 := hOwn9z
        have c23x0 := Own.cell O23 0 rfl
        have f23x0 := Own.free O23 0 rfl
        have l23x0 := Own.lt O23 0 rfl
        have l23x0d0 := le_up 0 l23x0
        have l23x0d1 := le_up 1 l23x0
        simp only [upN] at l23x0d0 l23x0d1
        have c23x1 := Own.cell O23 1 rfl
        have f23x1 := Own.free O23 1 rfl
        have l23x1 := Own.lt O23 1 rfl
        have l23x1d0 := le_up 0 l23x1
        have l23x1d1 := le_up 1 l23x1
        simp only [upN] at l23x1d0 l23x1d1
        have c23x2 := Own.cell O23 2 rfl
        have f23x2 := Own.free O23 2 rfl
        have l23x2 := Own.lt O23 2 rfl
        have l23x2d0 := le_up 0 l23x2
        have l23x2d1 := le_up 1 l23x2
        simp only [upN] at l23x2d0 l23x2d1
        have c23x3 := Own.cell O23 3 rfl
        have f23x3 := Own.free O23 3 rfl
        have l23x3 := Own.lt O23 3 rfl
        have l23x3d0 := le_up 0 l23x3
        have l23x3d1 := le_up 1 l23x3
        simp only [upN] at l23x3d0 l23x3d1
        have c23x4 := Own.cell O23 4 rfl
        have f23x4 := Own.free O23 4 rfl
        have l23x4 := Own.lt O23 4 rfl
        have l23x4d0 := le_up 0 l23x4
        have l23x4d1 := le_up 1 l23x4
        simp only [upN] at l23x4d0 l23x4d1
        have c23x5 := Own.cell O23 5 rfl
        have f23x5 := Own.free O23 5 rfl
        have l23x5 := Own.lt O23 5 rfl
        have l23x5d0 := le_up 0 l23x5
        have l23x5d1 := le_up 1 l23x5
        simp only [upN] at l23x5d0 l23x5d1
        have c23x6 := Own.cell O23 6 rfl
        have f23x6 := Own.free O23 6 rfl
        have l23x6 := Own.lt O23 6 rfl
        have l23x6d0 := le_up 0 l23x6
        have l23x6d1 := le_up 1 l23x6
        simp only [upN] at l23x6d0 l23x6d1
        have HO23 := Lib.hid O23
        clear O23
        go_upto_region 10 with (fail)
        refine wp_name fun wn10z hwn10z => ?_
        have hOwn10z := (show Own _ wn10z by rw [hwn10z]; exact (Own.set (Own.set (Own.set (Own.set HO23.out 1 rfl (Ne1.cons (by first | omega | (simp; omega)) (Ne1.cons (by first | omega | (simp; omega)) (Ne1.cons (by first | omega | (simp; omega)) (Ne1.cons (by first | omega | (simp; omega)) (Ne1.cons (by first | omega | (simp; omega)) (Ne1.cons (by first | omega | (simp; omega)) Ne1.nil))))))) 1 rfl (Ne1.cons (by first | omega | (simp; omega)) (Ne1.cons (by first | omega | (simp; omega)) (Ne1.cons (by first | omega | (simp; omega)) (Ne1.cons (by first | omega | (simp; omega)) (Ne1.cons (by first | omega | (simp; omega)) (Ne1.cons (by first | omega | (simp; omega)) Ne1.nil))))))) 1 rfl (Ne1.cons (by first | omega | (simp; omega)) (Ne1.cons (by first | omega | (simp; omega)) (Ne1.cons (by first | omega | (simp; omega)) (Ne1.cons (by first | omega | (simp; omega)) (Ne1.cons (by first | omega | (simp; omega)) (Ne1.cons (by first | omega | (simp; omega)) Ne1.nil))))))) 1 rfl (Ne1.cons (by first | omega | (simp; omega)) (Ne1.cons (by first | omega | (simp; omega)) (Ne1.cons (by first | omega | (simp; omega)) (Ne1.cons (by first | omega | (simp; omega)) (Ne1.cons (by first | omega | (simp; omega)) (Ne1.cons (by first | omega | (simp; omega)) Ne1.nil))))))))
        try simp only [List.setIfInBounds_toArray, List.set_cons_zero, List.set_cons_succ] at hOwn10z
        have hBwn10z : Below w.heap.size w wn10z := by rw [hwn10z]; go_grown
        clear hwn10z
        have bw24 := hBwn10z
        clear c23x0 f23x0 l23x0 l23x0d0 l23x0d1 c23x1 f23x1 l23x1 l23x1d0 l23x1d1 c23x2 f23x2 l23x2 l23x2d0 l23x2d1 c23x3 f23x3 l23x3 l23x3d0 l23x3d1 c23x4 f23x4 l23x4 l23x4d0 l23x4d1 c23x5 f23x5 l23x5 l23x5d0 l23x5d1 c23x6 f23x6 l23x6 l23x6d0 l23x6d1
        have O24 := hOwn10z
        have c24x0 := Own.cell O24 0 rfl
        have f24x0 := Own.free O24 0 rfl
        have l24x0 := Own.lt O24 0 rfl
        have l24x0d0 := le_up 0 l24x0
        have l24x0d1 := le_up 1 l24x0
        simp only [upN] at l24x0d0 l24x0d1
        have c24x1 := Own.cell O24 1 rfl
        have f24x1 := Own.free O24 1 rfl
        have l24x1 := Own.lt O24 1 rfl
        have l24x1d0 := le_up 0 l24x1
        have l24x1d1 := le_up 1 l24x1
        simp only [upN] at l24x1d0 l24x1d1
        have c24x2 := Own.cell O24 2 rfl
        have f24x2 := Own.free O24 2 rfl
        have l24x2 := Own.lt O24 2 rfl
        have l24x2d0 := le_up 0 l24x2
        have l24x2d1 := le_up 1 l24x2
        simp only [upN] at l24x2d0 l24x2d1
        have c24x3 := Own.cell O24 3 rfl
        have f24x3 := Own.free O24 3 rfl
        have l24x3 := Own.lt O24 3 rfl
        have l24x3d0 := le_up 0 l24x3
        have l24x3d1 := le_up 1 l24x3
        simp only [upN] at l24x3d0 l24x3d1
        have c24x4 := Own.cell O24 4 rfl
        have f24x4 := Own.free O24 4 rfl
        have l24x4 := Own.lt O24 4 rfl
        have l24x4d0 := le_up 0 l24x4
        have l24x4d1 := le_up 1 l24x4
        simp only [upN] at l24x4d0 l24x4d1
        have c24x5 := Own.cell O24 5 rfl
        have f24x5 := Own.free O24 5 rfl
        have l24x5 := Own.lt O24 5 rfl
        have l24x5d0 := le_up 0 l24x5
        have l24x5d1 := le_up 1 l24x5
        simp only [upN] at l24x5d0 l24x5d1
        have c24x6 := Own.cell O24 6 rfl
        have f24x6 := Own.free O24 6 rfl
        have l24x6 := Own.lt O24 6 rfl
        have l24x6d0 := le_up 0 l24x6
        have l24x6d1 := le_up 1 l24x6
        simp only [upN] at l24x6d0 l24x6d1
        have HO24 := Lib.hid O24
        clear O24
        go_wp2_with fail
        refine (HOD.out _).mono ?_
        rintro e w25 ⟨rfl, hb25⟩
        have O25 := Own.grow' hb25 HO24.out
        try simp only [List.setIfInBounds_toArray, List.set_cons_zero, List.set_cons_succ] at O25
        have bw25 : Below w.heap.size w w25 := Below.trans (by go_grown) (Below.mono hb25 (by first | omega | (simp; done) | (simp; omega)))
        have zw25 := Below.size hb25
        try simp only [World.size_alloc, World.size_drew, World.size_setCell] at zw25
        clear c24x0 f24x0 l24x0 l24x0d0 l24x0d1 c24x1 f24x1 l24x1 l24x1d0 l24x1d1 c24x2 f24x2 l24x2 l24x2d0 l24x2d1 c24x3 f24x3 l24x3 l24x3d0 l24x3d1 c24x4 f24x4 l24x4 l24x4d0 l24x4d1 c24x5 f24x5 l24x5 l24x5d0 l24x5d1 c24x6 f24x6 l24x6 l24x6d0 l24x6d1
        have c25x0 := Own.cell O25 0 rfl
        have f25x0 := Own.free O25 0 rfl
        have l25x0 := Own.lt O25 0 rfl
        have l25x0d0 := le_up 0 l25x0
        have l25x0d1 := le_up 1 l25x0
        simp only [upN] at l25x0d0 l25x0d1
        have c25x1 := Own.cell O25 1 rfl
        have f25x1 := Own.free O25 1 rfl
        have l25x1 := Own.lt O25 1 rfl
        have l25x1d0 := le_up 0 l25x1
        have l25x1d1 := le_up 1 l25x1
        simp only [upN] at l25x1d0 l25x1d1
        have c25x2 := Own.cell O25 2 rfl
        have f25x2 := Own.free O25 2 rfl
        have l25x2 := Own.lt O25 2 rfl
        have l25x2d0 := le_up 0 l25x2
        have l25x2d1 := le_up 1 l25x2
        simp only [upN] at l25x2d0 l25x2d1
        have c25x3 := Own.cell O25 3 rfl
        have f25x3 := Own.free O25 3 rfl
        have l25x3 := Own.lt O25 3 rfl
        have l25x3d0 := le_up 0 l25x3
        have l25x3d1 := le_up 1 l25x3
        simp only [upN] at l25x3d0 l25x3d1
        have c25x4 := Own.cell O25 4 rfl
        have f25x4 := Own.free O25 4 rfl
        have l25x4 := Own.lt O25 4 rfl
        have l25x4d0 := le_up 0 l25x4
        have l25x4d1 := le_up 1 l25x4
        simp only [upN] at l25x4d0 l25x4d1
        have c25x5 := Own.cell O25 5 rfl
        have f25x5 := Own.free O25 5 rfl
        have l25x5 := Own.lt O25 5 rfl
        have l25x5d0 := le_up 0 l25x5
        have l25x5d1 := le_up 1 l25x5
        simp only [upN] at l25x5d0 l25x5d1
        have c25x6 := Own.cell O25 6 rfl
        have f25x6 := Own.free O25 6 rfl
        have l25x6 := Own.lt O25 6 rfl
        have l25x6d0 := le_up 0 l25x6
        have l25x6d1 := le_up 1 l25x6
        simp only [upN] at l25x6d0 l25x6d1
        have HO25 := Lib.hid O25
        clear O25 hb25
        go_wp2_with fail
        refine ⟨⟨j, by omega, rfl, ?_, by go_grown⟩, by simp only [intOf]; omega⟩
        dsimp only; rw [hr1, hq1]; exact Own.eqv (Own.tl HO25.out) (by first | rfl | simp only [List.setIfInBounds_toArray, List.set_cons_zero, List.set_cons_succ])
theorem refDivideW (a b : BitVec 256) (w : World) : Calls Tryd.prog 29 #[W a, W b] w fun e w' => e = .returned (.tuple #[W (divW a b), W (modW a b)]) ∧ Below w.heap.size w w' := by
  unfold divW modW
  by_cases h : b = 0#256
  · subst h
    rw [if_pos rfl, if_pos rfl]
    exact divide_z a w
  · rw [if_neg h, if_neg h, ← quoN_end, ← remN_end]
    exact divide_g a b w h
end
end Go.Proofs.YtoobfgahbndhjaaDoor
