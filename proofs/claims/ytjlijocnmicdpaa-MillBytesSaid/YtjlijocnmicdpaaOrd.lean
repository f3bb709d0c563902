/- Which of two words is less, by the document. No condition. -/
import Derived.Test.YtjlijocnmicdpaaWoAdd
import Derived.Test.YtjlijocnmicdpaaRngC
import Derived.Test.YtjlijocnmicdpaaWdc
set_option linter.unusedVariables false
set_option linter.unusedSimpArgs false
namespace Go.Proofs.Ytjlijocnmicdpaa
open Go.RowKit

def ordW (x y : BitVec 256) : Int := if x.toNat < y.toNat then -1 else if y.toNat < x.toNat then 1 else 0
theorem wc_at (x : BitVec 256) {q : Nat} (h : q < 4) : (wc x)[q]? = some (.int .u64 (L x q)) := by
  rcases (by omega : q = 0 ∨ q = 1 ∨ q = 2 ∨ q = 3) with rfl | rfl | rfl | rfl <;> rfl
theorem ord_lt {x y : BitVec 256} {q : Nat} (hq : q < 4) (hs : ∀ j, q < j → j < 4 → L x j = L y j) (h : L x q < L y q) : x.toNat < y.toNat := by
  have hx := L_sum x
  have hy := L_sum y
  have x0 := L_lo x 0; have x1 := L_lo x 1; have x2 := L_lo x 2; have x3 := L_lo x 3
  have y0 := L_lo y 0; have y1 := L_lo y 1; have y2 := L_lo y 2; have y3 := L_lo y 3
  have x0' := L_hi x 0; have x1' := L_hi x 1; have x2' := L_hi x 2; have x3' := L_hi x 3
  have y0' := L_hi y 0; have y1' := L_hi y 1; have y2' := L_hi y 2; have y3' := L_hi y 3
  rcases (by omega : q = 0 ∨ q = 1 ∨ q = 2 ∨ q = 3) with rfl | rfl | rfl | rfl
  · have h1 := hs 1 (by omega) (by omega); have h2 := hs 2 (by omega) (by omega); have h3 := hs 3 (by omega) (by omega); omega
  · have h2 := hs 2 (by omega) (by omega); have h3 := hs 3 (by omega) (by omega); omega
  · have h3 := hs 3 (by omega) (by omega); omega
  · omega
theorem ordW_lt {x y : BitVec 256} {q : Nat} (hq : q < 4) (hs : ∀ j, q < j → j < 4 → L x j = L y j) (h : L x q < L y q) : ordW x y = -1 := by
  unfold ordW; rw [if_pos (ord_lt hq hs h)]
theorem ordW_gt {x y : BitVec 256} {q : Nat} (hq : q < 4) (hs : ∀ j, q < j → j < 4 → L x j = L y j) (h : L y q < L x q) : ordW x y = 1 := by
  have := ord_lt hq (fun j h1 h2 => (hs j h1 h2).symm) h
  unfold ordW; rw [if_neg (by omega), if_pos this]
theorem ordW_eq {x y : BitVec 256} (hs : ∀ j, j < 4 → L x j = L y j) : ordW x y = 0 := by
  have : x = y := L_ext (hs 0 (by omega)) (hs 1 (by omega)) (hs 2 (by omega)) (hs 3 (by omega))
  subst this
  unfold ordW; rw [if_neg (by omega), if_neg (by omega)]
def OrdRel (x y : BitVec 256) (w : World) (i : Value) (wr : World) : Prop :=
  ∃ k : Nat, k ≤ 4 ∧ i = .int .i64 (3 - (k : Int)) ∧ (∀ j, 4 ≤ j + k → j < 4 → L x j = L y j) ∧ Own [(w.heap.size + 1, wc y, 80), (w.heap.size, wc x, 80)] wr ∧ Below w.heap.size w wr
set_option maxRecDepth 20000 in
set_option maxHeartbeats 4000000 in
theorem refOrderW (x y : BitVec 256) (w : World) : Calls Try.prog 45 #[W x, W y] w fun e w' => e = .returned (.int .i64 (ordW x y)) ∧ Below w.heap.size w w' := by
  have HST := Lib.hid (Own.new (Own.new (Own.nil w) (c := wc x) (t := 80) w.heap.size rfl) (c := wc y) (t := 80) (w.heap.size + 1) (by simp))
  have hO := HST.out
  go_enter Try.func45, Try.ntmps45
  go_wp2_with fail
  go_loopw [5] (fun i wr => OrdRel x y w i wr) (fun i _ => (intOf i + 1).toNat)
  case atStart => exact ⟨0, Nat.zero_le _, rfl, fun j h1 h2 => by omega, HST.out, by go_grown⟩
  case round =>
    clear hO HST
    obtain ⟨k, hk, rfl, hs, hO, hb⟩ := hrel
    have HB := Lib.hid hb
    by_cases hlt : k < 4
    · obtain ⟨q, hq⟩ : ∃ q, q + k = 3 := ⟨3 - k, by omega⟩
      have hqi : (3 - (k : Int)) = (q : Int) := by omega
      have hs' : ∀ j, q < j → j < 4 → L x j = L y j := fun j h1 h2 => hs j (by omega) h2
      have HS := Lib.hid hs
      have hwx := wc_at x (show q < 4 by omega)
      have hwy := wc_at y (show q < 4 by omega)
      have hL := ordW_lt (x := x) (y := y) (show q < 4 by omega) hs'
      have hG := ordW_gt (x := x) (y := y) (show q < 4 by omega) hs'
      have HL := Lib.hid hL
      have HG := Lib.hid hG
      have hxq := L_lo x q
      have hyq := L_lo y q
      generalize hlx : L x q = lx at *
      generalize hly : L y q = ly at *
      have HO := Lib.hid hO
      clear hs hs' hb hL hG hO
      rcases (by omega : lx < ly ∨ ly < lx ∨ lx = ly) with hc | hc | hc
      · have d1 : decide (lx < ly) = true := by simpa using hc
        go_wp2_with fail
        refine wp_region_grow wr.heap.size 7 0 0 [(0, 0, 1024, 32), (1, 1, 2048, 1028), (2, 2, 4096, 2048), (3, 0, 8192, 32), (4, 8, 16384, 8200), (5, 16, 32768, 16384), (6, 36, 65536, 36864)] [(.p 0, 1), (.p 1, 3), (.p 2, 7), (.p 3, 15), (.p 4, 31), (.p 5, 63), (.p 6, 127)] [] _ (fun p hp => hp) (by first | omega | (simp; done) | (simp; omega)) (by kernel_rfl) (by kernel_rfl) HO.out ?_
        refine wpG_move (i := 0) rfl rfl rfl (by rfl) rfl ?_
        simp only [List.set_cons_zero, List.set_cons_succ]
        refine wpG_pure (i := 1) (v := ?v11x1) rfl rfl (by rfl) (fun w hB hG K hK => ?h11x1) ?_
        case h11x1 =>
          go_wp2_with fail
          exact hK _ (Below.refl _ _)
        simp only [List.set_cons_zero, List.set_cons_succ]
        refine wpG_pure (i := 2) (v := ?v11x2) rfl rfl (by rfl) (fun w hB hG K hK => ?h11x2) ?_
        case h11x2 =>
          have hcx := (hG.cell 1 rfl q).trans hwx
          have cx := Own.cell hG 1 rfl
          go_wp2_with fail
          exact hK _ (Below.refl _ _)
        simp only [List.set_cons_zero, List.set_cons_succ]
        refine wpG_move (i := 3) rfl rfl rfl (by rfl) rfl ?_
        simp only [List.set_cons_zero, List.set_cons_succ]
        refine wpG_pure (i := 4) (v := ?v11x4) rfl rfl (by rfl) (fun w hB hG K hK => ?h11x4) ?_
        case h11x4 =>
          go_wp2_with fail
          exact hK _ (Below.refl _ _)
        simp only [List.set_cons_zero, List.set_cons_succ]
        refine wpG_pure (i := 5) (v := ?v11x5) rfl rfl (by rfl) (fun w hB hG K hK => ?h11x5) ?_
        case h11x5 =>
          have hcy := (hG.cell 0 rfl q).trans hwy
          have cx := Own.cell hG 0 rfl
          go_wp2_with fail
          exact hK _ (Below.refl _ _)
        simp only [List.set_cons_zero, List.set_cons_succ]
        refine wpG_pure (i := 6) (v := ?v11x6) rfl rfl (by rfl) (fun w hB hG K hK => ?h11x6) ?_
        case h11x6 =>
          go_wp2_with fail
          exact hK _ (Below.refl _ _)
        simp only [List.set_cons_zero, List.set_cons_succ]
        refine wpG_nil (fun w11 hb11 hG11 => ?_)
        simp only [List.append_eq, List.cons_append, List.nil_append, List.drop_succ_cons, List.drop_zero, List.drop_nil]
        have O11 := Own.of hG11
        try simp only [List.setIfInBounds_toArray, List.set_cons_zero, List.set_cons_succ] at O11
        have bw11 : Below wr.heap.size wr w11 := Below.trans (by go_grown) (Below.mono hb11 (by first | omega | (simp; done) | (simp; omega)))
        have zw11 := Below.size hb11
        try simp only [World.size_alloc, World.size_drew, World.size_setCell] at zw11
        have c11x0 := Own.cell O11 0 rfl
        have f11x0 := Own.free O11 0 rfl
        have l11x0 := Own.lt O11 0 rfl
        have l11x0d0 := le_up 0 l11x0
        have l11x0d1 := le_up 1 l11x0
        simp only [upN] at l11x0d0 l11x0d1
        have c11x1 := Own.cell O11 1 rfl
        have f11x1 := Own.free O11 1 rfl
        have l11x1 := Own.lt O11 1 rfl
        have l11x1d0 := le_up 0 l11x1
        have l11x1d1 := le_up 1 l11x1
        simp only [upN] at l11x1d0 l11x1d1
        have HO11 := Lib.hid O11
        clear O11 hb11
        go_wp2_with fail
        go_ret
        rw [HL.out hc]
        exact ⟨rfl, HB.out.trans (bw11.mono HB.out.size)⟩
      · have d1 : decide (lx < ly) = false := by simp; omega
        have d2 : decide (ly < lx) = true := by simpa using hc
        go_wp2_with fail
        refine wp_region_grow wr.heap.size 7 0 0 [(0, 0, 1024, 32), (1, 1, 2048, 1028), (2, 2, 4096, 2048), (3, 0, 8192, 32), (4, 8, 16384, 8200), (5, 16, 32768, 16384), (6, 36, 65536, 36864)] [(.p 0, 1), (.p 1, 3), (.p 2, 7), (.p 3, 15), (.p 4, 31), (.p 5, 63), (.p 6, 127)] [] _ (fun p hp => hp) (by first | omega | (simp; done) | (simp; omega)) (by kernel_rfl) (by kernel_rfl) HO.out ?_
        refine wpG_move (i := 0) rfl rfl rfl (by rfl) rfl ?_
        simp only [List.set_cons_zero, List.set_cons_succ]
        refine wpG_pure (i := 1) (v := ?v21x1) rfl rfl (by rfl) (fun w hB hG K hK => ?h21x1) ?_
        case h21x1 =>
          go_wp2_with fail
          exact hK _ (Below.refl _ _)
        simp only [List.set_cons_zero, List.set_cons_succ]
        refine wpG_pure (i := 2) (v := ?v21x2) rfl rfl (by rfl) (fun w hB hG K hK => ?h21x2) ?_
        case h21x2 =>
          have hcx := (hG.cell 1 rfl q).trans hwx
          have cx := Own.cell hG 1 rfl
          go_wp2_with fail
          exact hK _ (Below.refl _ _)
        simp only [List.set_cons_zero, List.set_cons_succ]
        refine wpG_move (i := 3) rfl rfl rfl (by rfl) rfl ?_
        simp only [List.set_cons_zero, List.set_cons_succ]
        refine wpG_pure (i := 4) (v := ?v21x4) rfl rfl (by rfl) (fun w hB hG K hK => ?h21x4) ?_
        case h21x4 =>
          go_wp2_with fail
          exact hK _ (Below.refl _ _)
        simp only [List.set_cons_zero, List.set_cons_succ]
        refine wpG_pure (i := 5) (v := ?v21x5) rfl rfl (by rfl) (fun w hB hG K hK => ?h21x5) ?_
        case h21x5 =>
          have hcy := (hG.cell 0 rfl q).trans hwy
          have cx := Own.cell hG 0 rfl
          go_wp2_with fail
          exact hK _ (Below.refl _ _)
        simp only [List.set_cons_zero, List.set_cons_succ]
        refine wpG_pure (i := 6) (v := ?v21x6) rfl rfl (by rfl) (fun w hB hG K hK => ?h21x6) ?_
        case h21x6 =>
          go_wp2_with fail
          exact hK _ (Below.refl _ _)
        simp only [List.set_cons_zero, List.set_cons_succ]
        refine wpG_nil (fun w21 hb21 hG21 => ?_)
        simp only [List.append_eq, List.cons_append, List.nil_append, List.drop_succ_cons, List.drop_zero, List.drop_nil]
        have O21 := Own.of hG21
        try simp only [List.setIfInBounds_toArray, List.set_cons_zero, List.set_cons_succ] at O21
        have bw21 : Below wr.heap.size wr w21 := Below.trans (by go_grown) (Below.mono hb21 (by first | omega | (simp; done) | (simp; omega)))
        have zw21 := Below.size hb21
        try simp only [World.size_alloc, World.size_drew, World.size_setCell] at zw21
        have c21x0 := Own.cell O21 0 rfl
        have f21x0 := Own.free O21 0 rfl
        have l21x0 := Own.lt O21 0 rfl
        have l21x0d0 := le_up 0 l21x0
        have l21x0d1 := le_up 1 l21x0
        simp only [upN] at l21x0d0 l21x0d1
        have c21x1 := Own.cell O21 1 rfl
        have f21x1 := Own.free O21 1 rfl
        have l21x1 := Own.lt O21 1 rfl
        have l21x1d0 := le_up 0 l21x1
        have l21x1d1 := le_up 1 l21x1
        simp only [upN] at l21x1d0 l21x1d1
        have HO21 := Lib.hid O21
        clear O21 hb21
        go_wp2_with fail
        refine wp_region_grow w21.heap.size 7 0 0 [(0, 0, 131072, 32), (1, 1, 262144, 131076), (2, 2, 524288, 262144), (3, 0, 1048576, 32), (4, 8, 2097152, 1048584), (5, 16, 4194304, 2097152), (6, 36, 8388608, 4718592)] [(.p 0, 1), (.p 1, 3), (.p 2, 7), (.p 3, 15), (.p 4, 31), (.p 5, 63), (.p 6, 127)] [] _ (fun p hp => hp) (by first | omega | (simp; done) | (simp; omega)) (by kernel_rfl) (by kernel_rfl) HO21.out ?_
        refine wpG_move (i := 0) rfl rfl rfl (by rfl) rfl ?_
        simp only [List.set_cons_zero, List.set_cons_succ]
        refine wpG_pure (i := 1) (v := ?v22x1) rfl rfl (by rfl) (fun w hB hG K hK => ?h22x1) ?_
        case h22x1 =>
          go_wp2_with fail
          exact hK _ (Below.refl _ _)
        simp only [List.set_cons_zero, List.set_cons_succ]
        refine wpG_pure (i := 2) (v := ?v22x2) rfl rfl (by rfl) (fun w hB hG K hK => ?h22x2) ?_
        case h22x2 =>
          have hcx := (hG.cell 1 rfl q).trans hwx
          have cx := Own.cell hG 1 rfl
          go_wp2_with fail
          exact hK _ (Below.refl _ _)
        simp only [List.set_cons_zero, List.set_cons_succ]
        refine wpG_move (i := 3) rfl rfl rfl (by rfl) rfl ?_
        simp only [List.set_cons_zero, List.set_cons_succ]
        refine wpG_pure (i := 4) (v := ?v22x4) rfl rfl (by rfl) (fun w hB hG K hK => ?h22x4) ?_
        case h22x4 =>
          go_wp2_with fail
          exact hK _ (Below.refl _ _)
        simp only [List.set_cons_zero, List.set_cons_succ]
        refine wpG_pure (i := 5) (v := ?v22x5) rfl rfl (by rfl) (fun w hB hG K hK => ?h22x5) ?_
        case h22x5 =>
          have hcy := (hG.cell 0 rfl q).trans hwy
          have cx := Own.cell hG 0 rfl
          go_wp2_with fail
          exact hK _ (Below.refl _ _)
        simp only [List.set_cons_zero, List.set_cons_succ]
        refine wpG_pure (i := 6) (v := ?v22x6) rfl rfl (by rfl) (fun w hB hG K hK => ?h22x6) ?_
        case h22x6 =>
          go_wp2_with fail
          exact hK _ (Below.refl _ _)
        simp only [List.set_cons_zero, List.set_cons_succ]
        refine wpG_nil (fun w22 hb22 hG22 => ?_)
        simp only [List.append_eq, List.cons_append, List.nil_append, List.drop_succ_cons, List.drop_zero, List.drop_nil]
        have O22 := Own.of hG22
        try simp only [List.setIfInBounds_toArray, List.set_cons_zero, List.set_cons_succ] at O22
        have bw22 : Below wr.heap.size wr w22 := Below.trans (by go_grown) (Below.mono hb22 (by first | omega | (simp; done) | (simp; omega)))
        have zw22 := Below.size hb22
        try simp only [World.size_alloc, World.size_drew, World.size_setCell] at zw22
        clear c21x0 f21x0 l21x0 l21x0d0 l21x0d1 c21x1 f21x1 l21x1 l21x1d0 l21x1d1
        have c22x0 := Own.cell O22 0 rfl
        have f22x0 := Own.free O22 0 rfl
        have l22x0 := Own.lt O22 0 rfl
        have l22x0d0 := le_up 0 l22x0
        have l22x0d1 := le_up 1 l22x0
        simp only [upN] at l22x0d0 l22x0d1
        have c22x1 := Own.cell O22 1 rfl
        have f22x1 := Own.free O22 1 rfl
        have l22x1 := Own.lt O22 1 rfl
        have l22x1d0 := le_up 0 l22x1
        have l22x1d1 := le_up 1 l22x1
        simp only [upN] at l22x1d0 l22x1d1
        have HO22 := Lib.hid O22
        clear O22 hb22
        go_wp2_with fail
        go_ret
        rw [HG.out hc]
        exact ⟨rfl, HB.out.trans (bw22.mono HB.out.size)⟩
      · have d1 : decide (lx < ly) = false := by simp; omega
        have d2 : decide (ly < lx) = false := by simp; omega
        have HE := Lib.hid hc
        clear hc
        go_wp2_with fail
        refine wp_region_grow wr.heap.size 7 0 0 [(0, 0, 1024, 32), (1, 1, 2048, 1028), (2, 2, 4096, 2048), (3, 0, 8192, 32), (4, 8, 16384, 8200), (5, 16, 32768, 16384), (6, 36, 65536, 36864)] [(.p 0, 1), (.p 1, 3), (.p 2, 7), (.p 3, 15), (.p 4, 31), (.p 5, 63), (.p 6, 127)] [] _ (fun p hp => hp) (by first | omega | (simp; done) | (simp; omega)) (by kernel_rfl) (by kernel_rfl) HO.out ?_
        refine wpG_move (i := 0) rfl rfl rfl (by rfl) rfl ?_
        simp only [List.set_cons_zero, List.set_cons_succ]
        refine wpG_pure (i := 1) (v := ?v31x1) rfl rfl (by rfl) (fun w hB hG K hK => ?h31x1) ?_
        case h31x1 =>
          go_wp2_with fail
          exact hK _ (Below.refl _ _)
        simp only [List.set_cons_zero, List.set_cons_succ]
        refine wpG_pure (i := 2) (v := ?v31x2) rfl rfl (by rfl) (fun w hB hG K hK => ?h31x2) ?_
        case h31x2 =>
          have hcx := (hG.cell 1 rfl q).trans hwx
          have cx := Own.cell hG 1 rfl
          go_wp2_with fail
          exact hK _ (Below.refl _ _)
        simp only [List.set_cons_zero, List.set_cons_succ]
        refine wpG_move (i := 3) rfl rfl rfl (by rfl) rfl ?_
        simp only [List.set_cons_zero, List.set_cons_succ]
        refine wpG_pure (i := 4) (v := ?v31x4) rfl rfl (by rfl) (fun w hB hG K hK => ?h31x4) ?_
        case h31x4 =>
          go_wp2_with fail
          exact hK _ (Below.refl _ _)
        simp only [List.set_cons_zero, List.set_cons_succ]
        refine wpG_pure (i := 5) (v := ?v31x5) rfl rfl (by rfl) (fun w hB hG K hK => ?h31x5) ?_
        case h31x5 =>
          have hcy := (hG.cell 0 rfl q).trans hwy
          have cx := Own.cell hG 0 rfl
          go_wp2_with fail
          exact hK _ (Below.refl _ _)
        simp only [List.set_cons_zero, List.set_cons_succ]
        refine wpG_pure (i := 6) (v := ?v31x6) rfl rfl (by rfl) (fun w hB hG K hK => ?h31x6) ?_
        case h31x6 =>
          go_wp2_with fail
          exact hK _ (Below.refl _ _)
        simp only [List.set_cons_zero, List.set_cons_succ]
        refine wpG_nil (fun w31 hb31 hG31 => ?_)
        simp only [List.append_eq, List.cons_append, List.nil_append, List.drop_succ_cons, List.drop_zero, List.drop_nil]
        have O31 := Own.of hG31
        try simp only [List.setIfInBounds_toArray, List.set_cons_zero, List.set_cons_succ] at O31
        have bw31 : Below wr.heap.size wr w31 := Below.trans (by go_grown) (Below.mono hb31 (by first | omega | (simp; done) | (simp; omega)))
        have zw31 := Below.size hb31
        try simp only [World.size_alloc, World.size_drew, World.size_setCell] at zw31
        have c31x0 := Own.cell O31 0 rfl
        have f31x0 := Own.free O31 0 rfl
        have l31x0 := Own.lt O31 0 rfl
        have l31x0d0 := le_up 0 l31x0
        have l31x0d1 := le_up 1 l31x0
        simp only [upN] at l31x0d0 l31x0d1
        have c31x1 := Own.cell O31 1 rfl
        have f31x1 := Own.free O31 1 rfl
        have l31x1 := Own.lt O31 1 rfl
        have l31x1d0 := le_up 0 l31x1
        have l31x1d1 := le_up 1 l31x1
        simp only [upN] at l31x1d0 l31x1d1
        have HO31 := Lib.hid O31
        clear O31 hb31
        go_wp2_with fail
        refine wp_region_grow w31.heap.size 7 0 0 [(0, 0, 131072, 32), (1, 1, 262144, 131076), (2, 2, 524288, 262144), (3, 0, 1048576, 32), (4, 8, 2097152, 1048584), (5, 16, 4194304, 2097152), (6, 36, 8388608, 4718592)] [(.p 0, 1), (.p 1, 3), (.p 2, 7), (.p 3, 15), (.p 4, 31), (.p 5, 63), (.p 6, 127)] [] _ (fun p hp => hp) (by first | omega | (simp; done) | (simp; omega)) (by kernel_rfl) (by kernel_rfl) HO31.out ?_
        refine wpG_move (i := 0) rfl rfl rfl (by rfl) rfl ?_
        simp only [List.set_cons_zero, List.set_cons_succ]
        refine wpG_pure (i := 1) (v := ?v32x1) rfl rfl (by rfl) (fun w hB hG K hK => ?h32x1) ?_
        case h32x1 =>
          go_wp2_with fail
          exact hK _ (Below.refl _ _)
        simp only [List.set_cons_zero, List.set_cons_succ]
        refine wpG_pure (i := 2) (v := ?v32x2) rfl rfl (by rfl) (fun w hB hG K hK => ?h32x2) ?_
        case h32x2 =>
          have hcx := (hG.cell 1 rfl q).trans hwx
          have cx := Own.cell hG 1 rfl
          go_wp2_with fail
          exact hK _ (Below.refl _ _)
        simp only [List.set_cons_zero, List.set_cons_succ]
        refine wpG_move (i := 3) rfl rfl rfl (by rfl) rfl ?_
        simp only [List.set_cons_zero, List.set_cons_succ]
        refine wpG_pure (i := 4) (v := ?v32x4) rfl rfl (by rfl) (fun w hB hG K hK => ?h32x4) ?_
        case h32x4 =>
          go_wp2_with fail
          exact hK _ (Below.refl _ _)
        simp only [List.set_cons_zero, List.set_cons_succ]
        refine wpG_pure (i := 5) (v := ?v32x5) rfl rfl (by rfl) (fun w hB hG K hK => ?h32x5) ?_
        case h32x5 =>
          have hcy := (hG.cell 0 rfl q).trans hwy
          have cx := Own.cell hG 0 rfl
          go_wp2_with fail
          exact hK _ (Below.refl _ _)
        simp only [List.set_cons_zero, List.set_cons_succ]
        refine wpG_pure (i := 6) (v := ?v32x6) rfl rfl (by rfl) (fun w hB hG K hK => ?h32x6) ?_
        case h32x6 =>
          go_wp2_with fail
          exact hK _ (Below.refl _ _)
        simp only [List.set_cons_zero, List.set_cons_succ]
        refine wpG_nil (fun w32 hb32 hG32 => ?_)
        simp only [List.append_eq, List.cons_append, List.nil_append, List.drop_succ_cons, List.drop_zero, List.drop_nil]
        have O32 := Own.of hG32
        try simp only [List.setIfInBounds_toArray, List.set_cons_zero, List.set_cons_succ] at O32
        have bw32 : Below wr.heap.size wr w32 := Below.trans (by go_grown) (Below.mono hb32 (by first | omega | (simp; done) | (simp; omega)))
        have zw32 := Below.size hb32
        try simp only [World.size_alloc, World.size_drew, World.size_setCell] at zw32
        clear c31x0 f31x0 l31x0 l31x0d0 l31x0d1 c31x1 f31x1 l31x1 l31x1d0 l31x1d1
        have c32x0 := Own.cell O32 0 rfl
        have f32x0 := Own.free O32 0 rfl
        have l32x0 := Own.lt O32 0 rfl
        have l32x0d0 := le_up 0 l32x0
        have l32x0d1 := le_up 1 l32x0
        simp only [upN] at l32x0d0 l32x0d1
        have c32x1 := Own.cell O32 1 rfl
        have f32x1 := Own.free O32 1 rfl
        have l32x1 := Own.lt O32 1 rfl
        have l32x1d0 := le_up 0 l32x1
        have l32x1d1 := le_up 1 l32x1
        simp only [upN] at l32x1d0 l32x1d1
        have HO32 := Lib.hid O32
        clear O32 hb32
        go_wp2_with fail
        refine ⟨⟨k + 1, by omega, ?_, fun j h1 h2 => ?_, HO32.out, HB.out.trans (bw32.mono HB.out.size)⟩, by simp only [intOf]; omega⟩
        · exact congrArg (Value.int .i64) (by omega)
        · by_cases hj : j = q
          · subst hj; rw [hlx, hly]; exact HE.out
          · exact HS.out j (by omega) h2
    · obtain rfl : k = 4 := by omega
      have hE := ordW_eq (x := x) (y := y) (fun j h => hs j (by omega) h)
      clear hs hO hb
      go_wp2_with fail
      go_ret
      rw [hE]
      exact ⟨rfl, HB.out⟩
end Go.Proofs.Ytjlijocnmicdpaa
