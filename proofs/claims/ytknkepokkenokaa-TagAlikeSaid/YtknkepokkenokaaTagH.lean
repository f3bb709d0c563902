/- Walks of package tag: which lists are alike. -/
import Derived.Test.YtknkepokkenokaaTagG
set_option linter.unusedVariables false
set_option linter.unusedSimpArgs false
namespace Go.Proofs.Ytknkepokkenokaa
open Go.RowKit

def EqRel (bl : Int → Int → Bool) (up : Int) (xs ys : List (Int × Int)) (w : World) (i : Value) (wr : World) : Prop :=
  ∃ k : Nat, k ≤ xs.length ∧ i = .int .i64 k ∧ (∀ (j : Nat), j < k → ∀ x y, xs[j]? = some x → ys[j]? = some y → alikeC bl up x y = true) ∧ Below w.heap.size w wr
theorem EqRel.more {bl : Int → Int → Bool} {up : Int} {xs ys : List (Int × Int)} {k : Nat} {x y : Int × Int} (h : ∀ (j : Nat), j < k → ∀ x y, xs[j]? = some x → ys[j]? = some y → alikeC bl up x y = true)
    (hx : xs[k]? = some x) (hy : ys[k]? = some y) (hc : alikeC bl up x y = true) : ∀ (j : Nat), j < k + 1 → ∀ x y, xs[j]? = some x → ys[j]? = some y → alikeC bl up x y = true := fun j hj x' y' hx' hy' => by
  rcases Nat.lt_or_ge j k with hlt | hge
  · exact h j hlt x' y' hx' hy'
  · obtain rfl : j = k := by omega
    rw [hx] at hx'; rw [hy] at hy'
    cases hx'; cases hy'; exact hc
set_option maxRecDepth 20000 in
set_option maxHeartbeats 1000000 in
theorem equalFunc_any (bb : Nat) (up : Int) (A A' : Option Addr) (xs ys : List (Int × Int)) (cap cap' : Nat) (w : World) (hxs : SlAt w A (cellsC xs)) (hys : SlAt w A' (cellsC ys)) (hcap : xs.length ≤ cap) (hcap' : ys.length ≤ cap') (hn : xs.length ≤ 100000) (hn' : ys.length ≤ 100000)
    (hup : w.cell? ⟨bb, 0, none⟩ = some (.int .u64 up)) :
    Calls Try.prog 45 #[.slice A xs.length cap, .slice A' ys.length cap', .func (.func 46) #[] #[.pointer (some ⟨bb, 0, none⟩)]] w
      fun e w' => e = .returned (.bool (alikeL belowI up xs ys)) ∧ Below w.heap.size w w' := by
  have HX := Lib.hid hxs
  have HY := Lib.hid hys
  have HU := Lib.hid hup
  clear hxs hys hup
  generalize hln : xs.length = n at *
  generalize hlm : ys.length = m at *
  by_cases hnm : n = m
  · subst hnm
    go_enter Try.func45, Try.ntmps45
    go_wp2_with fail
    go_loopw [17] (fun i wr => EqRel belowI up xs ys w i wr) (fun i _ => n - (intOf i).toNat)
    case atStart => exact ⟨0, Nat.zero_le _, rfl, fun j hj => absurd hj (by omega), Below.refl _ _⟩
    case round =>
      obtain ⟨k, hk, rfl, hno, hb⟩ := hrel
      have HN := Lib.hid hno
      clear hno
      by_cases hlt : k < n
      · obtain ⟨x, hx⟩ : ∃ x, xs[k]? = some x := ⟨xs[k], by simp [hln, hlt]⟩
        obtain ⟨y, hy⟩ : ∃ y, ys[k]? = some y := ⟨ys[k], by simp [hlm, hlt]⟩
        obtain ⟨b, off, rfl, hbl, hcell⟩ := HX.out.cell (cellsC_at (j := 0) hx (by rfl))
        obtain ⟨b', off', rfl, hbl', hcell'⟩ := HY.out.cell (cellsC_at (j := 0) hy (by rfl))
        have hc0 : wr.cell? ⟨b, off + k * 2, none⟩ = some (.int .u8 x.1) := (hb.cell (p := ⟨b, off + k * 2, none⟩) hbl).trans (by have := hcell (k * 2) _ (cellsC_at (j := 0) hx (by rfl)); simpa [Nat.add_assoc] using this)
        have hc1 : wr.cell? ⟨b, off + k * 2 + 1, none⟩ = some (.int .u64 x.2) := (hb.cell (p := ⟨b, off + k * 2 + 1, none⟩) hbl).trans (by have := hcell (k * 2 + 1) _ (cellsC_at (j := 1) hx (by rfl)); simpa [Nat.add_assoc] using this)
        have hd0 : wr.cell? ⟨b', off' + k * 2, none⟩ = some (.int .u8 y.1) := (hb.cell (p := ⟨b', off' + k * 2, none⟩) hbl').trans (by have := hcell' (k * 2) _ (cellsC_at (j := 0) hy (by rfl)); simpa [Nat.add_assoc] using this)
        have hd1 : wr.cell? ⟨b', off' + k * 2 + 1, none⟩ = some (.int .u64 y.2) := (hb.cell (p := ⟨b', off' + k * 2 + 1, none⟩) hbl').trans (by have := hcell' (k * 2 + 1) _ (cellsC_at (j := 1) hy (by rfl)); simpa [Nat.add_assoc] using this)
        have hsz := hb.size
        have hbw : b < wr.heap.size := Nat.lt_of_lt_of_le hbl hsz
        have hbw' : b' < wr.heap.size := Nat.lt_of_lt_of_le hbl' hsz
        have hd0' : ∀ o : Obj, (wr.alloc o).cell? ⟨b', off' + k * 2, none⟩ = some (.int .u8 y.1) := fun o => kept (World.below_alloc _ o) hd0
        have hd1' : ∀ o : Obj, (wr.alloc o).cell? ⟨b', off' + k * 2 + 1, none⟩ = some (.int .u64 y.2) := fun o => kept (World.below_alloc _ o) hd1
        have hu1 : ∀ o1 o2 : Obj, ((wr.alloc o1).alloc o2).cell? ⟨bb, 0, none⟩ = some (.int .u64 up) := fun o1 o2 => kept (World.below_alloc _ o2) (kept (World.below_alloc _ o1) ((hb.cell (World.block_lt_of_cell? w ⟨bb, 0, none⟩ HU.out)).trans HU.out))
        have HU1 := Lib.hid hu1
        clear hcell hcell' hu1
        cases hal : alikeC belowI up x y with
        | true =>
          have hno' := EqRel.more HN.out hx hy hal
          have HN' := Lib.hid hno'
          have HC := Lib.hid fun W (hW : W.cell? ⟨bb, 0, none⟩ = some (.int .u64 up)) => alike1_any bb x.1 x.2 y.1 y.2 up W hW
          rw [hal] at HC
          clear hno'
          go_wp2_with fail
          refine (HC.out _ (HU1.out _ _)).mono ?_
          rintro e w2 ⟨rfl, hb2⟩
          have hbw2 := ((hb.alloc hb.size (.cells #[.int .u8 x.1, .int .u64 x.2] 55)).alloc (by simp; omega) (.cells #[.int .u8 y.1, .int .u64 y.2] 55)).trans (hb2.mono (by simp; omega))
          clear hb2 hb hc0 hc1 hd0 hd1 hd0' hd1'
          go_wp2_with fail
          exact ⟨⟨k + 1, by omega, by go_num, HN'.out, hbw2⟩, by simp [intOf]; omega⟩
        | false =>
          have hal' := alikeL_false k x y hx hy hal
          have HN' := Lib.hid hal'
          have HC := Lib.hid fun W (hW : W.cell? ⟨bb, 0, none⟩ = some (.int .u64 up)) => alike1_any bb x.1 x.2 y.1 y.2 up W hW
          rw [hal] at HC
          clear hal'
          go_wp2_with fail
          refine (HC.out _ (HU1.out _ _)).mono ?_
          rintro e w2 ⟨rfl, hb2⟩
          have hbw2 := ((hb.alloc hb.size (.cells #[.int .u8 x.1, .int .u64 x.2] 55)).alloc (by simp; omega) (.cells #[.int .u8 y.1, .int .u64 y.2] 55)).trans (hb2.mono (by simp; omega))
          clear hb2 hb hc0 hc1 hd0 hd1 hd0' hd1'
          go_wp2_with fail
          go_ret
          exact ⟨by rw [HN'.out]; rfl, hbw2⟩
      · obtain rfl : k = n := by omega
        have hal := alikeL_true (bl := belowI) (up := up) (hln.trans hlm.symm) (fun j x y hx hy => HN.out j (by rw [← hln]; exact (List.getElem?_eq_some_iff.1 hx).1) x y hx hy)
        have HA := Lib.hid hal
        clear hal
        go_wp2_with fail
        go_ret
        exact ⟨by rw [HA.out]; rfl, hb⟩
  · have hal := alikeL_len (bl := belowI) (up := up) (xs := xs) (ys := ys) (by omega)
    have HA := Lib.hid hal
    have hd : ¬ ((n : Nat) : Int) = ((m : Nat) : Int) := by omega
    clear hal
    go_enter Try.func45, Try.ntmps45
    go_wp2_with fail
    go_ret
    exact ⟨by rw [HA.out]; rfl, Below.refl _ _⟩
end Go.Proofs.Ytknkepokkenokaa
