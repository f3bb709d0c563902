/- Walks: the document's Part; which lists are equal. -/
import Derived.Test.YtknkepokkenokaaTagI
set_option linter.unusedVariables false
set_option linter.unusedSimpArgs false
namespace Go.Proofs.Ytknkepokkenokaa
open Go.RowKit

theorem cellsC_set : ∀ (l : List (Int × Int)) (k : Nat) (x : Int × Int), k < l.length → ((cellsC l).set (k * 2) (.int .u8 x.1)).set (k * 2 + 1) (.int .u64 x.2) = cellsC (l.set k x)
  | [], k, x, h => by simp at h
  | y :: l, 0, x, h => by simp [cellsC, cellC]
  | y :: l, k + 1, x, h => by
    have ih := cellsC_set l k x (by simpa using h)
    simp only [cellsC, cellC, List.flatMap_cons, List.set_cons_succ, List.cons_append, List.nil_append] at ih ⊢
    rw [show (k + 1) * 2 = k * 2 + 1 + 1 by omega, show k * 2 + 1 + 1 + 1 = (k * 2 + 1) + 1 + 1 by omega]
    simp only [List.set_cons_succ, ih]
def stepL (xs : List (Int × Int)) (p m k : Nat) : List (Int × Int) := (xs.drop p).take k ++ List.replicate (m - k) (0, 0)
theorem stepL_set {xs : List (Int × Int)} {p m k : Nat} {x : Int × Int} (hx : xs[p + k]? = some x) (hk : k < m) : (stepL xs p m k).set k x = stepL xs p m (k + 1) := by
  have hl : p + k < xs.length := (List.getElem?_eq_some_iff.1 hx).1
  have ht : ((xs.drop p).take k).length = k := by simp; omega
  unfold stepL
  rw [List.take_add_one, List.getElem?_drop, hx, show m - k = (m - (k + 1)) + 1 by omega, List.replicate_succ, List.append_assoc]
  conv => lhs; arg 2; rw [← ht]
  rw [List.set_append_right _ _ (by omega)]
  simp
theorem stepL_len (xs : List (Int × Int)) (p m k : Nat) (h : k ≤ m) (h2 : k ≤ xs.length - p) : (stepL xs p m k).length = m := by simp [stepL]; omega
theorem stepL_end {xs : List (Int × Int)} {p m k : Nat} (h : k = min m (xs.length - p)) : stepL xs p m k = partL xs p m := by
  unfold stepL partL
  rcases Nat.le_total m (xs.length - p) with hm | hm
  · rw [show k = m by omega, show min (xs.length - p) m = m by omega]
  · rw [show k = xs.length - p by omega, show min (xs.length - p) m = xs.length - p by omega, List.take_of_length_le (by simp), List.take_of_length_le (l := xs.drop p) (i := m) (by simp; omega)]
def PartRel (xs : List (Int × Int)) (p m : Nat) (w : World) (i : Value) (wr : World) : Prop :=
  ∃ k : Nat, k ≤ m ∧ (k = 0 ∨ k ≤ xs.length - p) ∧ i = .int .i64 k ∧ wr.ownsRow w.heap.size 55 2 (.slice (some ⟨w.heap.size, 0, none⟩) m m) m (cellsC (stepL xs p m k)) ∧ Below w.heap.size w wr
set_option maxRecDepth 20000 in
set_option maxHeartbeats 1000000 in
theorem refPart_any (A : Option Addr) (xs : List (Int × Int)) (cap p m : Nat) (w : World) (hxs : SlAt w A (cellsC xs)) (hcap : xs.length ≤ cap) (hn : xs.length ≤ 100000) (hm : m ≤ 65536) (hp : p ≤ 9223372036854775807) :
    Calls Try.prog 11 #[.slice A xs.length cap, .int .i64 p, .int .i64 m] w (Gives w (cellsC (partL xs p m)) m) := by
  obtain ⟨i0, hi, hz0, hz1, hz2⟩ := info_parts tinfo_cell
  have HX := Lib.hid hxs
  clear hxs
  generalize hln : xs.length = n at *
  go_enter Try.func11, Try.ntmps11
  go_wp2_with (first | (at_make; refine wpList_make_full _ rfl _ _ 22 rfl w.heap.size 55 i0 _ 2 under_cells hi hz0 hz1 _ _ _ _ m rfl rfl rfl rfl (by rw [hz2]; omega) (by simp only [maxLen]; omega) (Nat.le_refl _) ?_))
  intro w1 hown hgrow
  have hb1 : Below w.heap.size w w1 := (Below.refl _ _).grown hgrow (Nat.le_refl _) (fun k hk => by cases hk)
  have h2 : _ = cellsC (List.replicate m (0, 0)) := made_zero cellC #[.int .u8 0, .int .u64 0] (0, 0) rfl (by decide) m
  have hown0 : w1.ownsRow w.heap.size 55 2 (.slice (some ⟨w.heap.size, 0, none⟩) m m) m (cellsC (stepL xs p m 0)) := by
    rw [show stepL xs p m 0 = List.replicate m (0, 0) from by simp [stepL], ← h2]; exact hown
  have HO0 := Lib.hid hown0
  clear hown hgrow h2 hown0
  go_wp2_with fail
  go_loopw [8] (fun i wr => PartRel xs p m w i wr) (fun i _ => m - (intOf i).toNat)
  case atStart => exact ⟨0, Nat.zero_le _, .inl rfl, rfl, HO0.out, hb1⟩
  case round =>
    clear HO0 hb1
    obtain ⟨k, hk, hkn, rfl, hown, hb⟩ := hrel
    by_cases hlt : k < m ∧ p + k < n
    · obtain ⟨hlm, hlt⟩ := hlt
      obtain ⟨x, hx⟩ : ∃ x, xs[p + k]? = some x := ⟨xs[p + k], by simp [hln, hlt]⟩
      obtain ⟨b, off, rfl, hbl, hcell⟩ := HX.out.cell (cellsC_at (j := 0) hx (by rfl))
      have hc0 : wr.cell? ⟨b, off + (p + k) * 2, none⟩ = some (.int .u8 x.1) := (hb.cell (p := ⟨b, off + (p + k) * 2, none⟩) hbl).trans (by have := hcell ((p + k) * 2) _ (cellsC_at (j := 0) hx (by rfl)); simpa [Nat.add_assoc] using this)
      have hc1 : wr.cell? ⟨b, off + (p + k) * 2 + 1, none⟩ = some (.int .u64 x.2) := (hb.cell (p := ⟨b, off + (p + k) * 2 + 1, none⟩) hbl).trans (by have := hcell ((p + k) * 2 + 1) _ (cellsC_at (j := 1) hx (by rfl)); simpa [Nat.add_assoc] using this)
      have hlen : (stepL xs p m k).length = m := stepL_len xs p m k hk (by omega)
      have hd0 : wr.cell? ⟨w.heap.size, k * 2, none⟩ = (cellsC (stepL xs p m k))[k * 2]? := hown.cellAt (k * 2) (by omega)
      have hd1 : wr.cell? ⟨w.heap.size, k * 2 + 1, none⟩ = (cellsC (stepL xs p m k))[k * 2 + 1]? := hown.cellAt (k * 2 + 1) (by omega)
      have hf0 := hown.frozenAt (k * 2)
      have hf1 := hown.frozenAt (k * 2 + 1)
      obtain ⟨y0, hy0⟩ : ∃ y, (cellsC (stepL xs p m k))[k * 2]? = some y := ⟨_, List.getElem?_eq_getElem (by rw [cellsC_len, hlen]; omega)⟩
      obtain ⟨y1, hy1⟩ : ∃ y, (cellsC (stepL xs p m k))[k * 2 + 1]? = some y := ⟨_, List.getElem?_eq_getElem (by rw [cellsC_len, hlen]; omega)⟩
      rw [hy0] at hd0
      rw [hy1] at hd1
      have hown2 : ((wr.setCell ⟨w.heap.size, k * 2, none⟩ (.int .u8 x.1)).setCell ⟨w.heap.size, k * 2 + 1, none⟩ (.int .u64 x.2)).ownsRow w.heap.size 55 2 (.slice (some ⟨w.heap.size, 0, none⟩) m m) m (cellsC (stepL xs p m (k + 1))) := by
        rw [← stepL_set hx hlm, ← cellsC_set _ _ _ (by omega)]
        exact ((hown.stored (k * 2) _).1.stored (k * 2 + 1) _).1
      have hb2 : Below w.heap.size w ((wr.setCell ⟨w.heap.size, k * 2, none⟩ (.int .u8 x.1)).setCell ⟨w.heap.size, k * 2 + 1, none⟩ (.int .u64 x.2)) := by go_grown
      have hkn' : k + 1 ≤ xs.length - p := by omega
      have HO := Lib.hid hown2
      have HB := Lib.hid hb2
      have hlt' : ((k : Nat) : Int) < ((n : Nat) : Int) - ((p : Nat) : Int) := by omega
      clear hcell hown hb hown2 hb2 hy0 hy1
      go_wp2_with fail
      exact ⟨⟨k + 1, by omega, .inr hkn', by go_num, HO.out, HB.out⟩, by simp [intOf]; omega⟩
    · have hend : k = min m (xs.length - p) := by omega
      have hlt' : ¬ (((k : Nat) : Int) < ((m : Nat) : Int) ∧ ((k : Nat) : Int) < ((n : Nat) : Int) - ((p : Nat) : Int)) := by omega
      rw [stepL_end hend] at hown
      obtain ⟨A', c', hA, hs, hc, hT⟩ := slice_of_owns hown
      simp only [Value.slice.injEq, true_and] at hA
      obtain ⟨rfl, rfl⟩ := hA
      have HS := Lib.hid hs
      clear hown hs
      go_wp2_with fail
      all_goals go_ret
      all_goals exact ⟨_, _, rfl, HS.out, hc, hb, hT⟩
theorem refEqual_any (A A' : Option Addr) (xs ys : List (Int × Int)) (cap cap' : Nat) (w : World) (hxs : SlAt w A (cellsC xs)) (hys : SlAt w A' (cellsC ys)) (hcap : xs.length ≤ cap) (hcap' : ys.length ≤ cap') (hn : xs.length ≤ 100000) (hn' : ys.length ≤ 100000) (hl : ∀ x ∈ xs, 0 ≤ x.2) :
    Calls Try.prog 10 #[.slice A xs.length cap, .slice A' ys.length cap'] w fun e w' => e = .returned (.bool (alikeL refBelowI 18446744073709551615 xs ys)) ∧ Below w.heap.size w w' := by
  have HF := Lib.hid (refAlike_any A A' xs ys cap cap' 18446744073709551615 w hxs hys hcap hcap' hn hn' (by omega) hl)
  clear hxs hys hl
  generalize xs.length = n at *
  generalize ys.length = m at *
  go_enter Try.func10, Try.ntmps10
  go_wp2_with fail
  refine HF.out.mono ?_
  rintro e w2 ⟨rfl, hb⟩
  go_wp2_with fail
  go_ret
  exact ⟨rfl, hb⟩
end Go.Proofs.Ytknkepokkenokaa
