/- Refunds of values without labels: they are exact, never below nought, and nought while nothing changes. Plain laws. No condition. -/
import Derived.Test.YtiglfbnicihpmaaStoreT
set_option linter.unusedVariables false
set_option linter.unusedSimpArgs false
set_option maxRecDepth 100000
namespace Go.Proofs.Ytiglfbnicihpmaa
open Go.RowKit

theorem or00 : orI 0 0 = 0 := by decide
/-- What is exact. -/
def fxK (t : Int) : Kn := ⟨t, t, t, 0⟩
theorem lab3_0 {x y z : Vl} (hx : x.l = 0) (hy : y.l = 0) (hz : z.l = 0) : lab3 x y z = 0 := by
  simp [lab3, joinL, hx, hy, hz, or00]
theorem moK_0 {x y z : Vl} (h : lab3 x y z = 0) : moK x y z = fxK (exM x y z) := by simp [moK, h, bdI, fxK]
theorem leK_0 {x y z : Vl} (h : lab3 x y z = 0) : leK x y z = fxK (exL x y z) := by simp [leK, h, bdI, fxK]
theorem sumK_fx (t m : Int) : sumK (fxK t) (fxK m) = fxK (t + m) := by simp [sumK, fxK, madeA]
theorem lowK_fx {s l : Int} (h : l ≤ s) : lowK (fxK s) (fxK l) = fxK (s - l) := by
  have e : min s l = l := by omega
  simp [lowK, fxK, madeA, e]
theorem fx_ok {t : Int} (h0 : 0 ≤ t) (h : t ≤ 1099511627776) : (fxK t).ok = true := by
  have h2 : ¬ 1099511627776 < t := by omega
  simp [Kn.ok, fxK, rightB, sorted4, h2]
theorem noW_same {x y : Vl} (h : sameW x y = true) : noW x = noW y := by
  unfold sameW at h
  have := of_decide_eq_true h
  simp [noW, this.1, this.2.1, this.2.2.1, this.2.2.2]
theorem same_no {x y : Vl} (hx : noW x = true) (hy : noW y = true) : sameW x y = true := by
  unfold noW at hx hy
  have h1 := of_decide_eq_true hx
  have h2 := of_decide_eq_true hy
  simp [sameW, h1, h2]
theorem same_trans {x y z : Vl} (h1 : sameW x y = true) (h2 : sameW y z = true) : sameW x z = true := by
  unfold sameW at *
  have h1 := of_decide_eq_true h1
  have h2 := of_decide_eq_true h2
  simp [h1, h2]
theorem same_symm {x y : Vl} (h1 : sameW x y = true) : sameW y x = true := by
  unfold sameW at *
  have h1 := of_decide_eq_true h1
  simp [h1]
/-- One change more: what is given back is never more than what is there. -/
theorem ref_step {t : Int} {x y z : Vl} (h0 : 0 ≤ t) (hi : noW x = false → noW y = true → 4800 ≤ t) : exL x y z ≤ t + exM x y z ∧ (noW x = false → noW z = true → 4800 ≤ t + exM x y z - exL x y z) := by
  have hm := exM_bd x y z
  unfold exL exM at *
  rcases h1 : sameW z y with _ | _
  · rcases h2 : sameW y x with _ | _
    · rcases h3 : noW x with _ | _ <;> rcases h4 : noW y with _ | _ <;> rcases h5 : noW z with _ | _ <;> rcases h6 : sameW z x with _ | _ <;> simp [h1, h2, h3, h4, h5, h6] at hm hi ⊢ <;> try omega
    · rcases h3 : noW x with _ | _ <;> rcases h4 : noW y with _ | _ <;> rcases h5 : noW z with _ | _ <;> simp [h1, h2, h3, h4, h5] at hm hi ⊢ <;> omega
  · have e := noW_same h1
    simp [h1] at hm ⊢
    exact ⟨h0, fun a b => hi a (by rw [← e]; exact b)⟩
theorem gR_fx {x0 : Vl} {xs : List Vl} (hx0 : x0.l = 0) (hxs : ∀ x ∈ xs, x.l = 0) (hn : xs.length ≤ 100) : ∀ k, k ≤ xs.length → (nowV x0 xs k).l = 0 ∧ ∃ t, gR x0 xs k = fxK t ∧ 0 ≤ t ∧ t ≤ 24700 * k ∧ (noW x0 = false → noW (nowV x0 xs k) = true → 4800 ≤ t)
  | 0, _ => ⟨hx0, 0, rfl, by omega, by omega, fun h1 h2 => by rw [show nowV x0 xs 0 = x0 from rfl, h1] at h2; simp at h2⟩
  | k + 1, hk => by
    obtain ⟨hl, t, e, h0, h1, h2⟩ := gR_fx hx0 hxs hn k (by omega)
    have hz : (atV xs k).l = 0 := by
      have : xs[k]? = some xs[k] := List.getElem?_eq_getElem (by omega)
      rw [atV_of this]; exact hxs _ (List.getElem_mem _)
    have hlab := lab3_0 hx0 hl hz
    obtain ⟨q1, q2⟩ := ref_step (x := x0) (y := nowV x0 xs k) (z := atV xs k) h0 h2
    have hm := exM_bd x0 (nowV x0 xs k) (atV xs k)
    have hlb := exL_bd x0 (nowV x0 xs k) (atV xs k)
    refine ⟨hz, t + exM x0 (nowV x0 xs k) (atV xs k) - exL x0 (nowV x0 xs k) (atV xs k), ?_, by omega, by omega, q2⟩
    show refK (gR x0 xs k) x0 (nowV x0 xs k) (atV xs k) = _
    unfold refK
    rw [e, moK_0 hlab, leK_0 hlab, sumK_fx, lowK_fx q1]
theorem okR_fx {x0 : Vl} {xs : List Vl} (hx0 : x0.l = 0) (hxs : ∀ x ∈ xs, x.l = 0) (hn : xs.length ≤ 100) {k : Nat} (hk : k < xs.length) : okR x0 xs k = true := by
  obtain ⟨hl, t, e, h0, h1, h2⟩ := gR_fx hx0 hxs hn k (by omega)
  have hz : (atV xs k).l = 0 := by
    have : xs[k]? = some xs[k] := List.getElem?_eq_getElem (by omega)
    rw [atV_of this]; exact hxs _ (List.getElem_mem _)
  have hlab := lab3_0 hx0 hl hz
  obtain ⟨q1, q2⟩ := ref_step (x := x0) (y := nowV x0 xs k) (z := atV xs k) h0 h2
  have hm := exM_bd x0 (nowV x0 xs k) (atV xs k)
  have hlb := exL_bd x0 (nowV x0 xs k) (atV xs k)
  unfold okR refOk addOk
  rw [e, moK_0 hlab, leK_0 hlab, sumK_fx, fx_ok h0 (by omega), fx_ok hm.1 (by omega), fx_ok (by omega) (by omega), fx_ok hlb.1 (by omega)]
  simp only [fxK, Bool.true_and, Bool.and_true, Bool.and_self, Bool.and_eq_true, decide_eq_true_eq]
  exact ⟨decide_eq_true (by omega), decide_eq_true (by omega)⟩
theorem upto_fx {x0 : Vl} {xs : List Vl} (hx0 : x0.l = 0) (hxs : ∀ x ∈ xs, x.l = 0) (hn : xs.length ≤ 100) : UptoR x0 xs xs.length :=
  ⟨Nat.le_refl _, fun j hj => okR_fx hx0 hxs hn hj, fun h => absurd h (Nat.lt_irrefl _)⟩
/-- Nothing changed: nought. -/
theorem still_fx {x0 : Vl} {xs : List Vl} (hx0 : x0.l = 0) (hxs : ∀ x ∈ xs, x.l = 0) : ∀ k, k ≤ xs.length → (∀ j, j < k → sameW (atV xs j) x0 = true) → gR x0 xs k = fxK 0 ∧ sameW (nowV x0 xs k) x0 = true ∧ (nowV x0 xs k).l = 0
  | 0, _, _ => ⟨rfl, by simp [nowV, sameW], hx0⟩
  | k + 1, hk, h => by
    obtain ⟨e, h1, hl⟩ := still_fx hx0 hxs k (by omega) fun j hj => h j (by omega)
    have hs := h k (by omega)
    have hz : (atV xs k).l = 0 := by
      have : xs[k]? = some xs[k] := List.getElem?_eq_getElem (by omega)
      rw [atV_of this]; exact hxs _ (List.getElem_mem _)
    have hlab := lab3_0 hx0 hl hz
    have hzy := same_trans hs (same_symm h1)
    refine ⟨?_, hs, hz⟩
    show refK (gR x0 xs k) x0 (nowV x0 xs k) (atV xs k) = _
    unfold refK
    rw [e, moK_0 hlab, leK_0 hlab, sumK_fx, show exM x0 (nowV x0 xs k) (atV xs k) = 0 by unfold exM; rw [if_pos hzy], show exL x0 (nowV x0 xs k) (atV xs k) = 0 by unfold exL; rw [if_pos hzy], lowK_fx (by omega)]
    rfl
/-- The cost of a change, with its bounds, is right. -/
theorem cost_right {n lo hi a : Int} (h1 : lo ≤ n) (h2 : n ≤ hi) (h0 : 0 ≤ n) (h3 : hi ≤ 1099511627776) (h4 : lo ≠ hi) (hlo : 0 ≤ lo) : bdI n lo a ≤ n ∧ n ≤ bdI n hi a ∧ bdI n hi a ≤ 1099511627776 ∧ ((a == 0) == (bdI n lo a == bdI n hi a)) = true := by
  unfold bdI
  by_cases ha : a = 0
  · simp [ha]; omega
  · have e : (a == 0) = false := by simpa using ha
    have e' : (lo == hi) = false := by simpa using h4
    simp only [if_neg ha, e, e']
    exact ⟨h1, h2, h3, rfl⟩
end Go.Proofs.Ytiglfbnicihpmaa
