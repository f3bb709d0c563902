/- The law GaugeHolds: what it comes to. -/
import Derived.Test.YtjmplababaejaaaGaugeHo
import Derived.Test.YtjmplababaejaaaGaugeHq
import Derived.Test.YtjmplababaejaaaGaugeHr
import Derived.Test.YtjmplababaejaaaGaugeHs
import Derived.Test.YtjmplababaejaaaGaugeHu
set_option linter.unusedVariables false
set_option linter.unusedSimpArgs false
namespace Go.Proofs.Ytjmplababaejaaa
open Go.RowKit

theorem gholds_any (g h c d : Kn) (m : Int) (w : World) (ug : U g.l ∧ U g.lo ∧ U g.hi ∧ U g.a) (uc : U c.l ∧ U c.lo ∧ U c.hi ∧ U c.a) (um : U m) :
    Calls Try.prog 4 #[.agg #[.int .u64 g.l, .int .u64 g.lo, .int .u64 g.hi, .int .u64 g.a, .int .u64 h.l, .int .u64 h.lo, .int .u64 h.hi, .int .u64 h.a], .agg #[.int .u64 c.l, .int .u64 c.lo, .int .u64 c.hi, .int .u64 c.a, .int .u64 d.l, .int .u64 d.lo, .int .u64 d.hi, .int .u64 d.a], .int .u64 m] w fun e w' => e = .returned (.bool true) ∧ Below w.heap.size w w' := by
  obtain ⟨u, hu⟩ : ∃ u, bits .and .u64 g.a 5 = u := ⟨_, rfl⟩
  have uu : U u := hu ▸ and_u ug.2.2.2
  obtain ⟨hl, hl1, hl0⟩ : ∃ hl, (bits .andNot .u64 g.a u = 0 → hl = g.l) ∧ (¬ bits .andNot .u64 g.a u = 0 → hl = h.l) := ⟨if bits .andNot .u64 g.a u = 0 then g.l else h.l, fun e => if_pos e, fun e => if_neg e⟩
  obtain ⟨dl, dl1, dl0⟩ : ∃ dl, (bits .andNot .u64 c.a u = 0 → dl = c.l) ∧ (¬ bits .andNot .u64 c.a u = 0 → dl = d.l) := ⟨if bits .andNot .u64 c.a u = 0 then c.l else d.l, fun e => if_pos e, fun e => if_neg e⟩
  have k1 := fun (V : World) (b : Nat) hb => check2_any g c b 40 V hb
  have k2 := fun (V : World) (b : Nat) hb => check1_any ⟨hl, g.lo, g.hi, g.a⟩ ⟨dl, c.lo, c.hi, c.a⟩ b 40 V hb
  rcases hgc : g.ok && c.ok with _ | _
  · simp only [hgc, Bool.false_eq_true, if_false] at k1
    exact gholds_1 g h c d m u hl dl w hu hl1 hl0 dl1 dl0 k1
  simp only [hgc, if_true] at k1
  rcases hhd : (⟨hl, g.lo, g.hi, g.a⟩ : Kn).ok && (⟨dl, c.lo, c.hi, c.a⟩ : Kn).ok with _ | _
  · simp only [hhd, Bool.false_eq_true, if_false] at k2
    exact gholds_2 g h c d m u hl dl w hu hl1 hl0 dl1 dl0 k1 k2
  simp only [hhd, if_true] at k2
  by_cases hm : 1099511627776 < m
  · exact gholds_3 g h c d m u hl dl w hu hl1 hl0 dl1 dl0 k1 k2 (decide_eq_true hm)
  have d5 : decide (1099511627776 < m) = false := decide_eq_false hm
  obtain ⟨hg, hc⟩ : g.ok = true ∧ c.ok = true := by simpa using hgc
  obtain ⟨hh, hd⟩ : (⟨hl, g.lo, g.hi, g.a⟩ : Kn).ok = true ∧ (⟨dl, c.lo, c.hi, c.a⟩ : Kn).ok = true := by simpa using hhd
  have g1 := (ok_iff g).1 hg
  have c1 := (ok_iff c).1 hc
  have t1 := fun V : World => take_right g c V hgc ⟨ug.2.1.1, uc.2.1.1⟩ ug.2.2.2
  have t2 := fun V : World => take_right ⟨hl, g.lo, g.hi, g.a⟩ ⟨dl, c.lo, c.hi, c.a⟩ V hhd ⟨ug.2.1.1, uc.2.1.1⟩ ug.2.2.2
  have hb : takeG ⟨hl, g.lo, g.hi, g.a⟩ ⟨dl, c.lo, c.hi, c.a⟩ = ⟨(takeG ⟨hl, g.lo, g.hi, g.a⟩ ⟨dl, c.lo, c.hi, c.a⟩).l, (takeG g c).lo, (takeG g c).hi, (takeG g c).a⟩ := by
    unfold takeG; dsimp only; split <;> rfl
  have hk : takeK ⟨hl, g.lo, g.hi, g.a⟩ ⟨dl, c.lo, c.hi, c.a⟩ = takeK g c := rfl
  rw [hb, hk] at t2
  have s1 := fun V : World => split_any g m V ug.2.1.1 um.1
  have s2 := fun V : World => split_any ⟨hl, g.lo, g.hi, g.a⟩ m V ug.2.1.1 um.1
  have dm : decide (m ≤ 1099511627776) = true := decide_eq_true (by omega)
  unfold splitVal at s1 s2
  simp only [hg, hh, dm, Bool.and_self, if_true] at s1 s2
  have hpq := part_ok (m := m) hg ug.2.1.1 um.1
  have hps := part_same (m := m) (u := u) hg hh ug.2.1.1 hl1
  have a1 := fun V : World => alike_true (take_same hg hc hh hd ug.2.2.2 uc.2.2.2 uu hl1 dl1) V
  have a2 := fun V : World => alike_true (a := ⟨pt g.l m, pt g.lo m, pt g.hi m, madeA (pt g.lo m) (pt g.hi m) g.a⟩) hps.1 V
  have a3 := fun V : World => alike_true (a := ⟨g.l - pt g.l m, g.lo - pt g.lo m, g.hi - pt g.hi m, madeA (g.lo - pt g.lo m) (g.hi - pt g.hi m) g.a⟩) hps.2 V
  have e1 := fun V : World => check0_any (takeG g c) V (take_ok hg hc ug.2.1.1 uc.2.1.1 ug.2.2.2 uc.2.2.2)
  have e2 := fun V : World => check0_any _ V hpq.1
  have e3 := fun V : World => check0_any _ V hpq.2
  have hw : IntKind.u64.wrap (pt g.l m + (g.l - pt g.l m)) = g.l := by
    have := ug.1.1; have := ug.1.2
    rw [IntWalk.u64_in _ (by omega)]; omega
  by_cases ga : g.a = 0
  · by_cases ca : c.a = 0
    · have gq := g1.2.1 ga
      have cq := c1.2.1 ca
      refine gholds_6 g h c d m u hl dl (takeG g c) ⟨pt g.l m, pt g.lo m, pt g.hi m, madeA (pt g.lo m) (pt g.hi m) g.a⟩ ⟨g.l - pt g.l m, g.lo - pt g.lo m, g.hi - pt g.hi m, madeA (g.lo - pt g.lo m) (g.hi - pt g.hi m) g.a⟩ _ _ _ (takeK g c) w hu hl1 hl0 dl1 dl0 k1 k2 t1 t2 s1 s2 a1 a2 a3 e1 e2 e3 d5 hw (decide_eq_true ga) (decide_eq_true ca) (decide_eq_false ?_) _ rfl ?_
      · unfold takeK; split
        · decide
        · split
          · decide
          · omega
      · rw [Bool.eq_iff_iff]
        simp only [decide_eq_true_eq]
        unfold takeK; split
        · exact ⟨fun _ => rfl, fun _ => by omega⟩
        · split
          · exact ⟨fun _ => by omega, fun h => absurd h (by decide)⟩
          · omega
    · exact gholds_5 g h c d m u hl dl (takeG g c) ⟨pt g.l m, pt g.lo m, pt g.hi m, madeA (pt g.lo m) (pt g.hi m) g.a⟩ ⟨g.l - pt g.l m, g.lo - pt g.lo m, g.hi - pt g.hi m, madeA (g.lo - pt g.lo m) (g.hi - pt g.hi m) g.a⟩ _ _ _ (takeK g c) w hu hl1 hl0 dl1 dl0 k1 k2 t1 t2 s1 s2 a1 a2 a3 e1 e2 e3 d5 hw (decide_eq_true ga) (decide_eq_false ca)
  · exact gholds_4 g h c d m u hl dl (takeG g c) ⟨pt g.l m, pt g.lo m, pt g.hi m, madeA (pt g.lo m) (pt g.hi m) g.a⟩ ⟨g.l - pt g.l m, g.lo - pt g.lo m, g.hi - pt g.hi m, madeA (g.lo - pt g.lo m) (g.hi - pt g.hi m) g.a⟩ _ _ _ (takeK g c) w hu hl1 hl0 dl1 dl0 k1 k2 t1 t2 s1 s2 a1 a2 a3 e1 e2 e3 d5 hw (decide_eq_false ga)
end Go.Proofs.Ytjmplababaejaaa
