/- Gauges: what becomes of right ones is right; of alike ones the same becomes. -/
import Derived.Test.YtjmplababaejaaaGaugeT
import Derived.Test.YtjmplababaejaaaGaugeN
import Derived.Test.YtjmplababaejaaaB64
set_option linter.unusedVariables false
set_option linter.unusedSimpArgs false
namespace Go.Proofs.Ytjmplababaejaaa
open Go.RowKit

theorem Own.eqv {H H' : List Block} {w : World} (h : Own H w) (e : H = H') : Own H' w := e ▸ h
theorem Own.tl {q : Block} {H : List Block} {w : World} (h : Own (q :: H) w) : Own H w := fun p hp => h p (List.mem_cons_of_mem _ hp)
theorem ok_iff (k : Kn) : k.ok = true ↔ (k.lo ≤ k.l ∧ k.l ≤ k.hi ∧ k.hi ≤ 1099511627776) ∧ (k.a = 0 ↔ k.lo = k.hi) := by
  unfold Kn.ok rightB
  rw [Bool.and_eq_true]
  refine and_congr ?_ ?_
  · unfold sorted4; simp only [Bool.and_eq_true, Bool.not_eq_true', decide_eq_false_iff_not]; omega
  · by_cases h1 : k.a = 0 <;> by_cases h2 : k.lo = k.hi <;> simp [h1, h2] <;> rw [beq_eq_false_iff_ne.2 h1, beq_eq_false_iff_ne.2 h2]
theorem N_u {x : Int} (h : U x) : ∃ X : BitVec 64, x = N X := ⟨BitVec.ofNat 64 x.toNat, (N_of x h.1 h.2).symm⟩
theorem below_or {x y u : Int} (hx : U x) (hy : U y) (hu : U u) (h : belowI (orI x y) u = true) : bits .andNot .u64 x u = 0 ∧ bits .andNot .u64 y u = 0 := by
  obtain ⟨X, rfl⟩ := N_u hx
  obtain ⟨Y, rfl⟩ := N_u hy
  obtain ⟨V, rfl⟩ := N_u hu
  have z : (0 : Int) = N 0#64 := by rw [N_eq]; rfl
  unfold belowI orI at h
  rw [N_or, N_andNot, beq_iff_eq, z] at h
  have h' := N_inj h
  rw [N_andNot, N_andNot, z]
  have hb : ∀ i, ((X ||| Y) &&& ~~~V).getLsbD i = false := fun i => by rw [h']; simp
  constructor
  · congr 1
    apply BitVec.eq_of_getLsbD_eq
    intro i hi
    have := hb i
    simp only [BitVec.getLsbD_and, BitVec.getLsbD_or, BitVec.getLsbD_not, BitVec.getLsbD_zero] at this ⊢
    revert this
    cases X.getLsbD i <;> cases Y.getLsbD i <;> simp
  · congr 1
    apply BitVec.eq_of_getLsbD_eq
    intro i hi
    have := hb i
    simp only [BitVec.getLsbD_and, BitVec.getLsbD_or, BitVec.getLsbD_not, BitVec.getLsbD_zero] at this ⊢
    revert this
    cases X.getLsbD i <;> cases Y.getLsbD i <;> simp
theorem orI_nz {x y : Int} (hx : U x) (hy : U y) (h : orI x y = 0) : x = 0 ∧ y = 0 := by
  obtain ⟨X, rfl⟩ := N_u hx
  obtain ⟨Y, rfl⟩ := N_u hy
  have z : (0 : Int) = N 0#64 := by rw [N_eq]; rfl
  unfold orI at h
  rw [N_or, z] at h
  have h' := N_inj h
  have hb : ∀ i, (X ||| Y).getLsbD i = false := fun i => by rw [h']; simp
  constructor
  · rw [z]; congr 1
    apply BitVec.eq_of_getLsbD_eq
    intro i hi
    have := hb i
    rw [BitVec.getLsbD_or, Bool.or_eq_false_iff] at this
    rw [this.1]; simp
  · rw [z]; congr 1
    apply BitVec.eq_of_getLsbD_eq
    intro i hi
    have := hb i
    rw [BitVec.getLsbD_or, Bool.or_eq_false_iff] at this
    rw [this.2]; simp
theorem and_u {x : Int} (hx : U x) : U (bits .and .u64 x 5) := by
  obtain ⟨X, rfl⟩ := N_u hx
  rw [show (5 : Int) = N 5#64 by rw [N_eq]; rfl, N_and]; exact ⟨N_lo _, N_hi _⟩
theorem take_ok {g c : Kn} (hg : g.ok = true) (hc : c.ok = true) (l1 : 0 ≤ g.lo) (l2 : 0 ≤ c.lo) (ha : U g.a) (hb : U c.a) : (takeG g c).ok = true := by
  have h1 := (ok_iff g).1 hg
  have h2 := (ok_iff c).1 hc
  unfold takeG
  split
  · rw [ok_iff]
    dsimp only
    refine ⟨by omega, ?_⟩
    unfold madeA
    split
    · rename_i e; simp [e]
    · rename_i e
      refine ⟨fun h => absurd (orI_nz ha hb h) (fun h => ?_), fun h => absurd h e⟩
      have := h1.2.1 h.1
      have := h2.2.1 h.2
      omega
  · exact hg
theorem take_same {g c : Kn} {hl dl u : Int} (hg : g.ok = true) (hc : c.ok = true) (hh : (⟨hl, g.lo, g.hi, g.a⟩ : Kn).ok = true) (hd : (⟨dl, c.lo, c.hi, c.a⟩ : Kn).ok = true) (ha : U g.a) (hb : U c.a) (hu : U u)
    (hl1 : bits .andNot .u64 g.a u = 0 → hl = g.l) (dl1 : bits .andNot .u64 c.a u = 0 → dl = c.l) (hB : belowI (takeG g c).a u = true) : (takeG g c).l = (takeG ⟨hl, g.lo, g.hi, g.a⟩ ⟨dl, c.lo, c.hi, c.a⟩).l := by
  have h1 := (ok_iff g).1 hg
  have h2 := (ok_iff c).1 hc
  have h3 := (ok_iff _).1 hh
  have h4 := (ok_iff _).1 hd
  dsimp only at h3 h4
  unfold takeG at hB ⊢
  dsimp only at hB ⊢
  split at hB
  · rename_i ht
    rw [if_pos ht, if_pos ht]
    dsimp only at hB ⊢
    unfold madeA at hB
    split at hB
    · omega
    · have := below_or ha hb hu hB
      rw [hl1 this.1, dl1 this.2]
  · rename_i ht
    rw [if_neg ht, if_neg ht]
    dsimp only
    exact (hl1 (by unfold belowI at hB; simpa using hB)).symm
theorem pt_mono {x y m : Int} (hx : 0 ≤ x) (h : x ≤ y) : pt x m ≤ pt y m ∧ x - pt x m ≤ y - pt y m := by unfold pt; omega
theorem part_ok {g : Kn} {m : Int} (hg : g.ok = true) (l1 : 0 ≤ g.lo) (hm : 0 ≤ m) : (⟨pt g.l m, pt g.lo m, pt g.hi m, madeA (pt g.lo m) (pt g.hi m) g.a⟩ : Kn).ok = true ∧ (⟨g.l - pt g.l m, g.lo - pt g.lo m, g.hi - pt g.hi m, madeA (g.lo - pt g.lo m) (g.hi - pt g.hi m) g.a⟩ : Kn).ok = true := by
  have h1 := (ok_iff g).1 hg
  have m1 := pt_mono (x := g.lo) (y := g.l) (m := m) l1 h1.1.1
  have m2 := pt_mono (x := g.l) (y := g.hi) (m := m) (by omega) h1.1.2.1
  have b1 := pt_bd (n := g.hi) (m := m) (by omega) hm
  constructor
  · rw [ok_iff]
    dsimp only
    refine ⟨by omega, ?_⟩
    unfold madeA
    split
    · rename_i e; simp [e]
    · rename_i e
      refine ⟨fun h => absurd (h1.2.1 h) (fun h => e (by rw [h])), fun h => absurd h e⟩
  · rw [ok_iff]
    dsimp only
    refine ⟨by omega, ?_⟩
    unfold madeA
    split
    · rename_i e; simp [e]
    · rename_i e
      refine ⟨fun h => absurd (h1.2.1 h) (fun h => e (by rw [h])), fun h => absurd h e⟩
theorem part_same {g : Kn} {m hl u : Int} (hg : g.ok = true) (hh : (⟨hl, g.lo, g.hi, g.a⟩ : Kn).ok = true) (l1 : 0 ≤ g.lo) (hl1 : bits .andNot .u64 g.a u = 0 → hl = g.l) :
    (belowI (madeA (pt g.lo m) (pt g.hi m) g.a) u = true → pt g.l m = pt hl m) ∧ (belowI (madeA (g.lo - pt g.lo m) (g.hi - pt g.hi m) g.a) u = true → g.l - pt g.l m = hl - pt hl m) := by
  have h1 := (ok_iff g).1 hg
  have h3 := (ok_iff _).1 hh
  dsimp only at h3
  have m1 := pt_mono (x := g.lo) (y := g.l) (m := m) l1 h1.1.1
  have m2 := pt_mono (x := g.l) (y := g.hi) (m := m) (by omega) h1.1.2.1
  have m3 := pt_mono (x := g.lo) (y := hl) (m := m) l1 h3.1.1
  have m4 := pt_mono (x := hl) (y := g.hi) (m := m) (by omega) h3.1.2.1
  unfold madeA
  constructor
  · split
    · intro _; omega
    · intro h; rw [hl1 (by unfold belowI at h; simpa using h)]
  · split
    · intro _; omega
    · intro h; rw [hl1 (by unfold belowI at h; simpa using h)]
theorem check0_any (g : Kn) (w : World) (hg : g.ok = true) : Calls Try.prog 16 #[.agg #[.int .u64 g.l, .int .u64 g.lo, .int .u64 g.hi, .int .u64 g.a], .slice none 0 0] w fun e w' => e = .returned (.int .i64 0) ∧ Below w.heap.size w w' := by
  have := check_any g [] none 0 w (by simp) (fun i k h => by simp at h)
  simp only [List.all_cons, List.all_nil, hg, Bool.and_self, if_true] at this
  exact this
theorem check1_any (g c : Kn) (b : Nat) (t : TypeId) (w : World) (hb : Blk w b #[.int .u64 c.l, .int .u64 c.lo, .int .u64 c.hi, .int .u64 c.a] t) : Calls Try.prog 16 #[.agg #[.int .u64 g.l, .int .u64 g.lo, .int .u64 g.hi, .int .u64 g.a], .slice (some ⟨b, 0, none⟩) 1 1] w fun e w' => e = .returned (.int .i64 (if g.ok && c.ok then 0 else 2)) ∧ Below w.heap.size w w' := by
  have := check_any g [c] (some ⟨b, 0, none⟩) 1 w (by simp) (fun i k h => by
    have : i = 0 := by have := (List.getElem?_eq_some_iff.1 h).1; simpa using this
    subst this
    cases h
    exact ⟨b, 0, rfl, hb.lt, hb.cell 0, hb.cell 1, hb.cell 2, hb.cell 3⟩)
  simp only [List.all_cons, List.all_nil, Bool.and_true] at this
  exact this
theorem check2_any (g c : Kn) (b : Nat) (t : TypeId) (w : World) (hb : Blk w b #[.int .u64 c.l, .int .u64 c.lo, .int .u64 c.hi, .int .u64 c.a, .int .u64 c.l, .int .u64 c.lo, .int .u64 c.hi, .int .u64 c.a] t) : Calls Try.prog 16 #[.agg #[.int .u64 g.l, .int .u64 g.lo, .int .u64 g.hi, .int .u64 g.a], .slice (some ⟨b, 0, none⟩) 2 2] w fun e w' => e = .returned (.int .i64 (if g.ok && c.ok then 0 else 2)) ∧ Below w.heap.size w w' := by
  have := check_any g [c, c] (some ⟨b, 0, none⟩) 2 w (by simp) (fun i k h => by
    have : i = 0 ∨ i = 1 := by have := (List.getElem?_eq_some_iff.1 h).1; simp at this; omega
    rcases this with rfl | rfl
    · cases h
      exact ⟨b, 0, rfl, hb.lt, hb.cell 0, hb.cell 1, hb.cell 2, hb.cell 3⟩
    · cases h
      exact ⟨b, 0, rfl, hb.lt, hb.cell 4, hb.cell 5, hb.cell 6, hb.cell 7⟩)
  simp only [List.all_cons, List.all_nil, Bool.and_true, Bool.and_self] at this
  exact this
theorem alike_true {a : Kn} {bl u : Int} (h : belowI a.a u = true → a.l = bl) (V : World) : Calls Try.prog 12 #[.agg #[.int .u64 a.l, .int .u64 a.lo, .int .u64 a.hi, .int .u64 a.a], .agg #[.int .u64 bl, .int .u64 a.lo, .int .u64 a.hi, .int .u64 a.a], .int .u64 u] V fun e w' => e = .returned (.bool true) ∧ Below V.heap.size V w' := by
  have := alike_any a ⟨bl, a.lo, a.hi, a.a⟩ u V
  rcases hb : belowI a.a u with _ | _
  · simp only [hb, Bool.not_false, Bool.true_or, decide_true, Bool.and_self] at this
    exact this
  · simp only [hb, h hb, Bool.not_true, Bool.false_or, decide_true, Bool.and_self] at this
    rw [h hb]; exact this
end Go.Proofs.Ytjmplababaejaaa
