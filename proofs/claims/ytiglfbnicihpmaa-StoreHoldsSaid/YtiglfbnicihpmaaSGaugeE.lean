/- Walks of package gauge: Check. -/
import Derived.Test.YtiglfbnicihpmaaSGaugeD
import Derived.Deep.AppendLies
set_option linter.unusedVariables false
set_option linter.unusedSimpArgs false
namespace Go.Proofs.Ytiglfbnicihpmaa
open Go.RowKit

def Kn.cells (k : Kn) : List Value := [.int .u64 k.l, .int .u64 k.lo, .int .u64 k.hi, .int .u64 k.a]
def kcells (ks : List Kn) : List Value := ks.flatMap Kn.cells
theorem kcells_len (ks : List Kn) : (kcells ks).length = ks.length * 4 := by
  induction ks with
  | nil => rfl
  | cons k ks ih => simp only [kcells, List.flatMap_cons, List.length_append, List.length_cons] at *; rw [ih]; simp [Kn.cells]; omega
theorem kcells_at (ks : List Kn) : ∀ (i : Nat) (k : Kn), ks[i]? = some k → (kcells ks)[i * 4]? = some (.int .u64 k.l) ∧ (kcells ks)[i * 4 + 1]? = some (.int .u64 k.lo) ∧ (kcells ks)[i * 4 + 2]? = some (.int .u64 k.hi) ∧ (kcells ks)[i * 4 + 3]? = some (.int .u64 k.a) := by
  induction ks with
  | nil => intro i k h; simp at h
  | cons q ks ih =>
    intro i k h
    cases i with
    | zero => simp at h; subst h; simp [kcells, Kn.cells]
    | succ i =>
      have := ih i k (by simpa using h)
      have e : ∀ j, (kcells (q :: ks))[(i + 1) * 4 + j]? = (kcells ks)[i * 4 + j]? := fun j => by
        show (q.cells ++ kcells ks)[(i + 1) * 4 + j]? = _
        rw [List.getElem?_append_right (by simp [Kn.cells]; omega)]
        simp [Kn.cells]; congr 1; omega
      refine ⟨?_, ?_, ?_, ?_⟩
      · rw [show (i + 1) * 4 = (i + 1) * 4 + 0 from rfl, e 0]; exact this.1
      · rw [e 1]; exact this.2.1
      · rw [e 2]; exact this.2.2.1
      · rw [e 3]; exact this.2.2.2

/-- A slice's address reads as a list of such. -/
def KnAt (w : World) (A : Option Addr) (ks : List Kn) : Prop :=
  ∀ (i : Nat) (k : Kn), ks[i]? = some k → ∃ b off, A = some ⟨b, off, none⟩ ∧ b < w.heap.size ∧ w.cell? ⟨b, off + i * 4, none⟩ = some (.int .u64 k.l) ∧ w.cell? ⟨b, off + i * 4 + 1, none⟩ = some (.int .u64 k.lo) ∧ w.cell? ⟨b, off + i * 4 + 2, none⟩ = some (.int .u64 k.hi) ∧ w.cell? ⟨b, off + i * 4 + 3, none⟩ = some (.int .u64 k.a)

theorem knRow_of_owns {w : World} {base n cap b : Nat} {ks : List Kn} (h : w.ownsRow base 99 4 (.slice (some ⟨b, 0, none⟩) n cap) n (kcells ks)) : KnRow w b ks := fun i k hk => by
  obtain ⟨h0, h1, h2, h3⟩ := kcells_at ks i k hk
  have hl : i < ks.length := (List.getElem?_eq_some_iff.1 hk).1
  have hn : ks.length * 4 = n * 4 := by rw [← kcells_len]; exact h.1
  refine ⟨?_, ?_, ?_, ?_⟩
  · rw [h.cellAt _ (by omega)]; exact h0
  · rw [h.cellAt _ (by omega)]; exact h1
  · rw [h.cellAt _ (by omega)]; exact h2
  · rw [h.cellAt _ (by omega)]; exact h3

theorem info_known : (Try.prog.info? 99).map (fun i => (i.zero, i.size, i.bytes)) = some (some (.agg #[.int .u64 0, .int .u64 0, .int .u64 0, .int .u64 0]), 4, 32) := by kernel_rfl

def CheckRel (w : World) (g : Kn) (cs : List Kn) (v i : Value) (wr : World) : Prop :=
  ∃ k : Nat, k ≤ cs.length ∧ i = .int .i64 k ∧ Below w.heap.size w wr ∧ wr.ownsRow w.heap.size 99 4 v (1 + k) (kcells (g :: cs.take k))

set_option maxHeartbeats 1000000 in
set_option maxRecDepth 100000 in
theorem check_any (g : Kn) (cs : List Kn) (A : Option Addr) (cap : Nat) (w : World) (hlen : cs.length ≤ 1000) (hcs : KnAt w A cs) :
    Calls Try.prog 48 #[.agg #[.int .u64 g.l, .int .u64 g.lo, .int .u64 g.hi, .int .u64 g.a], .slice A cs.length cap] w
      fun e w' => e = .returned (.int .i64 (if (g :: cs).all Kn.ok then 0 else 2)) ∧ Below w.heap.size w w' := by
  have HC := Lib.hid hcs
  clear hcs
  obtain ⟨i0, hi, hz0, hz1, hz2⟩ := info_parts info_known
  have hmax : cs.length ≤ 9223372036854775807 := by omega
  generalize hn : cs.length = n at *
  have HN := Lib.hid hn
  clear hn
  have hby : ∀ k, k < n → (1 + k + 1) * 32 ≤ 140737488355328 := fun k hk => by omega
  have HBY := Lib.hid hby
  have hmx : ∀ k, k < n → 1 + k + 1 ≤ maxLen := fun k hk => by unfold maxLen; omega
  have HMX := Lib.hid hmx
  clear hby hmx
  go_enter Try.func48, Try.ntmps48
  go_wp2_with fail
  refine (ofGauge_any _ _ _ _ _).mono ?_
  rintro e w1 ⟨rfl, hb1⟩
  have b1 : Below w.heap.size w w1 := Below.trans (by go_grown) (Below.mono hb1 (by first | omega | (simp; done) | (simp; omega)))
  have z1 := Below.size hb1
  try simp only [World.size_alloc, World.size_drew, World.size_setCell] at z1
  clear hb1
  go_wp2_with fail
  have hown0 : (w1.alloc (.cells #[.int .u64 g.l, .int .u64 g.lo, .int .u64 g.hi, .int .u64 g.a] 99)).ownsRow w.heap.size 99 4 (.slice (some ⟨w1.heap.size, 0, none⟩) 1 1) 1 (kcells [g]) :=
    World.ownsRow_lit w1 #[.int .u64 g.l, .int .u64 g.lo, .int .u64 g.hi, .int .u64 g.a] 1 (by omega) (by decide) (by rfl)
  have HO0 := Lib.hid hown0
  clear hown0
  go_loopw [5, 13] (fun v i wr => CheckRel w g cs v i wr) (fun _ i _ => n - (intOf i).toNat)
  case atStart => exact ⟨0, by omega, rfl, by go_grown, by simpa using HO0.out⟩
  case round =>
    rename_i u5 _
    obtain ⟨k, hk, rfl, hbel, hown⟩ := hrel
    have hzb := hbel.size
    have HO := Lib.hid hown
    clear hown
    by_cases hlt : k < n
    · obtain ⟨q, hq⟩ : ∃ q, cs[k]? = some q := ⟨cs[k]'(by rw [HN.out]; exact hlt), List.getElem?_eq_getElem _⟩
      obtain ⟨b, off, rfl, hbb, g0, g1, g2, g3⟩ := HC.out k q hq
      have HQ := Lib.hid hq
      clear hq
      rw [← hbel.cell (p := ⟨b, off + k * 4, none⟩) hbb] at g0
      rw [← hbel.cell (p := ⟨b, off + k * 4 + 1, none⟩) hbb] at g1
      rw [← hbel.cell (p := ⟨b, off + k * 4 + 2, none⟩) hbb] at g2
      rw [← hbel.cell (p := ⟨b, off + k * 4 + 3, none⟩) hbb] at g3
      go_wp2_with fail
      refine (ofCost_any _ _ _ _ _).mono ?_
      rintro e w2 ⟨rfl, hb2⟩
      have hb3 : Below w.heap.size w w2 := Below.trans (by go_grown) (hb2.mono (by simp; omega))
      have hz3 := hb2.size
      simp only [World.size_alloc] at hz3
      have hown2 := owns_below (HO.out.alloc _) hb2
      have HO2 := Lib.hid hown2
      clear hown2
      have HM := Lib.hid (HMX.out k hlt)
      have hnews : ∀ (j : Nat) (u : Value), [Value.int .u64 q.l, .int .u64 q.lo, .int .u64 q.hi, .int .u64 q.a][j]? = some u → (w2.alloc (.cells #[.int .u64 q.l, .int .u64 q.lo, .int .u64 q.hi, .int .u64 q.a] 99)).cell? ((⟨w2.heap.size, 0, none⟩ : Addr).add j) = some u :=
        World.news_of_block (cs := #[.int .u64 q.l, .int .u64 q.lo, .int .u64 q.hi, .int .u64 q.a]) (t := 99) (fr := (0, 0)) (heap_alloc_new w2 _)
      have HN2 := Lib.hid hnews
      clear hnews
      have honc : ∀ u ∈ [Value.int .u64 q.l, .int .u64 q.lo, .int .u64 q.hi, .int .u64 q.a], u.oneCell' = true := by
        intro u hu; simp only [List.mem_cons, List.not_mem_nil, or_false] at hu; rcases hu with rfl | rfl | rfl | rfl <;> rfl
      have HN3 := Lib.hid honc
      clear honc
      have HB := Lib.hid (HBY.out k hlt)
      have hz4 : w.heap.size ≤ (w2.alloc (.cells #[.int .u64 q.l, .int .u64 q.lo, .int .u64 q.hi, .int .u64 q.a] 99)).heap.size := by simp; omega
      have HB2 := Lib.hid hz4
      clear hz4
      go_wp2_with (at_builtin; refine wpList_append_own _ rfl _ _ 112 rfl w.heap.size 99 i0 _ 4 32 Try.underlying112 hi hz0 hz1 hz2 rfl (by decide) _ (1 + k) _ rfl (HO2.out.alloc _) ⟨w2.heap.size, 0, none⟩ 1 1 [Value.int .u64 q.l, .int .u64 q.lo, .int .u64 q.hi, .int .u64 q.a] rfl rfl HN2.out HN3.out HM.out HB.out HB2.out ?_)
      intro v' w3 hown3 hgrow _
      have hb4 := below_grown (B := w.heap.size) (hb3.alloc (by omega) _) (HO2.out.alloc _) hgrow (by simp; omega) (Nat.le_refl _)
      have HO3 := Lib.hid hown3
      clear hown3
      go_wp2_with fail
      have hkc : k + 1 ≤ cs.length := by rw [HN.out]; exact hlt
      refine ⟨⟨k + 1, hkc, by go_num, hb4, ?_⟩, by simp [intOf]; omega⟩
      have e : kcells (g :: cs.take (k + 1)) = kcells (g :: cs.take k) ++ [.int .u64 q.l, .int .u64 q.lo, .int .u64 q.hi, .int .u64 q.a] := by
        rw [List.take_add_one, HQ.out]; simp [kcells, Kn.cells]
      rw [e, show 1 + (k + 1) = 1 + k + 1 by omega]
      exact HO3.out
    · have hkn : k = cs.length := by have := HN.out; omega
      have htk : cs.take k = cs := by rw [hkn]; exact List.take_length
      have hown := HO.out
      rw [htk] at hown
      obtain ⟨bb, cap', hu⟩ : ∃ bb cap', u5 = .slice (some ⟨bb, 0, none⟩) (1 + k) cap' := by
        rcases hown.2 with ⟨_, h⟩ | ⟨gg, cap', cur, hv, _⟩
        · omega
        · exact ⟨gg, cap', hv⟩
      subst hu
      have hlt' := (hown.lt bb rfl).2
      have hfit := fits_any bb (1 + k) cap' (g :: cs) wr (by rw [List.length_cons, ← hkn]; omega) (by have := HN.out; omega) hlt' (knRow_of_owns hown)
      have HF := Lib.hid hfit
      clear hfit hown htk hkn
      cases hall : (g :: cs).all Kn.ok with
      | true =>
        rw [hall] at HF
        go_wp2_with fail
        refine (HF.out).mono ?_
        rintro e w4 ⟨rfl, hb4⟩
        go_wp2_with fail
        go_ret
        exact ⟨rfl, hbel.trans (hb4.mono hzb)⟩
      | false =>
        rw [hall] at HF
        go_wp2_with fail
        refine (HF.out).mono ?_
        rintro e w4 ⟨rfl, hb4⟩
        go_wp2_with fail
        all_goals go_ret
        all_goals exact ⟨rfl, hbel.trans (hb4.mono hzb)⟩

theorem check_one (g c : Kn) (b : Nat) (w : World) (h0 : w.cell? ⟨b, 0, none⟩ = some (.int .u64 c.l)) (h1 : w.cell? ⟨b, 1, none⟩ = some (.int .u64 c.lo)) (h2 : w.cell? ⟨b, 2, none⟩ = some (.int .u64 c.hi)) (h3 : w.cell? ⟨b, 3, none⟩ = some (.int .u64 c.a)) :
    Calls Try.prog 48 #[.agg #[.int .u64 g.l, .int .u64 g.lo, .int .u64 g.hi, .int .u64 g.a], .slice (some ⟨b, 0, none⟩) 1 1] w
      fun e w' => e = .returned (.int .i64 (if g.ok && c.ok then 0 else 2)) ∧ Below w.heap.size w w' := by
  have h := check_any g [c] (some ⟨b, 0, none⟩) 1 w (by simp) (fun i k hk => by
    cases i with
    | zero => simp at hk; subst hk; exact ⟨b, 0, rfl, World.block_lt_of_cell? w _ h0, h0, h1, h2, h3⟩
    | succ i => simp at hk)
  simpa using h

theorem oG_right (l lo hi a : Int) : rightB l lo hi a = true ↔ lo ≤ l ∧ l ≤ hi ∧ hi ≤ 1099511627776 ∧ (a = 0 ↔ lo = hi) := by
  unfold rightB sorted4
  simp only [Bool.and_eq_true, Bool.not_eq_true', decide_eq_false_iff_not, beq_iff_eq, Bool.beq_eq_decide_eq, decide_eq_true_eq]
  constructor
  · rintro ⟨⟨h1, h2, h3⟩, h4⟩
    refine ⟨by omega, by omega, by omega, ?_⟩
    rw [Bool.eq_iff_iff] at h4
    simpa using h4
  · rintro ⟨h1, h2, h3, h4⟩
    refine ⟨⟨by omega, by omega, by omega⟩, ?_⟩
    rw [Bool.eq_iff_iff]
    simpa using h4

theorem refFixed_any (n : Int) (w : World) :
    Calls Try.prog 25 #[.int .u64 n] w fun e w' => e = .returned (.agg #[.int .u64 n, .int .u64 n, .int .u64 n, .int .u64 0]) ∧ Below w.heap.size w w' := by
  go_enter Try.func25, Try.ntmps25
  go_wp2_with fail
  go_returns
  refine ⟨rfl, ?_⟩
  go_grown
theorem refRight_any (l lo hi a : Int) (w : World) :
    Calls Try.prog 34 #[.agg #[.int .u64 l, .int .u64 lo, .int .u64 hi, .int .u64 a]] w fun e w' => e = .returned (.bool (rightB l lo hi a)) ∧ Below w.heap.size w w' := by
  by_cases h1 : lo ≤ l
  · by_cases h2 : l ≤ hi
    · by_cases h3 : hi ≤ 1099511627776
      · have hr : rightB l lo hi a = ((a == 0) == (lo == hi)) := by unfold rightB sorted4; simp; omega
        have HR := Lib.hid hr
        clear hr
        go_enter Try.func34, Try.ntmps34
        go_wp2_with fail
        go_ret
        refine ⟨by rw [HR.out]; rfl, ?_⟩
        go_grown
      · have hr : rightB l lo hi a = false := by unfold rightB sorted4; simp; omega
        have HR := Lib.hid hr
        have h3' : 1099511627776 < hi := by omega
        clear hr h3
        go_enter Try.func34, Try.ntmps34
        go_wp2_with fail
        go_ret
        refine ⟨by rw [HR.out]; rfl, ?_⟩
        go_grown
    · have hr : rightB l lo hi a = false := by unfold rightB sorted4; simp; omega
      have HR := Lib.hid hr
      have h2' : hi < l := by omega
      clear hr h2
      go_enter Try.func34, Try.ntmps34
      go_wp2_with fail
      go_ret
      refine ⟨by rw [HR.out]; rfl, ?_⟩
      go_grown
  · have hr : rightB l lo hi a = false := by unfold rightB sorted4; simp; omega
    have HR := Lib.hid hr
    have h1' : l < lo := by omega
    clear hr h1
    go_enter Try.func34, Try.ntmps34
    go_wp2_with fail
    go_ret
    refine ⟨by rw [HR.out]; rfl, ?_⟩
    go_grown
end Go.Proofs.Ytiglfbnicihpmaa
