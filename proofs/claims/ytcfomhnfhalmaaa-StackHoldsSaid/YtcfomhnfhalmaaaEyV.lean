/- Copies of slices: what they come to. No program of its own. No condition. -/
import Derived.Test.YtcfomhnfhalmaaaYB
set_option linter.unusedVariables false
set_option linter.unusedSimpArgs false
namespace Go.Proofs.Ytcfomhnfhalmaaa
open Go.RowKit

/-- What slices.Clone makes of a slice whose elements have s cells. -/
def cloneF (s : Nat) (e : TypeId) (R : Rws) : List AV → Mem → (Nat → Bool) → Option (AV × Mem × List Bool)
  | [x], H, _ => match newsA R H s x with
    | some (m, G, cs) => some (.gsl .top (H.length + 1) 0 m, H ++ [.gone, .row m s G e none], decide (m ≤ 1000000) :: cs)
    | none => none
  | _, _, _ => none
theorem newsA_grow {R : Rws} {H T : Mem} {s : Nat} {x : AV} {r : Nat × (Nat → List AV) × List Bool} (h : newsA R H s x = some r) : newsA R (H ++ T) s x = some r := by
  unfold newsA at h
  split at h
  · rename_i l o m c
    split at h
    · rename_i cs t hl
      unfold newsA
      simp only [getElem?_append_some hl]
      exact h
    · cases h
  · rename_i k l off m
    split at h
    · rename_i n s' F t own hl
      unfold newsA
      simp only [getElem?_append_some hl]
      exact h
    · cases h
  · exact h
  · exact h
  · exact h
  · cases h
theorem newsA_val {R : Rws} {ρ : Nums} {H : Mem} {s m : Nat} {x : AV} {V : Value} {G : Nat → List AV} {cs : List Bool} (hRw : RwOK R) (h : newsA R H s x = some (m, G, cs)) (hx : Rel R ρ x V) : ∃ A c, V = .slice A m c ∧ (A = none → m = 0) := by
  unfold newsA at h
  split at h
  · split at h
    · rename_i l o m' c cs' t hl
      cases hx with | slice hq =>
      rw [Bool.cond_eq_ite] at h
      split at h
      · cases h
        exact ⟨_, _, rfl, fun e => by cases e⟩
      · cases h
    · cases h
  · split at h
    · cases hx with | gsl hq hn ha hk hm =>
      split at h
      · cases h
        refine ⟨_, _, rfl, fun e => ?_⟩
        rcases ha with ha | ⟨ha, _⟩
        · exact ha
        · rw [ha] at e; cases e
      · cases h
    · cases h
  · cases hx; cases h
    exact ⟨_, _, rfl, fun _ => rfl⟩
  · split at h
    · rename_i j m' c' r hr
      cases hx with | rsl hj hc =>
      rw [hr] at hj
      cases hj
      split at h
      · cases h
        refine ⟨_, _, rfl, fun e => ?_⟩
        rcases Nat.eq_zero_or_pos r.n with h0 | h0
        · exact h0
        · obtain ⟨b, off, hA⟩ := hRw.addr _ _ hr h0
          rw [hA] at e; cases e
      · cases h
    · cases h
  · split at h
    · rename_i j off0 m' r hr
      cases hx with | xsl hj hn hc hA =>
      rw [hr] at hj
      cases hj
      split at h
      · cases h
        refine ⟨_, _, rfl, fun e => ?_⟩
        rcases hA with h0 | h0
        · exact h0
        · rcases Nat.eq_zero_or_pos m with h1 | h1
          · exact h1
          · obtain ⟨b, off, hA2⟩ := hRw.addr _ _ hr (by omega)
            rw [h0, hA2] at e; cases e
      · cases h
    · cases h
  · cases h
theorem gone_set {R : Rws} {ρ : Nums} {H : Mem} {Hr : List RBlk} {w : World} {l : Nat} {it : AIt} (hl : H[l]? = some it) (hB : RelB R ρ H Hr) (hA : Apart H Hr) (hO : OwnM H Hr w) : RelB R ρ (H.set l .gone) Hr ∧ Apart (H.set l .gone) Hr ∧ OwnM (H.set l .gone) Hr w := by
  refine ⟨relB_same hB hl fun p _ => .gone, fun k m jt kt p q hne h1 h2 v1 v2 q1 q2 z1 z2 hb => ?_, fun k jt p h1 h2 hq => ?_⟩
  · rcases set_get h1 with ⟨rfl, rfl⟩ | ⟨_, h3⟩
    · cases v1
    · rcases set_get h2 with ⟨rfl, rfl⟩ | ⟨_, h4⟩
      · cases v2
      · exact hA k m jt kt p q hne h3 h4 v1 v2 q1 q2 z1 z2 hb
  · rcases set_get h1 with ⟨rfl, rfl⟩ | ⟨_, h3⟩
    · exact ⟨(hO _ _ p hl h2 hq).1, fun h => by cases h⟩
    · exact hO k jt p h3 h2 hq
theorem clone_nil {R : Rws} {H : Mem} {Hr : List RBlk} {w w' : World} {m s : Nat} {G : Nat → List AV} {e : TypeId} {wr : Nat → Bool} (hs : 0 < s) (hm : m = 0) (hB : RelB R (nums Hr) H Hr) (hA : Apart H Hr) (hO : OwnK R H Hr w) (hb : Below w.heap.size w w') :
    ∃ Hr', Rel R (nums Hr') (.gsl .top (H.length + 1) 0 m) (.slice none 0 0) ∧ RelB R (nums Hr') (H ++ [.gone, .row m s G e none]) Hr' ∧ Apart (H ++ [.gone, .row m s G e none]) Hr' ∧ OwnK R (H ++ [.gone, .row m s G e none]) Hr' w' ∧ Stp wr Hr w Hr' w' := by
  subst hm
  have hno : (noBlk s).num.ph = false → ∀ {p : Prop}, p := fun h => by rw [noBlk_ph hs] at h; cases h
  have hn : nums (Hr ++ [noBlk s] ++ [noBlk s]) = nums Hr ++ [(noBlk s).num, (noBlk s).num] := by simp [nums]
  have hH : H ++ [AIt.gone, .row 0 s G e none] = H ++ [.gone] ++ [.row 0 s G e none] := by simp
  have hS : Stp wr Hr w (Hr ++ [noBlk s] ++ [noBlk s]) w' := ⟨hb.os, hb.tape, hb.output, hb.size, ⟨_, hn, fun q hq hqp => by
    simp only [List.mem_cons, List.not_mem_nil, or_false, or_self] at hq
    rw [hq, noBlk_ph hs] at hqp; cases hqp⟩, fun k hk _ => hb.block k hk⟩
  have hl1 : (Hr ++ [noBlk s]).length = (H ++ [AIt.gone]).length := by simp [hB.1]
  have ho1 : ∀ {u}, Below w.heap.size w u → OwnM (H ++ [.gone]) (Hr ++ [noBlk s]) u := fun hu => own_new hO.1 hB.1 hu (fun h => hno h)
  refine ⟨Hr ++ [noBlk s] ++ [noBlk s], ?_, ?_, ?_, ⟨?_, hS.rd hO.2⟩, hS⟩
  · refine rel_gsl_no (q := (noBlk s).num) ?_
    rw [hn, List.getElem?_append_right (by simp [nums, hB.1])]
    simp [nums, hB.1]
  · rw [hn, hH]
    exact ((hB.grow _).snoc .gone).snoc (.row0 (noBlk_ph hs))
  · rw [hH]
    exact apart_new (apart_new hA hO.1 hB.1 (fun h => hno h)) (ho1 (Below.refl _ _)) hl1 (fun h => hno h)
  · rw [hH]
    exact own_new (ho1 hb) hl1 (Below.refl _ _) (fun h => hno h)
theorem clone_end {R : Rws} {ρ : Nums} {H : Mem} {Hr : List RBlk} {w : World} {m s : Nat} {G : Nat → List AV} {e : TypeId} (hB : RelB R ρ (H ++ [.cells [] e] ++ [.row m s G e none]) Hr) (hA : Apart (H ++ [.cells [] e] ++ [.row m s G e none]) Hr) (hO : OwnM (H ++ [.cells [] e] ++ [.row m s G e none]) Hr w) :
    RelB R ρ (H ++ [.gone, .row m s G e none]) Hr ∧ Apart (H ++ [.gone, .row m s G e none]) Hr ∧ OwnM (H ++ [.gone, .row m s G e none]) Hr w := by
  have hl : (H ++ [AIt.cells [] e] ++ [AIt.row m s G e none])[H.length]? = some (.cells [] e) := by simp
  have hs : (H ++ [AIt.cells [] e] ++ [AIt.row m s G e none]).set H.length .gone = H ++ [.gone, .row m s G e none] := by simp
  have := gone_set hl hB hA hO
  rwa [hs] at this
end Go.Proofs.Ytcfomhnfhalmaaa
