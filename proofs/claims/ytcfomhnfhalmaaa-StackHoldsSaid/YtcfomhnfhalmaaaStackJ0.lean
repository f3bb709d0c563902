/- A stack that stays as it is, told as if its row were new. No condition. -/
import Derived.Test.YtcfomhnfhalmaaaStackI
set_option linter.unusedVariables false
set_option linter.unusedSimpArgs false
set_option maxRecDepth 100000
namespace Go.Proofs.Ytcfomhnfhalmaaa
open Go.RowKit

theorem relab {R : Rws} {Hr0 : List RBlk} {w w' : World} {p0 p1 : RBlk} {k : Cp} {n N : Nat} {t e : TypeId} {F : Nat → List AV} (hB : RelB R (nums [p0, p1]) [.cells [.gsl k 1 0 n, .bool true true] t, .row N 5 F e none] [p0, p1]) (hn : Apart [.cells [.gsl k 1 0 n, .bool true true] t, .row N 5 F e none] [p0, p1]) (hO : OwnK R [.cells [.gsl k 1 0 n, .bool true true] t, .row N 5 F e none] [p0, p1] w') (hS : Stp allW Hr0 w [p0, p1] w') (hl : Hr0.length = 2) :
    RelB R (nums [p0, p1, p1]) [.cells [.gsl k 2 0 n, .bool true true] t, .gone, .row N 5 F e none] [p0, p1, p1] ∧ Apart [.cells [.gsl k 2 0 n, .bool true true] t, .gone, .row N 5 F e none] [p0, p1, p1] ∧ OwnK R [.cells [.gsl k 2 0 n, .bool true true] t, .gone, .row N 5 F e none] [p0, p1, p1] w' ∧ Stp allW Hr0 w [p0, p1, p1] w' := by
  have r0 := hB.2 0 _ p0 rfl rfl
  have r1 := hB.2 1 _ p1 rfl rfl
  have far : ∀ {P : Prop}, p0.num.ph = false → p1.num.ph = false → p0.num.b = p1.num.b → P := fun h0 h1 hb => by
    have := hn 0 1 _ _ p0 p1 (by decide) rfl rfl rfl rfl rfl rfl h0 h1 hb
    cases this
  refine ⟨⟨rfl, fun l it p h1 h2 => ?_⟩, fun i j b c p q hne h1 h2 v1 v2 q1 q2 z1 z2 hb => ?_, ⟨fun l it p h1 h2 hp => ?_, hO.2.sub fun b hb => ?_⟩, ⟨hS.os, hS.tape, hS.output, hS.size, ?_, hS.block⟩⟩
  · match l, h1, h2 with
    | 0, h1, h2 =>
      cases h1; cases h2
      cases r0 with | cells hc hp =>
      cases hc with | cons a1 hc =>
      cases a1 with | gsl hj g1 g2 g3 g4 =>
      exact .cells (.cons (.gsl (l := 2) hj g1 g2 g3 g4) (hc.grow [p1.num])) hp
    | 1, h1, h2 => cases h1; exact .gone
    | 2, h1, h2 => cases h1; cases h2; exact r1.grow [p1.num]
    | l + 3, h1, _ => cases h1
  · match i, h1, q1 with
    | 0, h1, q1 =>
      cases h1; cases q1
      match j, h2, q2 with
      | 0, _, _ => exact absurd rfl hne
      | 1, h2, _ => cases h2; cases v2
      | 2, h2, q2 => cases q2; exact far z1 z2 hb
      | j + 3, h2, _ => cases h2
    | 1, h1, _ => cases h1; cases v1
    | 2, h1, q1 =>
      cases h1; cases q1
      match j, h2, q2 with
      | 0, h2, q2 => cases q2; exact far z2 z1 hb.symm
      | 1, h2, _ => cases h2; cases v2
      | 2, _, _ => exact absurd rfl hne
      | j + 3, h2, _ => cases h2
    | i + 3, h1, _ => cases h1
  · match l, h1, h2 with
    | 0, h1, h2 => cases h1; cases h2; exact ⟨(hO.1 0 _ p0 rfl rfl hp).1, fun _ => (hO.1 0 _ p0 rfl rfl hp).2 rfl⟩
    | 1, h1, h2 => cases h1; cases h2; exact ⟨(hO.1 1 _ p1 rfl rfl hp).1, fun hv => by cases hv⟩
    | 2, h1, h2 => cases h1; cases h2; exact ⟨(hO.1 1 _ p1 rfl rfl hp).1, fun _ => (hO.1 1 _ p1 rfl rfl hp).2 rfl⟩
    | l + 3, h1, _ => cases h1
  · rw [mem_bs] at hb ⊢
    obtain ⟨q, hq, e⟩ := hb
    refine ⟨q, ?_, e⟩
    simp only [nums, List.map_cons, List.map_nil, List.mem_cons, List.not_mem_nil, or_false] at hq ⊢
    rcases hq with h | h | h
    · exact .inl h
    · exact .inr h
    · exact .inr h
  · obtain ⟨σ, e1, n1⟩ := hS.ext
    have hσ : σ = [] := by
      have := congrArg List.length e1
      simp [nums, hl] at this
      exact this
    subst hσ
    rw [List.append_nil] at e1
    refine ⟨[p1.num], by rw [← e1]; rfl, fun q hq hp => .inr ⟨1, p1.num, by rw [← e1]; rfl, ?_, ?_, rfl⟩⟩
    · rw [List.mem_singleton.1 hq] at hp; exact hp
    · rw [List.mem_singleton.1 hq]
end Go.Proofs.Ytcfomhnfhalmaaa
