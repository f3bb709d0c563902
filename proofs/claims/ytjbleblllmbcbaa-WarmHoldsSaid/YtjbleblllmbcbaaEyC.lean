/- What is known of memory, said in another way. No program of its own. No condition. -/
import Derived.Test.YtjbleblllmbcbaaEyB
set_option linter.unusedVariables false
set_option linter.unusedSimpArgs false
namespace Go.Proofs.Ytjbleblllmbcbaa
open Go.RowKit
variable {D : List Deferred} {R : Rws}
theorem set_get {H : Mem} {l : Nat} {it : AIt} {k : Nat} {jt : AIt} (h : (H.set l it)[k]? = some jt) : (k = l ∧ jt = it) ∨ (k ≠ l ∧ H[k]? = some jt) := by
  by_cases e : l = k
  · subst e
    have hlt : l < H.length := by have := (List.getElem?_eq_some_iff.1 h).1; simpa using this
    rw [List.getElem?_set_self hlt] at h
    cases h; exact .inl ⟨rfl, rfl⟩
  · rw [List.getElem?_set_ne e] at h
    exact .inr ⟨Ne.symm e, h⟩
theorem own_same {H : Mem} {Hr : List RBlk} {w : World} {l : Nat} {it it' : AIt} (h : OwnM H Hr w) (hl : H[l]? = some it) (hv : it.live = true) : OwnM (H.set l it') Hr w := fun k jt p h1 h2 => by
  rcases set_get h1 with ⟨rfl, rfl⟩ | ⟨_, h3⟩
  · obtain ⟨a, b⟩ := h k it p hl h2
    exact ⟨a, fun _ => b hv⟩
  · exact h k jt p h3 h2
theorem apart_same {H : Mem} {Hr : List RBlk} {l : Nat} {it it' : AIt} (h : Apart H Hr) (hl : H[l]? = some it) (hv : it.live = true) (ho : it'.owner l = it.owner l) : Apart (H.set l it') Hr := fun k m jt kt p q hne h1 h2 v1 v2 q1 q2 hb => by
  rcases set_get h1 with ⟨rfl, rfl⟩ | ⟨_, h3⟩ <;> rcases set_get h2 with ⟨rfl, rfl⟩ | ⟨_, h4⟩
  · exact absurd rfl hne
  · rw [ho]; exact h k m it kt p q hne hl h4 hv v2 q1 q2 hb
  · rw [ho]; exact h k m jt it p q hne h3 hl v1 hv q1 q2 hb
  · exact h k m jt kt p q hne h3 h4 v1 v2 q1 q2 hb
theorem relB_same {ρ : Nums} {H : Mem} {Hr : List RBlk} {l : Nat} {it it' : AIt} (h : RelB R ρ H Hr) (hl : H[l]? = some it) (hi : ∀ p, RelI R ρ it p → RelI R ρ it' p) : RelB R ρ (H.set l it') Hr := ⟨by simp [h.1], fun k jt p h1 h2 => by
  rcases set_get h1 with ⟨rfl, rfl⟩ | ⟨_, h3⟩
  · exact hi p (h.2 k it p hl h2)
  · exact h.2 k jt p h3 h2⟩
/-- A row's elements, said in another way; fewer of them. -/
theorem relI_row {ρ : Nums} {n n' s : Nat} {F F' : Nat → List AV} {t : TypeId} {own : Option Nat} (hn : n' ≤ n) (hF : ∀ i, i < n' → F' i = F i) (p : RBlk) (h : RelI R ρ (.row n s F t own) p) : RelI R ρ (.row n' s F' t own) p := by
  cases h with | row h hc hnc hm hs =>
  exact .row (fun i hi => by rw [hF i hi]; exact h i (by omega)) hc (by omega) hm hs
theorem patSt_row {live : List (Nat × AV)} {k l n n' s : Nat} {H : Mem} {F F' : Nat → List AV} {t : TypeId} {own : Option Nat} {ds : List Bool} {wr : Nat → Bool} {a : Act} {Hr : List RBlk} (hl : H[l]? = some (.row n s F t own)) (hn : n' ≤ n) (hF : ∀ i, i < n' → F' i = F i) (h : PatSt R D live k ⟨H, ds, wr⟩ a Hr) : PatSt R D live k ⟨H.set l (.row n' s F' t own), ds, wr⟩ a Hr := by
  obtain ⟨r, vs, e, ht, hB, hA⟩ := h
  exact ⟨r, vs, e, ht, relB_same hB hl (relI_row hn hF), apart_same hA hl rfl (by cases own <;> rfl)⟩
theorem bun_row {Ds : List Nat} {n0 : Nat} {w0 : World} {l n n' s : Nat} {H : Mem} {F F' : Nat → List AV} {t : TypeId} {own : Option Nat} {Hr : List RBlk} {w : World} (hl : H[l]? = some (.row n s F t own)) (h : Bun R Ds n0 w0 H Hr w) : Bun R Ds n0 w0 (H.set l (.row n' s F' t own)) Hr w :=
  ⟨⟨own_same h.own.1 hl rfl, h.own.2⟩, h.marks, h.nodup, h.fresh, h.below, h.size⟩
/-- Cells that stand for the same. -/
theorem patSt_cells {live : List (Nat × AV)} {n l : Nat} {H : Mem} {ds : List Bool} {wr : Nat → Bool} {a : Act} {Hr : List RBlk} {cs cs' : List AV} {t : TypeId} {Vs : List Value} (hl : H[l]? = some (.cells cs t)) (h1 : AV.vals? cs = some Vs) (h2 : AV.vals? cs' = some Vs) (h : PatSt R D live n ⟨H, ds, wr⟩ a Hr) : PatSt R D live n ⟨H.set l (.cells cs' t), ds, wr⟩ a Hr := by
  obtain ⟨r, vs, e, ht, hB, hA⟩ := h
  refine ⟨r, vs, e, ht, relB_same hB hl (fun p hp => ?_), apart_same hA hl rfl rfl⟩
  cases hp with | cells hp =>
  rw [hp.vals h1]
  exact .cells (RelL.of_vals h2)
theorem bun_cells {Ds : List Nat} {n0 : Nat} {w0 : World} {l : Nat} {H : Mem} {cs cs' : List AV} {t : TypeId} {Hr : List RBlk} {w : World} (hl : H[l]? = some (.cells cs t)) (h : Bun R Ds n0 w0 H Hr w) : Bun R Ds n0 w0 (H.set l (.cells cs' t)) Hr w :=
  ⟨⟨own_same h.own.1 hl rfl, h.own.2⟩, h.marks, h.nodup, h.fresh, h.below, h.size⟩
end Go.Proofs.Ytjbleblllmbcbaa
