/- Memory that is written, and grows. No program of its own. No condition. -/
import Derived.Test.YtjbleblllmbcbaaEy7
import Derived.Shelf.Abstract
set_option linter.unusedVariables false
set_option linter.unusedSimpArgs false
namespace Go.Proofs.Ytjbleblllmbcbaa
open Go.RowKit
variable {D : List Deferred} {R : Rws}

def RelSt (R : Rws) (D : List Deferred) (st : ASt) (a : Act) (Hr : List RBlk) : Prop := ∃ vs : List Value, a = ⟨vs.toArray, D⟩ ∧ RelL R (nums Hr) st.tl vs ∧ RelB R (nums Hr) st.m.H Hr ∧ Apart st.m.H Hr
structure Stp (wr : Nat → Bool) (Hr : List RBlk) (w : World) (Hr' : List RBlk) (w' : World) : Prop where
  os : w'.os = w.os
  tape : w'.tape = w.tape
  output : w'.output = w.output
  size : w.heap.size ≤ w'.heap.size
  ext : ∃ σ, nums Hr' = nums Hr ++ σ ∧ ∀ q ∈ σ, w.heap.size ≤ q.b ∨ ∃ (l : Nat) (p : Num), (nums Hr)[l]? = some p ∧ p.b = q.b ∧ wr l = true
  block : ∀ k, k < w.heap.size → (∀ (l : Nat) (q : Num), (nums Hr)[l]? = some q → q.b = k → wr l = false) → w'.heap[k]? = w.heap[k]?
section
variable {wr : Nat → Bool}
theorem Stp.of_below {Hr : List RBlk} {w w' : World} (h : Below w.heap.size w w') : Stp wr Hr w Hr w' :=
  ⟨h.os, h.tape, h.output, h.size, ⟨[], by simp, by simp⟩, fun k hk _ => h.block k hk⟩
theorem Stp.refl (wr : Nat → Bool) (Hr : List RBlk) (w : World) : Stp wr Hr w Hr w := .of_below (Below.refl _ _)
/-- One behind the other; what the first has made the second may write. -/
theorem Stp.trans' {A B C : List RBlk} {u v w : World} (h : Stp wr A u B v) (k : Stp (fun l => wr l || Nat.ble A.length l) B v C w) : Stp wr A u C w := by
  obtain ⟨σ, e1, n1⟩ := h.ext
  obtain ⟨τ, e2, n2⟩ := k.ext
  have hlen : (nums A).length = A.length := by simp [nums]
  refine ⟨k.os.trans h.os, k.tape.trans h.tape, k.output.trans h.output, Nat.le_trans h.size k.size, ⟨σ ++ τ, by rw [e2, e1, List.append_assoc], fun q hq => ?_⟩, fun i hi hn => ?_⟩
  · rcases List.mem_append.1 hq with hq | hq
    · exact n1 q hq
    · rcases n2 q hq with h1 | ⟨l, p, hp, hpb, hw⟩
      · exact .inl (Nat.le_trans h.size h1)
      · rw [e1] at hp
        rcases Nat.lt_or_ge l (nums A).length with hlt | hge
        · rw [List.getElem?_append_left hlt] at hp
          refine .inr ⟨l, p, hp, hpb, ?_⟩
          have : Nat.ble A.length l = false := by rw [Bool.eq_false_iff]; intro hb; have := Nat.le_of_ble_eq_true hb; omega
          simpa [this] using hw
        · rw [List.getElem?_append_right hge] at hp
          rcases n1 p (List.mem_of_getElem? hp) with h1 | ⟨l1, p1, x1, x2, x3⟩
          · exact .inl (by rw [← hpb]; exact h1)
          · exact .inr ⟨l1, p1, x1, x2.trans hpb, x3⟩
  · rw [k.block i (Nat.lt_of_lt_of_le hi h.size), h.block i hi hn]
    intro l q hl hqi
    rw [e1] at hl
    rcases Nat.lt_or_ge l (nums A).length with hlt | hge
    · rw [List.getElem?_append_left hlt] at hl
      have h1 := hn l q hl hqi
      have : Nat.ble A.length l = false := by rw [Bool.eq_false_iff]; intro hb; have := Nat.le_of_ble_eq_true hb; omega
      simp [h1, this]
    · rw [List.getElem?_append_right hge] at hl
      rcases n1 q (List.mem_of_getElem? hl) with h1 | ⟨l1, p1, x1, x2, x3⟩
      · omega
      · have := hn l1 p1 x1 (x2.trans hqi)
        rw [this] at x3; cases x3
theorem Stp.mono {wr' : Nat → Bool} {A B : List RBlk} {u v : World} (h : Stp wr A u B v) (hw : ∀ l, wr l = true → wr' l = true) : Stp wr' A u B v := by
  obtain ⟨σ, e, n⟩ := h.ext
  refine ⟨h.os, h.tape, h.output, h.size, ⟨σ, e, fun q hq => (n q hq).imp id fun ⟨l, p, a, b, c⟩ => ⟨l, p, a, b, hw l c⟩⟩, fun k hk hn => h.block k hk fun l q hl hq => ?_⟩
  have := hn l q hl hq
  cases hwl : wr l
  · rfl
  · rw [hw l hwl] at this; cases this
theorem Stp.trans {A B C : List RBlk} {u v w : World} (h : Stp wr A u B v) (k : Stp wr B v C w) : Stp wr A u C w := h.trans' (k.mono fun l hl => by simp [hl])
/-- The rows that are only read stay. -/
theorem Stp.rd {A B : List RBlk} {u v : World} (h : Stp wr A u B v) (hr : Rd R ((nums A).map (·.b)) u) : Rd R ((nums B).map (·.b)) v := fun j r hj b off ha h0 => by
  obtain ⟨h1, h2, h3⟩ := hr j r hj b off ha h0
  obtain ⟨σ, e1, n1⟩ := h.ext
  have hb := h.block b h2 (fun l q hl hq => absurd (List.mem_map.2 ⟨q, List.mem_of_getElem? hl, hq⟩) h1)
  refine ⟨fun hm => ?_, Nat.lt_of_lt_of_le h2 h.size, fun i hi q u' hu => ?_⟩
  · rw [e1, List.map_append] at hm
    rcases List.mem_append.1 hm with hm | hm
    · exact h1 hm
    · obtain ⟨q, hq, hqb⟩ := List.mem_map.1 hm
      rcases n1 q hq with h4 | ⟨l, p, x1, x2, _⟩
      · omega
      · exact h1 (List.mem_map.2 ⟨p, List.mem_of_getElem? x1, x2.trans hqb⟩)
  · exact (World.cell?_of_block (a := ⟨b, off + i * r.s + q, none⟩) hb).trans (h3 i hi q u' hu)
end
theorem own_lt {H : Mem} {Hr : List RBlk} {w : World} (h : OwnM H Hr w) (hl : Hr.length = H.length) {l : Nat} {p : RBlk} (hp : Hr[l]? = some p) : p.b < w.heap.size := by
  have hlt : l < H.length := by rw [← hl]; exact (List.getElem?_eq_some_iff.1 hp).1
  exact (h l _ p (List.getElem?_eq_getElem hlt) hp).1
/-- Something new. -/
theorem own_new {H : Mem} {Hr : List RBlk} {w w' : World} (h : OwnM H Hr w) (hl : Hr.length = H.length) (hb : Below w.heap.size w w') {it : AIt} {p : RBlk} (hp : w'.heap[p.b]? = some p.o) : OwnM (H ++ [it]) (Hr ++ [p]) w' := fun l jt q h1 h2 => by
  rcases Nat.lt_trichotomy l H.length with hlt | heq | hgt
  · rw [List.getElem?_append_left hlt] at h1
    rw [List.getElem?_append_left (by rw [hl]; exact hlt)] at h2
    exact h.grow hb l jt q h1 h2
  · subst heq
    rw [List.getElem?_append_right (by rw [hl]; exact Nat.le_refl _), hl, Nat.sub_self] at h2
    cases h2
    exact ⟨(Array.getElem?_eq_some_iff.1 hp).1, fun _ => hp⟩
  · rw [List.getElem?_eq_none (by simp; omega)] at h1
    cases h1
theorem apart_new {H : Mem} {Hr : List RBlk} {w : World} (ha : Apart H Hr) (h : OwnM H Hr w) (hl : Hr.length = H.length) {it : AIt} {p : RBlk} (hp : w.heap.size ≤ p.b) : Apart (H ++ [it]) (Hr ++ [p]) := by
  have key : ∀ (l : Nat) jt q, (H ++ [it])[l]? = some jt → (Hr ++ [p])[l]? = some q → (l < H.length ∧ H[l]? = some jt ∧ Hr[l]? = some q ∧ q.b < w.heap.size) ∨ (l = H.length ∧ q = p) := fun l jt q h1 h2 => by
    rcases Nat.lt_trichotomy l H.length with hlt | heq | hgt
    · rw [List.getElem?_append_left hlt] at h1
      rw [List.getElem?_append_left (by rw [hl]; exact hlt)] at h2
      exact .inl ⟨hlt, h1, h2, own_lt h hl h2⟩
    · subst heq
      rw [List.getElem?_append_right (by rw [hl]; exact Nat.le_refl _), hl, Nat.sub_self] at h2
      cases h2
      exact .inr ⟨rfl, rfl⟩
    · rw [List.getElem?_eq_none (by simp; omega)] at h1
      cases h1
  intro l m it1 it2 p1 p2 hne h1 h2 l1 l2 q1 q2 hb
  rcases key l it1 p1 h1 q1 with ⟨a1, a2, a3, a4⟩ | ⟨a1, rfl⟩ <;> rcases key m it2 p2 h2 q2 with ⟨b1, b2, b3, b4⟩ | ⟨b1, rfl⟩
  · exact ha l m it1 it2 p1 p2 hne a2 b2 l1 l2 a3 b3 hb
  · omega
  · omega
  · omega
/-- What is left when what is written through l is written. -/
theorem dropR_get {H : Mem} {l k : Nat} {it : AIt} (h : (dropR l H)[k]? = some it) (hlv : it.live = true) : H[k]? = some it ∧ (k ≠ l → it.owner k ≠ l) := by
  unfold dropR at h
  obtain ⟨it0, h1, rfl⟩ := dropI_get h
  cases hb : (!Nat.beq k l && Nat.beq (it0.owner k) l) <;> simp only [hb, cond_true, cond_false] at hlv ⊢
  · refine ⟨h1, fun hk he => ?_⟩
    have e1 : Nat.beq k l = false := by
      rw [Bool.eq_false_iff]; intro e; exact hk (Nat.eq_of_beq_eq_true e)
    have e2 : Nat.beq (it0.owner k) l = true := by rw [he]; exact Nat.beq_refl l
    rw [e1, e2] at hb; cases hb
  · cases hlv
theorem own_write {H : Mem} {Hr : List RBlk} {w w' : World} {l : Nat} {it it' : AIt} {p p' : RBlk} (h : OwnM H Hr w) (ha : Apart H Hr) (hl : Hr.length = H.length) (hi : H[l]? = some it) (hlv : it.live = true) (how : it.owner l = l) (hp : Hr[l]? = some p) (hpb : p'.b = p.b) (hs : ∀ k, k < w.heap.size → k ≠ p.b → w'.heap[k]? = w.heap[k]?) (hz : w.heap.size ≤ w'.heap.size) (hw : w'.heap[p.b]? = some p'.o) : OwnM ((dropR l H).set l it') (Hr.set l p') w' := fun k jt q h1 h2 => by
  by_cases e : l = k
  · subst e
    have : l < Hr.length := (List.getElem?_eq_some_iff.1 hp).1
    rw [List.getElem?_set_self this] at h2
    cases h2
    rw [hpb]
    exact ⟨(Array.getElem?_eq_some_iff.1 hw).1, fun _ => hw⟩
  · rw [List.getElem?_set_ne e] at h1 h2
    have hlt := own_lt h hl h2
    refine ⟨Nat.lt_of_lt_of_le hlt hz, fun hjl => ?_⟩
    obtain ⟨g1, g2⟩ := dropR_get h1 hjl
    have hne : q.b ≠ p.b := fun hb => g2 (Ne.symm e) ((ha k l jt it q p (Ne.symm e) g1 hi hjl hlv h2 hp hb).trans how)
    rw [hs q.b hlt hne]
    exact (h k jt q g1 h2).2 hjl
theorem apart_write {H : Mem} {Hr : List RBlk} {l : Nat} {it it' : AIt} {p p' : RBlk} (ha : Apart H Hr) (hi : H[l]? = some it) (hlv : it.live = true) (how : it.owner l = l) (hp : Hr[l]? = some p) (hpb : p'.b = p.b) : Apart ((dropR l H).set l it') (Hr.set l p') ∧ (∀ (k : Nat) jt q, k ≠ l → ((dropR l H).set l it')[k]? = some jt → jt.live = true → (Hr.set l p')[k]? = some q → q.b ≠ p.b) := by
  have far : ∀ (k : Nat) jt q, k ≠ l → ((dropR l H).set l it')[k]? = some jt → jt.live = true → (Hr.set l p')[k]? = some q → q.b ≠ p.b := fun k jt q hk h1 hjl h2 hb => by
    rw [List.getElem?_set_ne (Ne.symm hk)] at h1 h2
    obtain ⟨g1, g2⟩ := dropR_get h1 hjl
    exact g2 hk ((ha k l jt it q p hk g1 hi hjl hlv h2 hp hb).trans how)
  refine ⟨fun k m jt kt q r hne h1 h2 hj hk q1 q2 hb => ?_, far⟩
  have hlt : l < Hr.length := (List.getElem?_eq_some_iff.1 hp).1
  by_cases e1 : k = l
  · subst e1
    rw [List.getElem?_set_self hlt] at q1
    cases q1
    exact absurd (hb.symm.trans hpb) (far m kt r (Ne.symm hne) h2 hk q2)
  · by_cases e2 : m = l
    · subst e2
      rw [List.getElem?_set_self hlt] at q2
      cases q2
      exact absurd (hb.trans hpb) (far k jt q e1 h1 hj q1)
    · rw [List.getElem?_set_ne (Ne.symm e1)] at h1 q1
      rw [List.getElem?_set_ne (Ne.symm e2)] at h2 q2
      exact ha k m jt kt q r hne (dropR_get h1 hj).1 (dropR_get h2 hk).1 hj hk q1 q2 hb
end Go.Proofs.Ytjbleblllmbcbaa
