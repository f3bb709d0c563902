/- Worlds that grow by one block that is written. No program. No condition. -/
import Derived.Test.YtjlijocnmicdpaaRngB
set_option linter.unusedVariables false
set_option linter.unusedSimpArgs false
namespace Go.Proofs.Ytjlijocnmicdpaa
open Go.RowKit

theorem Blk.other {w : World} {b : Nat} {c : Array Value} {t : TypeId} (h : Blk w b c t) {g : Nat} (hne : b ≠ g) (o : Nat) (v : Value) : Blk (w.setCell ⟨g, o, none⟩ v) b c t := (Below.heap_setCell w ⟨g, o, none⟩ v b hne).trans h
theorem grownBy_trans {A B C : World} {r : Option Nat} (h : A.grownBy B r) (k : B.grownBy C r) : A.grownBy C r :=
  ⟨k.os.trans h.os, k.tape.trans h.tape, k.output.trans h.output, Nat.le_trans h.size k.size, fun i hi hne => (k.block i (Nat.lt_of_lt_of_le hi h.size) hne).trans (h.block i hi hne)⟩
theorem grownBy_refl (A : World) (r : Option Nat) : A.grownBy A r := ⟨rfl, rfl, rfl, Nat.le_refl _, fun _ _ _ => rfl⟩
theorem grownBy_set (A : World) (b o : Nat) (v : Value) : A.grownBy (A.setCell ⟨b, o, none⟩ v) (some b) :=
  ⟨rfl, rfl, rfl, by simp, fun k _ hk => Below.heap_setCell A ⟨b, o, none⟩ v k (fun e => hk (by rw [e]))⟩
theorem grownBy_setr {A B : World} {r : Nat} (h : A.grownBy B (some r)) (b o : Nat) (v : Value) (e : b = r := by rfl) : A.grownBy (B.setCell ⟨b, o, none⟩ v) (some r) := grownBy_trans h (by rw [← e]; exact grownBy_set B b o v)
theorem grownBy_below {A B : World} (h : Below A.heap.size A B) (r : Option Nat) : A.grownBy B r := ⟨h.os, h.tape, h.output, h.size, fun k hk _ => h.block k hk⟩
theorem keep_grown {S : Nat → Prop} {A B C : World} {b : Nat} (h : Keep S A B) (hg : B.grownBy C (some b)) (hp : ¬ S b ∨ A.heap.size ≤ b) : Keep S A C :=
  ⟨hg.os.trans h.os, hg.tape.trans h.tape, hg.output.trans h.output, Nat.le_trans h.size hg.size, fun k hk hl => (hg.block k (Nat.lt_of_lt_of_le hl h.size) (fun e => by cases e; exact hp.elim (fun hp => hp hk) (fun hp => absurd hl (Nat.not_lt.2 hp)))).trans (h.block k hk hl)⟩
theorem own_grown {A B : World} {b : Nat} {H : List Block} (ho : Own H A) (hg : A.grownBy B (some b)) (hs : ∀ p ∈ H, p.1 ≠ b) : Own H B := fun p hp => (hg.block p.1 (ho p hp).lt (fun e => hs p hp (Option.some.inj e))).trans (ho p hp)
theorem blk_grown {A B : World} {b g : Nat} {c : Array Value} {t : TypeId} (h : Blk A g c t) (hg : A.grownBy B (some b)) (hs : g ≠ b) : Blk B g c t := (hg.block g h.lt (fun e => hs (Option.some.inj e))).trans h
theorem below_grownBy {n : Nat} {A B C : World} {b : Nat} (h : Below n A B) (hg : B.grownBy C (some b)) (hn : n ≤ A.heap.size) (hb : n ≤ b) : Below n A C := h.grown hg (Nat.le_trans hn h.size) (fun k e => by cases e; exact hb)
end Go.Proofs.Ytjlijocnmicdpaa
