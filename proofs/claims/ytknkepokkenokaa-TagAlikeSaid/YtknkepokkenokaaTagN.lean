/- Plain: the value of a value's cells is the value. -/
import Derived.Test.YtknkepokkenokaaTagM
set_option linter.unusedVariables false
set_option linter.unusedSimpArgs false
namespace Go.Proofs.Ytknkepokkenokaa
open Go.RowKit

theorem orI_self {l : Int} (h : U l) : orI l l = l := by
  obtain ⟨X, rfl⟩ := Int.eq_ofNat_of_zero_le h.1
  have h2 := h.2
  unfold orI
  have := bits_or_nat (X := X) (Y := X) (by omega) (by omega)
  rw [this, Nat.or_self]
theorem joinL_same {l : Int} (h : U l) : ∀ n, joinL 0 (List.replicate (n + 1) l) = l := by
  have h1 : ∀ n, joinL l (List.replicate n l) = l := fun n => by
    induction n with
    | zero => rfl
    | succ n ih => rw [List.replicate_succ]; show joinL (orI l l) _ = l; rw [orI_self h]; exact ih
  intro n
  rw [List.replicate_succ]
  show joinL (orI 0 l) _ = l
  rw [orI_zero h]; exact h1 n
theorem wcells_len (x : Nat → Nat) (l : Int) : (wcells x l).length = 32 := by simp [wcells, wbs]
theorem part_wcells (x : Nat → Nat) (l : Int) : partL (wcells x l) 0 32 = wcells x l := by
  unfold partL
  rw [wcells_len, List.drop_zero, List.take_of_length_le (by rw [wcells_len]; omega)]
  simp
theorem word_cells {x : Nat → Nat} {l : Int} (hx : ∀ q, x q < 2 ^ 64) (hl : U l) (q : Nat) (hq : q < 4) : wordX (wcells x l) q = x q ∧ wordL (wcells x l) = l := by
  unfold wordX wordL
  rw [part_wcells]
  constructor
  · have hn : (nats (wcells x l)).length = 32 := by unfold nats; rw [List.length_map, wcells_len]
    rw [← ob_bytes (x := x) (q := q) (hx q)]
    have e : ∀ j, j < 32 → fR (nats (wcells x l)) 32 j = byteAt x j := fun j hj => by
      unfold fR
      rw [hn, if_pos (by omega), List.getD_eq_getElem?_getD]
      simp [nats, wcells, wbs, show 32 - 1 - j < 32 by omega, show 31 - (32 - 1 - j) = j by omega]
    unfold ob
    rw [e (8 * q) (by omega), e (8 * q + 1) (by omega), e (8 * q + 2) (by omega), e (8 * q + 3) (by omega), e (8 * q + 4) (by omega), e (8 * q + 5) (by omega), e (8 * q + 6) (by omega), e (8 * q + 7) (by omega)]
  · have e : (wcells x l).map Prod.snd = List.replicate (31 + 1) l := by simp [wcells, wbs]; rfl
    rw [e]; exact joinL_same hl 31
end Go.Proofs.Ytknkepokkenokaa
