/- Slices of bytes, cut. -/
import Derived.Test.YtojmifniidddpaaCat
set_option linter.unusedVariables false
set_option linter.unusedSimpArgs false
namespace Go.Proofs.Ytojmifniidddpaa
open Go.RowKit

def cutA (A : Option Addr) (h cap : Nat) : Option Addr := if cap = h then A else A.map (·.add h)
theorem cut_run (A : Option Addr) (m cap h : Nat) (x : Int) (hx : x = h) (hm : h ≤ m) (hcap : m ≤ cap) (V : World) :
    (Instr.sliceAt 22 (.slice A m cap) (some (.int .i64 x)) none none).run Try.prog V = .ok (.slice (cutA A h cap) (m - h) (cap - h)) V := by
  have hu : Try.prog.underlying 22 = some (.slice (Try.prog.elem 22)) := by kernel_rfl
  have hz : (sizeOf (Try.prog.elem 22)).run Try.prog V = .ok 1 V := by kernel_rfl
  subst hx
  rw [run_sliceAt_slice V _ _ _ _ _ hu, run_slice_l V _ A m cap hu .i64 h (by omega) (by omega), hz]
  simp [sliced, cutA, Result.andThen]
theorem catP_one (p : Prt) : catP [p] = p.xs := by simp [catP]
theorem catP_two (p q : Prt) : catP [p, q] = p.xs ++ q.xs := by simp [catP]
theorem SlAt.cut {w : World} {A : Option Addr} {cs : List Value} (h : SlAt w A cs) (k cap : Nat) (hk : k ≤ cap) (hl : cs.length ≤ cap) : SlAt w (cutA A k cap) (cs.drop k) := by
  unfold cutA
  split
  · exact .inl (List.drop_eq_nil_of_le (by omega))
  · rcases h with h | ⟨b, off, rfl, hb, hc⟩
    · exact .inl (by rw [h]; simp)
    · refine .inr ⟨b, off + k, by simp [Addr.add_lit], hb, fun j u hu => ?_⟩
      rw [List.getElem?_drop] at hu
      rw [Nat.add_assoc]; exact hc _ u hu
theorem SlAt.firsts {w : World} {A : Option Addr} {cs : List Value} (h : SlAt w A cs) (k : Nat) : SlAt w A (cs.take k) := by
  rcases h with h | ⟨b, off, rfl, hb, hc⟩
  · exact .inl (by rw [h]; simp)
  · refine .inr ⟨b, off, rfl, hb, fun j u hu => ?_⟩
    rw [List.getElem?_take] at hu
    split at hu
    · exact hc j u hu
    · cases hu
theorem cutA_none {A : Option Addr} {h cap : Nat} (e : cutA A h cap = none) : A = none := by
  unfold cutA at e
  split at e
  · exact e
  · cases A with
    | none => rfl
    | some a => cases e
end Go.Proofs.Ytojmifniidddpaa
