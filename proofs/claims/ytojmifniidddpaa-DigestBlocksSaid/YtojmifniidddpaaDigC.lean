/- The rounds numbers, and a state turned over. No condition. -/
import Derived.Test.YtojmifniidddpaaDigB
set_option linter.unusedVariables false
set_option linter.unusedSimpArgs false
set_option maxRecDepth 100000
namespace Go.Proofs.Ytojmifniidddpaa
open Go.RowKit

def consts : List Int := [1, 32898, 9223372036854808714, 9223372039002292224, 32907, 2147483649, 9223372039002292353, 9223372036854808585, 138, 136, 2147516425, 2147483658, 2147516555, 9223372036854775947, 9223372036854808713, 9223372036854808579, 9223372036854808578, 9223372036854775936, 32778, 9223372039002259466, 9223372039002292353, 9223372036854808704, 2147483649, 9223372039002292232]
def xr (l : List (BitVec 64)) (c : BitVec 64) : List (BitVec 64) := [lane l 0 ^^^ c, lane l 1, lane l 2, lane l 3, lane l 4, lane l 5, lane l 6, lane l 7, lane l 8, lane l 9, lane l 10, lane l 11, lane l 12, lane l 13, lane l 14, lane l 15, lane l 16, lane l 17, lane l 18, lane l 19, lane l 20, lane l 21, lane l 22, lane l 23, lane l 24]
def rnd (l : List (BitVec 64)) (n : Int) : List (BitVec 64) := xr (rowS (pk (plaS (pk (colS l))))) (BitVec.ofInt 64 n)
def turnS (l : List (BitVec 64)) : List (BitVec 64) := consts.foldl rnd l
def constsA : AV := .agg (consts.map fun n => .int .u64 true n)
theorem consts_ev : Is (evCall E0 600 11 [] ⟨[], [], 0⟩ (fun v _ => v = constsA)) := ev_of (r := constsA) (by kernel_rfl)
def constsV : Value := .agg (consts.map fun n => Value.int .u64 n).toArray
theorem told_consts : constsA.told? = some constsV := by kernel_rfl
theorem consts_calls (w : World) : Calls Try.prog 11 #[] w fun e w' => e = .returned constsV ∧ Below w.heap.size w w' :=
  ev_calls hE0 600 consts_ev.is told_consts .nil w
def ctrC (args : List AV) : Option VC := match args with
  | [] => some (constsA, [])
  | _ => none
theorem ctrC_ok : Enters Try.prog 11 ∧ ∀ args v cs, ctrC args = some (v, cs) → (∀ c ∈ cs, c = true) → ∃ V, v.told? = some V ∧ ∀ (ρ : List Nat) (Args : List Value), RelL ρ args Args → ∀ w, Calls Try.prog 11 Args.toArray w fun e w' => e = .returned V ∧ Below w.heap.size w w' := by
  refine ⟨ev_enters hE0 600 consts_ev.is, fun args v cs h _ => ?_⟩
  unfold ctrC at h
  split at h
  · cases h
    exact ⟨_, told_consts, fun ρ Args ha w => by cases ha; exact consts_calls w⟩
  · cases h
def ctr1 (f : FuncId) : Option (List AV → Option VC) :=
  bif Nat.beq f 31 then some (ctrL 25 fun l => pk (colS l))
  else bif Nat.beq f 32 then some (ctrL 25 fun l => pk (plaS l))
  else bif Nat.beq f 33 then some (ctrL 25 fun l => pk (rowS l))
  else bif Nat.beq f 11 then some ctrC
  else none
noncomputable def E1 : Env := ⟨Try.prog, fun _ => none, ctr1, fun _ => false⟩
theorem hE1 : EnvOK E1 := by
  refine ⟨fun _ _ h => (by cases h), fun f F h => ?_, rfl⟩
  simp only [E1, ctr1] at h ⊢
  cases h1 : Nat.beq f 31 <;> simp only [h1, cond_true, cond_false] at h
  · cases h2 : Nat.beq f 32 <;> simp only [h2, cond_true, cond_false] at h
    · cases h3 : Nat.beq f 33 <;> simp only [h3, cond_true, cond_false] at h
      · cases h4 : Nat.beq f 11 <;> simp only [h4, cond_true, cond_false] at h
        · cases h
        · cases h; rw [Nat.eq_of_beq_eq_true h4]; exact ctrC_ok
      · cases h; rw [Nat.eq_of_beq_eq_true h3]; exact rows_ok
    · cases h; rw [Nat.eq_of_beq_eq_true h2]; exact places_ok
  · cases h; rw [Nat.eq_of_beq_eq_true h1]; exact cols_ok
theorem turn_ev (x0 x1 x2 x3 x4 x5 x6 x7 x8 x9 x10 x11 x12 x13 x14 x15 x16 x17 x18 x19 x20 x21 x22 x23 x24 : BitVec 64) : Is (evCall E1 600 12 [bvs [x0, x1, x2, x3, x4, x5, x6, x7, x8, x9, x10, x11, x12, x13, x14, x15, x16, x17, x18, x19, x20, x21, x22, x23, x24]] ⟨[], [], 0⟩ (fun v _ => v = bvs (turnS [x0, x1, x2, x3, x4, x5, x6, x7, x8, x9, x10, x11, x12, x13, x14, x15, x16, x17, x18, x19, x20, x21, x22, x23, x24]))) := ev_of (r := bvs (turnS [x0, x1, x2, x3, x4, x5, x6, x7, x8, x9, x10, x11, x12, x13, x14, x15, x16, x17, x18, x19, x20, x21, x22, x23, x24])) (by kernel_rfl)
theorem turn_calls {l : List (BitVec 64)} (hl : l.length = 25) (w : World) : Calls Try.prog 12 #[u64s l] w fun e w' => e = .returned (u64s (turnS l)) ∧ Below w.heap.size w w' := by
  obtain ⟨x0, x1, x2, x3, x4, x5, x6, x7, x8, x9, x10, x11, x12, x13, x14, x15, x16, x17, x18, x19, x20, x21, x22, x23, x24, rfl⟩ := len25 hl
  exact calls_agg hE1 (turn_ev x0 x1 x2 x3 x4 x5 x6 x7 x8 x9 x10 x11 x12 x13 x14 x15 x16 x17 x18 x19 x20 x21 x22 x23 x24) w
end Go.Proofs.Ytojmifniidddpaa
