/- The document on a round, and a state turned over. No condition. -/
import Derived.Test.YtojmifniidddpaaDigK
set_option linter.unusedVariables false
set_option linter.unusedSimpArgs false
set_option maxRecDepth 100000
namespace Go.Proofs.Ytojmifniidddpaa
open Go.RowKit

def ctrK (args : List AV) : Option VC := match args with
  | [.int .i64 _ r] => some (b64 (constB r), [decide (0 ≤ r ∧ r < 24)])
  | _ => none
theorem ctrK_ok : Enters Try.prog 14 ∧ ∀ args v cs, ctrK args = some (v, cs) → (∀ c ∈ cs, c = true) → ∃ V, v.told? = some V ∧ ∀ (ρ : List Nat) (Args : List Value), RelL ρ args Args → ∀ w, Calls Try.prog 14 Args.toArray w fun e w' => e = .returned V ∧ Below w.heap.size w w' := by
  refine ⟨ev_enters hE0 600 constant0.is, fun args v cs h hc => ?_⟩
  unfold ctrK at h
  split at h
  · cases h
    refine ⟨_, rfl, fun ρ Args ha w => ?_⟩
    have hr := of_decide_eq_true (hc _ (List.mem_singleton.2 rfl))
    cases ha with
    | cons h1 h2 => cases h2; cases h1; exact constant_at hr w
  · cases h
def ctr2 (f : FuncId) : Option (List AV → Option VC) :=
  bif Nat.beq f 14 then some ctrK else none
noncomputable def E2 : Env := ⟨Try.prog, fun _ => none, ctr2, fun _ => false⟩
theorem hE2 : EnvOK E2 := by
  refine ⟨fun _ _ h => (by cases h), fun f F h => ?_, rfl⟩
  simp only [E2, ctr2] at h ⊢
  cases h1 : Nat.beq f 14 <;> simp only [h1, cond_true, cond_false] at h
  · cases h
  · cases h; rw [Nat.eq_of_beq_eq_true h1]; exact ctrK_ok
theorem ev_of1 {p : Prop} {c : Bool} {r : AV} (hc : c = true) (h : p = (c = true ∧ r = r)) : Is p := ⟨h ▸ ⟨hc, rfl⟩⟩
def rndR (l : List (BitVec 64)) (r : Int) : List (BitVec 64) := xr (rowS (plaS (each (colR l)))) (constB r)
def rndN (l : List (BitVec 64)) (r : Int) : List (BitVec 64) := rnd l (constN r)
theorem rnd_same (l : List (BitVec 64)) (r : Int) : rndR l r = rndN l r := by
  unfold rndR rndN rnd
  rw [col_same]
  rfl
theorem round_ev (x0 x1 x2 x3 x4 x5 x6 x7 x8 x9 x10 x11 x12 x13 x14 x15 x16 x17 x18 x19 x20 x21 x22 x23 x24 : BitVec 64) {r : Int} (hr : 0 ≤ r ∧ r < 24) : Is (evCall E2 600 25 [bvs [x0, x1, x2, x3, x4, x5, x6, x7, x8, x9, x10, x11, x12, x13, x14, x15, x16, x17, x18, x19, x20, x21, x22, x23, x24], .int .i64 true r] ⟨[], [], 0⟩ (fun v _ => v = bvs (rndR [x0, x1, x2, x3, x4, x5, x6, x7, x8, x9, x10, x11, x12, x13, x14, x15, x16, x17, x18, x19, x20, x21, x22, x23, x24] r))) := ev_of1 (r := bvs (rndR [x0, x1, x2, x3, x4, x5, x6, x7, x8, x9, x10, x11, x12, x13, x14, x15, x16, x17, x18, x19, x20, x21, x22, x23, x24] r)) (c := decide (0 ≤ r ∧ r < 24)) (decide_eq_true hr) (by kernel_rfl)
theorem round_calls {l : List (BitVec 64)} (hl : l.length = 25) {r : Int} (hr : 0 ≤ r ∧ r < 24) (w : World) : Calls Try.prog 25 #[u64s l, .int .i64 r] w fun e w' => e = .returned (u64s (rndN l r)) ∧ Below w.heap.size w w' := by
  rw [← rnd_same]
  obtain ⟨x0, x1, x2, x3, x4, x5, x6, x7, x8, x9, x10, x11, x12, x13, x14, x15, x16, x17, x18, x19, x20, x21, x22, x23, x24, rfl⟩ := len25 hl
  exact ev_calls hE2 600 (round_ev x0 x1 x2 x3 x4 x5 x6 x7 x8 x9 x10 x11 x12 x13 x14 x15 x16 x17 x18 x19 x20 x21 x22 x23 x24 hr).is (told_bvs _) (.cons (rel_bvs [] _) (.cons .int .nil)) w
def ctrR (args : List AV) : Option VC := match args with
  | [.agg cs, .int .i64 _ r] => match lanesOf cs with
    | some l => bif Nat.beq l.length 25 then some (bvs (rndN l r), [decide (0 ≤ r ∧ r < 24)]) else none
    | none => none
  | _ => none
theorem ctrR_ok : Enters Try.prog 25 ∧ ∀ args v cs, ctrR args = some (v, cs) → (∀ c ∈ cs, c = true) → ∃ V, v.told? = some V ∧ ∀ (ρ : List Nat) (Args : List Value), RelL ρ args Args → ∀ w, Calls Try.prog 25 Args.toArray w fun e w' => e = .returned V ∧ Below w.heap.size w w' := by
  refine ⟨ev_enters hE2 600 (round_ev 0 0 0 0 0 0 0 0 0 0 0 0 0 0 0 0 0 0 0 0 0 0 0 0 0 (r := 0) (by decide)).is, fun args v cs h hc => ?_⟩
  unfold ctrR at h
  split at h
  · split at h
    · rename_i r l hl
      cases hn : Nat.beq l.length 25 <;> simp only [hn, cond_true, cond_false] at h
      · cases h
      · cases h
        refine ⟨_, told_bvs _, fun ρ Args ha w => ?_⟩
        have hr := of_decide_eq_true (hc _ (List.mem_singleton.2 rfl))
        cases ha with
        | cons h1 h2 => cases h2 with
          | cons h2 h3 => cases h3; cases h2; cases h1 with
            | agg h1 =>
              rw [lanesOf_rel hl h1]
              exact round_calls (Nat.eq_of_beq_eq_true hn) hr w
    · cases h
  · cases h
def ctr3 (f : FuncId) : Option (List AV → Option VC) :=
  bif Nat.beq f 25 then some ctrR else none
noncomputable def E3 : Env := ⟨Try.prog, fun _ => none, ctr3, fun _ => false⟩
theorem hE3 : EnvOK E3 := by
  refine ⟨fun _ _ h => (by cases h), fun f F h => ?_, rfl⟩
  simp only [E3, ctr3] at h ⊢
  cases h1 : Nat.beq f 25 <;> simp only [h1, cond_true, cond_false] at h
  · cases h
  · cases h; rw [Nat.eq_of_beq_eq_true h1]; exact ctrR_ok
def all24 (l : List Bool) : Prop := l = List.replicate 24 true
theorem ev_ofs {p : Prop} {r : AV} (h : p = (allT (List.replicate 24 true) (r = r))) : Is p := ⟨h ▸ (by unfold List.replicate; simp [allT])⟩
theorem refturn_ev (x0 x1 x2 x3 x4 x5 x6 x7 x8 x9 x10 x11 x12 x13 x14 x15 x16 x17 x18 x19 x20 x21 x22 x23 x24 : BitVec 64) : Is (evCall E3 600 13 [bvs [x0, x1, x2, x3, x4, x5, x6, x7, x8, x9, x10, x11, x12, x13, x14, x15, x16, x17, x18, x19, x20, x21, x22, x23, x24]] ⟨[], [], 0⟩ (fun v _ => v = bvs (turnS [x0, x1, x2, x3, x4, x5, x6, x7, x8, x9, x10, x11, x12, x13, x14, x15, x16, x17, x18, x19, x20, x21, x22, x23, x24]))) := ev_ofs (r := bvs (turnS [x0, x1, x2, x3, x4, x5, x6, x7, x8, x9, x10, x11, x12, x13, x14, x15, x16, x17, x18, x19, x20, x21, x22, x23, x24])) (by kernel_rfl)
theorem refturn_calls {l : List (BitVec 64)} (hl : l.length = 25) (w : World) : Calls Try.prog 13 #[u64s l] w fun e w' => e = .returned (u64s (turnS l)) ∧ Below w.heap.size w w' := by
  obtain ⟨x0, x1, x2, x3, x4, x5, x6, x7, x8, x9, x10, x11, x12, x13, x14, x15, x16, x17, x18, x19, x20, x21, x22, x23, x24, rfl⟩ := len25 hl
  exact calls_agg hE3 (refturn_ev x0 x1 x2 x3 x4 x5 x6 x7 x8 x9 x10 x11 x12 x13 x14 x15 x16 x17 x18 x19 x20 x21 x22 x23 x24) w
end Go.Proofs.Ytojmifniidddpaa
