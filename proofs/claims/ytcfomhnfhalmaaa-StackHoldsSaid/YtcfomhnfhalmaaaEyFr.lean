/- Contracts said on small memories. No program of its own. No condition. -/
import Derived.Test.YtcfomhnfhalmaaaEyZ
import Derived.Test.YtcfomhnfhalmaaaEyO
set_option linter.unusedVariables false
set_option linter.unusedSimpArgs false
set_option maxRecDepth 100000
namespace Go.Proofs.Ytcfomhnfhalmaaa
open Go.RowKit

mutual
/-- The labels that lie in a value. -/
def refsA : AV → List Nat
  | .ptr l _ => [l]
  | .slice l _ _ _ => [l]
  | .func _ cs => refsL cs
  | .agg cs => refsL cs
  | .tuple cs => refsL cs
  | .gsl _ l _ _ => [l]
  | .gptr l _ _ => [l]
  | .mp l => [l]
  | .meth _ fs cs => refsL fs ++ refsL cs
  | .bool _ _ => []
  | .int _ _ _ => []
  | .bv _ _ => []
  | .raw _ => []
  | .rsl _ _ _ => []
  | .rptr _ _ _ => []
  | .xsl _ _ _ => []
  | .junk => []
  | .str _ => []
def refsL : List AV → List Nat
  | [] => []
  | c :: r => refsA c ++ refsL r
end
def refsI : AIt → List Nat
  | .cells cs _ => refsL cs
  | .row _ _ _ _ (some o) => [o]
  | _ => []
/-- Labels that are reached, each once, in the order in which they are met. -/
def meetN (H : Mem) : Nat → List Nat → List Nat → List Nat
  | 0, _, acc => acc
  | _ + 1, [], acc => acc
  | k + 1, l :: r, acc => bif memN l acc then meetN H k r acc else meetN H k (r ++ ((H[l]?).map refsI).getD []) (acc ++ [l])
def allSome : List (Option AIt) → Option Mem
  | [] => some []
  | some a :: r => (allSome r).map (a :: ·)
  | none :: _ => none
theorem allSome_at : ∀ {l : List (Option AIt)} {m : Mem}, allSome l = some m → l = m.map some
  | [], m, h => by cases h; rfl
  | some a :: r, m, h => by
    unfold allSome at h
    rw [Option.map_eq_some_iff] at h
    obtain ⟨q, h1, rfl⟩ := h
    rw [List.map_cons, ← allSome_at h1]
  | none :: _, m, h => by cases h
abbrev SmF := List AV → Mem → Option (AV × Mem × List Bool)
/-- What is known of a function on the blocks that it reaches, said of any memory. -/
def frF (S : SmF) : CtmF := fun args H wr =>
  let sel := meetN H 200 (refsL args) []
  match renL sel args, allSome (sel.map fun l => (H[l]?).bind (renI sel)) with
  | some a0, some H0 => match S a0 H0 with
    | some (v0, H0', cs) => bif nodupN sel && (liveB H0 && sel.all wr) then some (mapA (sigF sel H.length) v0, frmH sel (sigF sel H.length) H0' H, cs) else none
    | none => none
  | _, _ => none
/-- Good on small memories. -/
def GoodS (P : Program) (R : Rws) (f : FuncId) (S : SmF) : Prop := Enters P f ∧ ∀ args H v H' cs, S args H = some (v, H', cs) → (∀ c ∈ cs, c = true) → ∀ Hr w Args, RelL R (nums Hr) args Args → RelB R (nums Hr) H Hr → Apart H Hr → OwnK R H Hr w →
    Calls P f Args.toArray w fun e w' => ∃ V Hr', e = .returned V ∧ Rel R (nums Hr') v V ∧ RelB R (nums Hr') H' Hr' ∧ Apart H' Hr' ∧ OwnK R H' Hr' w' ∧ Stp allW Hr w Hr' w'
theorem frF_ok {P : Program} {R : Rws} {f : FuncId} {S : SmF} (h : GoodS P R f S) : GoodM P R f (frF S) := by
  refine ⟨h.1, fun args H wr v H' cs hF hcs Hr w Args hA hB hn hO => ?_⟩
  unfold frF at hF
  simp only at hF
  generalize hsel : meetN H 200 (refsL args) [] = sel at hF
  split at hF
  · rename_i a0 H0 h1 h2
    split at hF
    · rename_i v0 H0' cs0 h3
      cases hb : (nodupN sel && (liveB H0 && sel.all wr)) <;> simp only [hb, cond_true, cond_false] at hF
      · cases hF
      simp only [Bool.and_eq_true] at hb
      obtain ⟨b1, b2, b3⟩ := hb
      cases hF
      have h4 := allSome_at h2
      refine frame (wr0 := allW) (by have := congrArg List.length h4; simpa using this) b1 (h.2 _ _ _ _ _ h3 hcs) (fun i l hi => ?_) h1 b2 (fun i l hi _ => List.all_eq_true.1 b3 l (List.mem_of_getElem? hi)) hA hB hn hO
      have h5 := congrArg (fun z : List (Option AIt) => z[i]?) h4
      simp only [List.getElem?_map, hi, Option.map_some] at h5
      cases hj : H0[i]? with
      | none => rw [hj] at h5; cases h5
      | some jt =>
        rw [hj, Option.map_some, Option.some.injEq, Option.bind_eq_some_iff] at h5
        obtain ⟨it, h6, h7⟩ := h5
        exact ⟨it, jt, h6, rfl, h7⟩
    · cases hF
  · cases hF
/-- The same, of functions that write nothing: they may be called in a head. -/
def frR (S : SmF) : CtmF := fun args H _ =>
  let sel := meetN H 200 (refsL args) []
  match renL sel args, allSome (sel.map fun l => (H[l]?).bind (renI sel)) with
  | some a0, some H0 => match S a0 H0 with
    | some (v0, H0', cs) => bif nodupN sel && liveB H0 then some (mapA (sigF sel H.length) v0, frmH sel (sigF sel H.length) H0' H, cs) else none
    | none => none
  | _, _ => none
def newW (n : Nat) : Nat → Bool := fun j => Nat.ble n j
def GoodR (P : Program) (R : Rws) (f : FuncId) (S : SmF) : Prop := Enters P f ∧ ∀ args H v H' cs, S args H = some (v, H', cs) → (∀ c ∈ cs, c = true) → ∀ Hr w Args, RelL R (nums Hr) args Args → RelB R (nums Hr) H Hr → Apart H Hr → OwnK R H Hr w →
    Calls P f Args.toArray w fun e w' => ∃ V Hr', e = .returned V ∧ Rel R (nums Hr') v V ∧ RelB R (nums Hr') H' Hr' ∧ Apart H' Hr' ∧ OwnK R H' Hr' w' ∧ Stp (newW H.length) Hr w Hr' w'
theorem frR_ok {P : Program} {R : Rws} {f : FuncId} {S : SmF} (h : GoodR P R f S) : GoodM P R f (frR S) := by
  refine ⟨h.1, fun args H wr v H' cs hF hcs Hr w Args hA hB hn hO => ?_⟩
  unfold frR at hF
  simp only at hF
  generalize hsel : meetN H 200 (refsL args) [] = sel at hF
  split at hF
  · rename_i a0 H0 h1 h2
    split at hF
    · rename_i v0 H0' cs0 h3
      cases hb : (nodupN sel && liveB H0) <;> simp only [hb, cond_true, cond_false] at hF
      · cases hF
      simp only [Bool.and_eq_true] at hb
      obtain ⟨b1, b2⟩ := hb
      cases hF
      have h4 := allSome_at h2
      have hlen : sel.length = H0.length := by have := congrArg List.length h4; simpa using this
      refine frame (wr0 := newW H0.length) hlen b1 (h.2 _ _ _ _ _ h3 hcs) (fun i l hi => ?_) h1 b2 (fun i l hi hw => ?_) hA hB hn hO
      · have h5 := congrArg (fun z : List (Option AIt) => z[i]?) h4
        simp only [List.getElem?_map, hi, Option.map_some] at h5
        cases hj : H0[i]? with
        | none => rw [hj] at h5; cases h5
        | some jt =>
          rw [hj, Option.map_some, Option.some.injEq, Option.bind_eq_some_iff] at h5
          obtain ⟨it, h6, h7⟩ := h5
          exact ⟨it, jt, h6, rfl, h7⟩
      · have := (List.getElem?_eq_some_iff.1 hi).1
        have := Nat.le_of_ble_eq_true hw
        omega
    · cases hF
  · cases hF
end Go.Proofs.Ytcfomhnfhalmaaa
