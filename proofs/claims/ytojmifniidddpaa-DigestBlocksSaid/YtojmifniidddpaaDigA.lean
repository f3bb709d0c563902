/- Numbers of 64 bits, and the parts of a round on them. No program of its own. No condition. -/
import Derived.Test.YtojmifniidddpaaEv10
set_option linter.unusedVariables false
set_option linter.unusedSimpArgs false
namespace Go.Proofs.Ytojmifniidddpaa
open Go.RowKit

/-- Numbers of 64 bits as cells. -/
abbrev b64 (x : BitVec 64) : AV := .bv .u64 x
def bvs (l : List (BitVec 64)) : AV := .agg (l.map b64)
def u64s (l : List (BitVec 64)) : Value := .agg (l.map fun x => Value.int .u64 (x.toNat : Int)).toArray
theorem vals_bvs : ∀ l : List (BitVec 64), AV.vals? (l.map b64) = some (l.map fun x => Value.int .u64 (x.toNat : Int))
  | [] => rfl
  | x :: r => by simp only [List.map_cons, AV.vals?, vals_bvs r, AV.val?]; rfl
theorem told_bvs (l : List (BitVec 64)) : (bvs l).told? = some (u64s l) := by
  simp only [bvs, AV.told?, AV.plain?, vals_bvs]; rfl
theorem rel_bvs (ρ : List Nat) (l : List (BitVec 64)) : Rel ρ (bvs l) (u64s l) := Rel.of_told (told_bvs l)
/-- A cell as 64 bits. -/
def laneOf : AV → Option (BitVec 64)
  | .bv .u64 a => some a
  | .int .u64 true n => bif decide (0 ≤ n ∧ n < 18446744073709551616) then some (BitVec.ofInt 64 n) else none
  | _ => none
def lanesOf : List AV → Option (List (BitVec 64))
  | [] => some []
  | c :: r => match laneOf c, lanesOf r with
    | some a, some l => some (a :: l)
    | _, _ => none
theorem laneOf_rel {ρ : List Nat} {c : AV} {C : Value} {a : BitVec 64} (h : laneOf c = some a) (hr : Rel ρ c C) : C = .int .u64 (a.toNat : Int) := by
  unfold laneOf at h
  split at h
  · cases h; cases hr; rfl
  · rename_i n
    cases hd : decide (0 ≤ n ∧ n < 18446744073709551616) <;> simp only [hd, cond_true, cond_false] at h
    · cases h
    · cases h; cases hr
      have := of_decide_eq_true hd
      congr 1
      rw [BitVec.toNat_ofInt]
      omega
  · cases h
theorem lanesOf_rel {ρ : List Nat} : ∀ {cs : List AV} {Cs : List Value} {l : List (BitVec 64)}, lanesOf cs = some l → RelL ρ cs Cs → Cs = l.map fun x => Value.int .u64 (x.toNat : Int)
  | [], _, _, h, hr => by cases hr; cases h; rfl
  | c :: r, _, l, h, hr => by
    cases hr with
    | cons h1 h2 =>
      unfold lanesOf at h
      split at h
      · rename_i a l' e1 e2
        cases h
        rw [laneOf_rel e1 h1, lanesOf_rel e2 h2]; rfl
      · cases h
/-- What is computed is what is wanted. -/
structure Is (p : Prop) : Prop where
  is : p
theorem ev_of {p : Prop} {r : AV} (h : p = (r = r)) : Is p := ⟨h ▸ rfl⟩
/-- A function from numbers to numbers. -/
def ctrL (n : Nat) (F : List (BitVec 64) → List (BitVec 64)) (args : List AV) : Option VC :=
  match args with
  | [.agg cs] => match lanesOf cs with
    | some l => bif Nat.beq l.length n then some (bvs (F l), []) else none
    | none => none
  | _ => none
theorem calls_agg {E : Env} (hE : EnvOK E) {m : Nat} {f : FuncId} {l r : List (BitVec 64)} (h : Is (evCall E m f [bvs l] ⟨[], [], 0⟩ (fun v _ => v = bvs r))) (w : World) :
    Calls E.P f #[u64s l] w fun e w' => e = .returned (u64s r) ∧ Below w.heap.size w w' :=
  ev_calls hE m h.is (told_bvs r) (.cons (rel_bvs [] l) .nil) w
theorem ctrL_ok {P : Program} {n : Nat} {F : List (BitVec 64) → List (BitVec 64)} {f : FuncId} (hen : Enters P f) (h : ∀ l, l.length = n → ∀ w, Calls P f #[u64s l] w fun e w' => e = .returned (u64s (F l)) ∧ Below w.heap.size w w') :
    Enters P f ∧ ∀ args v cs, ctrL n F args = some (v, cs) → (∀ c ∈ cs, c = true) → ∃ V, v.told? = some V ∧ ∀ (ρ : List Nat) (Args : List Value), RelL ρ args Args → ∀ w, Calls P f Args.toArray w fun e w' => e = .returned V ∧ Below w.heap.size w w' := by
  refine ⟨hen, fun args v cs hv _ => ?_⟩
  unfold ctrL at hv
  split at hv
  · rename_i cells
    split at hv
    · rename_i l hl
      cases hn : Nat.beq l.length n <;> simp only [hn, cond_true, cond_false] at hv
      · cases hv
      · cases hv
        refine ⟨_, told_bvs _, fun ρ Args ha w => ?_⟩
        cases ha with
        | cons h1 h2 => cases h2; cases h1 with
          | agg h1 =>
            rw [lanesOf_rel hl h1]
            exact h l (Nat.eq_of_beq_eq_true hn) w
    · cases hv
  · cases hv

/-- The lanes, one by one. -/
def lane (l : List (BitVec 64)) (i : Nat) : BitVec 64 := l.getD i 0
def pk (l : List (BitVec 64)) : List (BitVec 64) := [lane l 0, lane l 1, lane l 2, lane l 3, lane l 4, lane l 5, lane l 6, lane l 7, lane l 8, lane l 9, lane l 10, lane l 11, lane l 12, lane l 13, lane l 14, lane l 15, lane l 16, lane l 17, lane l 18, lane l 19, lane l 20, lane l 21, lane l 22, lane l 23, lane l 24]
def rotl (x : BitVec 64) (n : Nat) : BitVec 64 := x <<< n ||| x >>> (64 - n)
def par (l : List (BitVec 64)) (j : Nat) : BitVec 64 := ((((0#64 ^^^ lane l j) ^^^ lane l (j + 5)) ^^^ lane l (j + 10)) ^^^ lane l (j + 15)) ^^^ lane l (j + 20)
def colA (l : List (BitVec 64)) (i : Nat) : BitVec 64 := lane l i ^^^ (par l ((i + 4) % 5) ^^^ rotl (par l ((i + 1) % 5)) 1)
def colR (l : List (BitVec 64)) (i : Nat) : BitVec 64 := lane l i ^^^ par l ((i + 4) % 5) ^^^ rotl (par l ((i + 1) % 5)) 1
def rowA (l : List (BitVec 64)) (i : Nat) : BitVec 64 := lane l i ^^^ (~~~ lane l (i - i % 5 + (i + 1) % 5) &&& lane l (i - i % 5 + (i + 2) % 5))
def each (f : Nat → BitVec 64) : List (BitVec 64) := [f 0, f 1, f 2, f 3, f 4, f 5, f 6, f 7, f 8, f 9, f 10, f 11, f 12, f 13, f 14, f 15, f 16, f 17, f 18, f 19, f 20, f 21, f 22, f 23, f 24]
def colS (l : List (BitVec 64)) : List (BitVec 64) := each (colA l)
def rowS (l : List (BitVec 64)) : List (BitVec 64) := each (rowA l)
def plaS (l : List (BitVec 64)) : List (BitVec 64) := [lane l 0, rotl (lane l 6) 44, rotl (lane l 12) 43, rotl (lane l 18) 21, rotl (lane l 24) 14, rotl (lane l 3) 28, rotl (lane l 9) 20, rotl (lane l 10) 3, rotl (lane l 16) 45, rotl (lane l 22) 61, rotl (lane l 1) 1, rotl (lane l 7) 6, rotl (lane l 13) 25, rotl (lane l 19) 8, rotl (lane l 20) 18, rotl (lane l 4) 27, rotl (lane l 5) 36, rotl (lane l 11) 10, rotl (lane l 17) 15, rotl (lane l 23) 56, rotl (lane l 2) 62, rotl (lane l 8) 55, rotl (lane l 14) 39, rotl (lane l 15) 41, rotl (lane l 21) 2]
theorem col_same (l : List (BitVec 64)) : each (colR l) = colS l := by simp only [colS, each, colA, colR, BitVec.xor_assoc]
theorem len25 {l : List (BitVec 64)} (h : l.length = 25) : ∃ x0 x1 x2 x3 x4 x5 x6 x7 x8 x9 x10 x11 x12 x13 x14 x15 x16 x17 x18 x19 x20 x21 x22 x23 x24, l = [x0, x1, x2, x3, x4, x5, x6, x7, x8, x9, x10, x11, x12, x13, x14, x15, x16, x17, x18, x19, x20, x21, x22, x23, x24] := by
  match l, h with
  | [x0, x1, x2, x3, x4, x5, x6, x7, x8, x9, x10, x11, x12, x13, x14, x15, x16, x17, x18, x19, x20, x21, x22, x23, x24], _ => exact ⟨x0, x1, x2, x3, x4, x5, x6, x7, x8, x9, x10, x11, x12, x13, x14, x15, x16, x17, x18, x19, x20, x21, x22, x23, x24, rfl⟩
end Go.Proofs.Ytojmifniidddpaa
