/- Labels: joins, and which lies below which. -/
import Derived.Test.YtcfomhnfhalmaaaSl
import Derived.OwnWalk
import Derived.Shelf.Abstract
set_option linter.unusedVariables false
set_option linter.unusedSimpArgs false
namespace Go.Proofs.Ytcfomhnfhalmaaa
open Go.RowKit

theorem join1_any (x y : Int) (w : World) :
    Calls Try.prog 92 #[.int .u64 x, .int .u64 y] w fun e w' => e = .returned (.int .u64 (bits .or .u64 x y)) ∧ w = w' := by
  go_enter Try.func92, Try.ntmps92
  go_wp2_with fail
  go_ret
  exact ⟨by simp, rfl⟩
theorem refJoin_any (x y : Int) (w : World) :
    Calls Try.prog 89 #[.int .u64 x, .int .u64 y] w fun e w' => e = .returned (.int .u64 (bits .or .u64 x y)) ∧ w = w' := by
  go_enter Try.func89, Try.ntmps89
  go_wp2_with fail
  go_ret
  exact ⟨by simp, rfl⟩
/-- Below, by bits. -/
def belowI (x y : Int) : Bool := bits .andNot .u64 x y == 0
theorem setBelow_any (x y : Int) (w : World) :
    Calls Try.prog 106 #[.int .u64 x, .int .u64 y] w fun e w' => e = .returned (.bool (belowI x y)) ∧ w = w' := by
  go_enter Try.func106, Try.ntmps106
  go_wp2_with fail
  go_ret
  exact ⟨rfl, rfl⟩
set_option maxRecDepth 100000 in
theorem below_any (x y : Int) (w : World) :
    Calls Try.prog 99 #[.int .u64 x, .int .u64 y] w fun e w' => e = .returned (.bool (belowI x y)) ∧ w = w' := by
  have hfl : ∀ W : World, (Instr.field 154 (.agg #[.int .u64 x]) 0).run Try.prog W = .ok (.int .u64 x) W := fun _ => by kernel_rfl
  go_enter Try.func99, Try.ntmps99
  go_wp2_with fail
  refine (setBelow_any _ _ _).mono ?_
  rintro e w' ⟨rfl, rfl⟩
  go_wp2_with fail
  go_ret
  exact ⟨rfl, rfl⟩

/-- A bit of a number. -/
def hasI (x : Int) (k : Nat) : Bool := x / 2 ^ k % 2 == 1
theorem tmod2 {x : Int} (h : 0 ≤ x) : x.tmod 2 = x % 2 := Int.tmod_eq_emod_of_nonneg h
theorem has_any (x : Int) (k : Nat) (w : World) (hx : 0 ≤ x) (hk' : k < 64) :
    Calls Try.prog 88 #[.int .u64 x, .int .i64 k] w fun e w' => e = .returned (.bool (hasI x k)) ∧ w = w' := by
  have hd : 0 ≤ x / 2 ^ k := Int.ediv_nonneg hx (Int.pow_nonneg (by omega))
  go_enter Try.func88, Try.ntmps88
  go_wp2_with fail
  go_ret
  exact ⟨by simp [hasI, tmod2 hd], rfl⟩

/-- Whether no bit of the first is none of the second. -/
def noneOut (x y : Int) (k : Nat) : Prop := ∀ j, j < k → (hasI x j && !hasI y j) = false
/-- What holds at the head of a round. -/
def BelowRel (x y : Int) (w : World) (i : Value) (wr : World) : Prop := ∃ k : Nat, k ≤ 64 ∧ i = .int .i64 k ∧ noneOut x y k ∧ w = wr
def refBelowI (x y : Int) : Bool := (List.range 64).all fun j => !(hasI x j && !hasI y j)

set_option maxHeartbeats 800000 in
theorem refBelow_any (x y : Int) (w : World) (hx : 0 ≤ x) (hy : 0 ≤ y) :
    Calls Try.prog 55 #[.int .u64 x, .int .u64 y] w fun e w' => e = .returned (.bool (refBelowI x y)) ∧ w = w' := by
  go_enter Try.func55, Try.ntmps55
  go_wp2_with fail
  go_loopw [5] (fun i wr => BelowRel x y w i wr) (fun i _ => 64 - (intOf i).toNat)
  case atStart => exact ⟨0, by omega, rfl, fun j hj => absurd hj (by omega), rfl⟩
  case round =>
    obtain ⟨k, hk, rfl, hno, rfl⟩ := hrel
    have HN := Lib.hid hno
    clear hno
    by_cases hlt : k < 64
    · have hs : ∀ z : Bool, (hasI x k && !hasI y k) = z → z = false → noneOut x y (k + 1) := fun z hz hf j hj => by
        rcases Nat.lt_or_ge j k with h | h
        · exact HN.out j h
        · obtain rfl : j = k := by omega
          rw [hz, hf]
      have HS := Lib.hid hs
      clear hs
      by_cases h1 : hasI x k = true
      · by_cases h2 : hasI y k = true
        · go_wp2_with (first | (go_at_call_of 88 (Value.int IntKind.u64 x); refine (has_any x k _ hx hlt).mono ?_; rintro e w' ⟨rfl, rfl⟩) | (go_at_call_of 88 (Value.int IntKind.u64 y); refine (has_any y k _ hy hlt).mono ?_; rintro e w' ⟨rfl, rfl⟩))
          exact ⟨⟨k + 1, by omega, by go_num, HS.out _ (by rw [h1, h2]; rfl) rfl, rfl⟩, by simp [intOf]; omega⟩
        · have h2' : hasI y k = false := by simpa using h2
          clear h2
          go_wp2_with (first | (go_at_call_of 88 (Value.int IntKind.u64 x); refine (has_any x k _ hx hlt).mono ?_; rintro e w' ⟨rfl, rfl⟩) | (go_at_call_of 88 (Value.int IntKind.u64 y); refine (has_any y k _ hy hlt).mono ?_; rintro e w' ⟨rfl, rfl⟩))
          go_ret
          refine ⟨?_, rfl⟩
          have : refBelowI x y = false := by
            unfold refBelowI
            rw [List.all_eq_false]
            exact ⟨k, by simpa using hlt, by rw [h1, h2']; decide⟩
          rw [this]; rfl
      · have h1' : hasI x k = false := by simpa using h1
        clear h1
        go_wp2_with (first | (go_at_call_of 88 (Value.int IntKind.u64 x); refine (has_any x k _ hx hlt).mono ?_; rintro e w' ⟨rfl, rfl⟩) | (go_at_call_of 88 (Value.int IntKind.u64 y); refine (has_any y k _ hy hlt).mono ?_; rintro e w' ⟨rfl, rfl⟩))
        exact ⟨⟨k + 1, by omega, by go_num, HS.out _ (by rw [h1']; rfl) rfl, rfl⟩, by simp [intOf]; omega⟩
    · go_wp2_with fail
      go_ret
      refine ⟨?_, rfl⟩
      have : refBelowI x y = true := by
        unfold refBelowI
        rw [List.all_eq_true]
        intro j hj
        rw [HN.out j (by have : j < 64 := by simpa using hj
                         omega)]
        rfl
      rw [this]; rfl
def U (x : Int) : Prop := 0 ≤ x ∧ x ≤ 18446744073709551615
def orI (x y : Int) : Int := bits .or .u64 x y
theorem orI_zero {x : Int} (h : U x) : orI 0 x = x := by
  obtain ⟨X, rfl⟩ := Int.eq_ofNat_of_zero_le h.1
  have := h.2
  unfold orI
  show IntKind.u64.wrap ((BitVec.ofInt 64 0 ||| BitVec.ofInt 64 (X : Int)).toNat : Int) = _
  rw [BitVec.ofInt_natCast]
  have e : (BitVec.ofInt 64 0 ||| BitVec.ofNat 64 X).toNat = X := by
    rw [BitVec.toNat_or, BitVec.toNat_ofNat]
    have : (BitVec.ofInt 64 0).toNat = 0 := by decide
    rw [this, Nat.zero_or]; simp only [Nat.reducePow]; omega
  rw [e, IntKind.wrap_u64]; omega

theorem has_bit (X : BitVec 64) (k : Nat) : hasI (X.toNat : Int) k = X.getLsbD k := by
  unfold hasI
  have e : ((X.toNat : Int) / 2 ^ k % 2) = ((X.toNat / 2 ^ k % 2 : Nat) : Int) := by
    rw [Int.natCast_emod, Int.natCast_ediv, Int.natCast_pow]; rfl
  rw [e, BitVec.getLsbD, Nat.testBit_eq_decide_div_mod_eq, Bool.eq_iff_iff]
  simp only [beq_iff_eq, decide_eq_true_eq]
  omega
theorem below_bits (X Y : BitVec 64) : belowI (X.toNat : Int) (Y.toNat : Int) = decide (X &&& ~~~Y = 0#64) := by
  have h : bits .andNot .u64 (X.toNat : Int) (Y.toNat : Int) = ((X &&& ~~~Y).toNat : Int) := by
    show IntKind.u64.wrap ((BitVec.ofInt 64 (X.toNat : Int) &&& ~~~ BitVec.ofInt 64 (Y.toNat : Int)).toNat : Int) = _
    rw [BitVec.ofInt_natCast, BitVec.ofInt_natCast, BitVec.ofNat_toNat, BitVec.ofNat_toNat, BitVec.setWidth_eq, BitVec.setWidth_eq]
    have := (X &&& ~~~Y).isLt
    exact IntWalk.u64_in _ (by simp only [Nat.reducePow] at this; omega)
  unfold belowI
  rw [h, Bool.eq_iff_iff]
  simp only [beq_iff_eq, decide_eq_true_eq]
  rw [← BitVec.toNat_inj]
  simp only [BitVec.toNat_ofNat, Nat.zero_mod]
  omega
theorem refBelow_bits (X Y : BitVec 64) : refBelowI (X.toNat : Int) (Y.toNat : Int) = decide (X &&& ~~~Y = 0#64) := by
  unfold refBelowI
  rw [Bool.eq_iff_iff]
  simp only [List.all_eq_true, List.mem_range, has_bit, decide_eq_true_eq]
  constructor
  · intro h
    apply BitVec.eq_of_getLsbD_eq
    intro i hi
    have := h i hi
    simp only [BitVec.getLsbD_and, BitVec.getLsbD_not, hi, decide_true, Bool.true_and, BitVec.getLsbD_zero]
    revert this
    cases X.getLsbD i <;> cases Y.getLsbD i <;> simp
  · intro h i hi
    have := congrArg (fun z : BitVec 64 => z.getLsbD i) h
    simp only [BitVec.getLsbD_and, BitVec.getLsbD_not, hi, decide_true, Bool.true_and, BitVec.getLsbD_zero] at this
    revert this
    cases X.getLsbD i <;> cases Y.getLsbD i <;> simp
theorem below_same (x y : Int) (hx : U x) (hy : U y) : belowI x y = refBelowI x y := by
  have e : ∀ z : Int, U z → ((BitVec.ofInt 64 z).toNat : Int) = z := fun z hz => by
    rw [BitVec.toNat_ofInt]; have h0 := hz.1; have h1 := hz.2; simp only [Nat.reducePow]; omega
  rw [← e x hx, ← e y hy, below_bits, refBelow_bits]

def labC (c : Int) : List Value := [.int .u64 c]
def labsC (l : List Int) : List Value := l.flatMap labC
theorem labsC_len (l : List Int) : (labsC l).length = l.length := by have := flat_len (f := labC) (n := 1) (fun _ => rfl) l; rw [Nat.mul_one] at this; exact this
theorem labsC_at {xs : List Int} {i j : Nat} {x : Int} {u : Value} (h : xs[i]? = some x) (hu : (labC x)[j]? = some u) : (labsC xs)[i + j]? = some u := by
  have hj : j < 1 := (List.getElem?_eq_some_iff.1 hu).1
  have := flat_at (f := labC) (n := 1) (fun _ => rfl) xs i x h j hj
  rw [Nat.mul_one] at this
  rw [labsC, this, hu]
theorem labsC_take {xs : List Int} {i : Nat} {x : Int} (h : xs[i]? = some x) : labsC (xs.take (i + 1)) = labsC (xs.take i) ++ labC x := flat_take h
/-- The join of labels. -/
def joinL (a : Int) (l : List Int) : Int := l.foldl orI a
def LabRel (a : Int) (xs : List Int) (w : World) (v i : Value) (wr : World) : Prop := ∃ k : Nat, k ≤ xs.length ∧ v = .int .u64 (joinL a (xs.take k)) ∧ i = .int .i64 k ∧ w = wr
set_option maxRecDepth 20000 in
theorem labFold_any (a : Int) (A : Option Addr) (xs : List Int) (cap : Nat) (w : World) (hxs : SlAt w A (labsC xs)) (hcap : xs.length ≤ cap) (hn : xs.length ≤ 100000) :
    Calls Try.prog 91 #[.int .u64 a, .func (.func 92) #[] #[], .slice A xs.length cap] w fun e w' => e = .returned (.int .u64 (joinL a xs)) ∧ w = w' := by
  have HX := Lib.hid hxs
  clear hxs
  generalize hln : xs.length = n at *
  go_enter Try.func91, Try.ntmps91
  go_wp2_with fail
  go_loopw [0, 11] (fun v i wr => LabRel a xs w v i wr) (fun _ i _ => n - (intOf i).toNat)
  case atStart => exact ⟨0, Nat.zero_le _, rfl, rfl, rfl⟩
  case round =>
    obtain ⟨k, hk, rfl, rfl, rfl⟩ := hrel
    by_cases hlt : k < n
    · obtain ⟨x, hx⟩ : ∃ x, xs[k]? = some x := ⟨xs[k], by simp [hln, hlt]⟩
      obtain ⟨b, off, rfl, hbl, hcell⟩ := HX.out.cell (labsC_at (j := 0) hx (by rfl))
      have hc := hcell (k + 0) _ (labsC_at (j := 0) hx (by rfl))
      rw [Nat.add_zero] at hc
      have hj : orI (joinL a (xs.take k)) x = joinL a (xs.take (k + 1)) := by rw [List.take_add_one, hx]; simp [joinL]
      have HJ := Lib.hid hj
      clear hcell hj
      go_wp2_with fail
      refine (join1_any _ _ _).mono ?_
      rintro e w2 ⟨rfl, rfl⟩
      go_wp2_with fail
      exact ⟨⟨k + 1, by omega, by rw [← HJ.out]; rfl, by go_num, rfl⟩, by simp [intOf]; omega⟩
    · obtain rfl : k = n := by omega
      rw [← hln, List.take_length]
      go_wp2_with fail
      go_ret
      exact ⟨rfl, rfl⟩
theorem joinL_any (A : Option Addr) (xs : List Int) (cap : Nat) (w : World) (hxs : SlAt w A (labsC xs)) (hcap : xs.length ≤ cap) (hn : xs.length ≤ 100000) :
    Calls Try.prog 74 #[.slice A xs.length cap] w fun e w' => e = .returned (.int .u64 (joinL 0 xs)) ∧ w = w' := by
  have HF := Lib.hid (labFold_any 0 A xs cap w hxs hcap hn)
  clear hxs
  go_enter Try.func74, Try.ntmps74
  go_wp2_with fail
  refine HF.out.mono ?_
  rintro e w2 ⟨rfl, rfl⟩
  go_wp2_with fail
  go_ret
  exact ⟨rfl, rfl⟩
end Go.Proofs.Ytcfomhnfhalmaaa
