/- Unlike states are turned over to unlike ones. No condition. -/
import Derived.Test.YtojmifniidddpaaDigC
set_option linter.unusedVariables false
set_option linter.unusedSimpArgs false
namespace Go.Proofs.Ytojmifniidddpaa
open Go.RowKit

theorem rotl_bit (x : BitVec 64) {n i : Nat} (hn : n ≤ 64) (hi : i < 64) : (rotl x n).getLsbD i = x.getLsbD ((i + (64 - n)) % 64) := by
  unfold rotl
  rw [BitVec.getLsbD_or, BitVec.getLsbD_shiftLeft, BitVec.getLsbD_ushiftRight]
  by_cases h : i < n
  · have e : (i + (64 - n)) % 64 = 64 - n + i := by omega
    rw [e]
    simp [h]
  · have e : (i + (64 - n)) % 64 = i - n := by omega
    rw [e, BitVec.getLsbD_of_ge x (64 - n + i) (by omega)]
    simp [h, hi]
theorem rotl_inj {x y : BitVec 64} {n : Nat} (hn : n ≤ 64) (h : rotl x n = rotl y n) : x = y := by
  apply BitVec.eq_of_getLsbD_eq
  intro i hi
  have h1 := congrArg (fun z : BitVec 64 => z.getLsbD ((i + n) % 64)) h
  simp only [rotl_bit _ hn (show (i + n) % 64 < 64 by omega)] at h1
  rwa [show ((i + n) % 64 + (64 - n)) % 64 = i by omega] at h1
theorem chi_bits : ∀ a0 a1 a2 a3 a4 b0 b1 b2 b3 b4 : Bool, (a0 ^^ (!a1 && a2)) = (b0 ^^ (!b1 && b2)) → (a1 ^^ (!a2 && a3)) = (b1 ^^ (!b2 && b3)) → (a2 ^^ (!a3 && a4)) = (b2 ^^ (!b3 && b4)) → (a3 ^^ (!a4 && a0)) = (b3 ^^ (!b4 && b0)) → (a4 ^^ (!a0 && a1)) = (b4 ^^ (!b0 && b1)) → a0 = b0 ∧ a1 = b1 ∧ a2 = b2 ∧ a3 = b3 ∧ a4 = b4 := by decide
theorem chi_inj {a0 a1 a2 a3 a4 b0 b1 b2 b3 b4 : BitVec 64} (h0 : a0 ^^^ (~~~ a1 &&& a2) = b0 ^^^ (~~~ b1 &&& b2)) (h1 : a1 ^^^ (~~~ a2 &&& a3) = b1 ^^^ (~~~ b2 &&& b3)) (h2 : a2 ^^^ (~~~ a3 &&& a4) = b2 ^^^ (~~~ b3 &&& b4)) (h3 : a3 ^^^ (~~~ a4 &&& a0) = b3 ^^^ (~~~ b4 &&& b0)) (h4 : a4 ^^^ (~~~ a0 &&& a1) = b4 ^^^ (~~~ b0 &&& b1)) :
    a0 = b0 ∧ a1 = b1 ∧ a2 = b2 ∧ a3 = b3 ∧ a4 = b4 := by
  have hb : ∀ i, i < 64 → a0.getLsbD i = b0.getLsbD i ∧ a1.getLsbD i = b1.getLsbD i ∧ a2.getLsbD i = b2.getLsbD i ∧ a3.getLsbD i = b3.getLsbD i ∧ a4.getLsbD i = b4.getLsbD i := by
    intro i hi
    have g0 := congrArg (fun z : BitVec 64 => z.getLsbD i) h0
    have g1 := congrArg (fun z : BitVec 64 => z.getLsbD i) h1
    have g2 := congrArg (fun z : BitVec 64 => z.getLsbD i) h2
    have g3 := congrArg (fun z : BitVec 64 => z.getLsbD i) h3
    have g4 := congrArg (fun z : BitVec 64 => z.getLsbD i) h4
    simp only [BitVec.getLsbD_xor, BitVec.getLsbD_and, BitVec.getLsbD_not, hi, decide_true, Bool.true_and] at g0 g1 g2 g3 g4
    exact chi_bits _ _ _ _ _ _ _ _ _ _ g0 g1 g2 g3 g4
  exact ⟨BitVec.eq_of_getLsbD_eq fun i hi => (hb i hi).1, BitVec.eq_of_getLsbD_eq fun i hi => (hb i hi).2.1, BitVec.eq_of_getLsbD_eq fun i hi => (hb i hi).2.2.1, BitVec.eq_of_getLsbD_eq fun i hi => (hb i hi).2.2.2.1, BitVec.eq_of_getLsbD_eq fun i hi => (hb i hi).2.2.2.2⟩
/-- Numbers of which sums of three are nought, twice as far apart. -/
theorem apart_twice {e : Nat → Nat → Bool} {a b c : Nat} (h : ∀ j z, (e j z ^^ e (j + a) z ^^ e (j + b) (z + c)) = false) : ∀ j z, (e j z ^^ e (j + 2 * a) z ^^ e (j + 2 * b) (z + 2 * c)) = false := by
  intro j z
  have h1 := h j z
  have h2 := h (j + a) z
  have h3 := h (j + b) (z + c)
  rw [show j + b + a = j + a + b by omega] at h3
  rw [show j + a + a = j + 2 * a by omega] at h2
  rw [show j + b + b = j + 2 * b by omega, show z + c + c = z + 2 * c by omega] at h3
  revert h1 h2 h3
  generalize e j z = p1
  generalize e (j + a) z = p2
  generalize e (j + b) (z + c) = p3
  generalize e (j + 2 * a) z = p4
  generalize e (j + a + b) (z + c) = p5
  generalize e (j + 2 * b) (z + 2 * c) = p6
  revert p1 p2 p3 p4 p5 p6
  decide
theorem five_nought : ∀ e0 e1 e2 e3 e4 : Bool, (e0 ^^ e1 ^^ e4) = false → (e1 ^^ e2 ^^ e0) = false → (e2 ^^ e3 ^^ e1) = false → (e3 ^^ e4 ^^ e2) = false → (e4 ^^ e0 ^^ e3) = false → e0 = false ∧ e1 = false ∧ e2 = false ∧ e3 = false ∧ e4 = false := by decide
/-- A column's part in what is laid on: no two unlike ones give the same. -/
theorem theta_nought {d : Nat → BitVec 64} (h : ∀ j, j < 5 → d j ^^^ d ((j + 4) % 5) ^^^ rotl (d ((j + 1) % 5)) 1 = 0#64) : ∀ j, j < 5 → d j = 0#64 := by
  have h0 : ∀ j z, (((d (j % 5)).getLsbD (z % 64)) ^^ ((d ((j + 4) % 5)).getLsbD (z % 64)) ^^ ((d ((j + 1) % 5)).getLsbD ((z + 63) % 64))) = false := by
    intro j z
    have h1 := congrArg (fun x : BitVec 64 => x.getLsbD (z % 64)) (h (j % 5) (by omega))
    simp only [BitVec.getLsbD_xor, rotl_bit _ (show 1 ≤ 64 by decide) (show z % 64 < 64 by omega)] at h1
    rw [show (j % 5 + 4) % 5 = (j + 4) % 5 by omega, show (j % 5 + 1) % 5 = (j + 1) % 5 by omega, show (z % 64 + (64 - 1)) % 64 = (z + 63) % 64 by omega] at h1
    rw [h1]
    simp
  have h6 := apart_twice (apart_twice (apart_twice (apart_twice (apart_twice (apart_twice (e := fun j z => (d (j % 5)).getLsbD (z % 64)) h0)))))
  intro j hj
  apply BitVec.eq_of_getLsbD_eq
  intro i hi
  have k0 := h6 0 i
  have k1 := h6 1 i
  have k2 := h6 2 i
  have k3 := h6 3 i
  have k4 := h6 4 i
  simp only [show ∀ n, (n + 2 * (2 * (2 * (2 * (2 * (2 * 4)))))) % 5 = (n + 1) % 5 by omega, show ∀ n, (n + 2 * (2 * (2 * (2 * (2 * (2 * 1)))))) % 5 = (n + 4) % 5 by omega, show (i + 2 * (2 * (2 * (2 * (2 * (2 * 63)))))) % 64 = i by omega, show i % 64 = i by omega, Nat.reduceAdd, Nat.reduceMod] at k0 k1 k2 k3 k4
  have := five_nought _ _ _ _ _ k0 k1 k2 k3 k4
  rw [BitVec.getLsbD_zero]
  rcases (by omega : j = 0 ∨ j = 1 ∨ j = 2 ∨ j = 3 ∨ j = 4) with rfl | rfl | rfl | rfl | rfl
  · exact this.1
  · exact this.2.1
  · exact this.2.2.1
  · exact this.2.2.2.1
  · exact this.2.2.2.2
theorem rotl_xor (x y : BitVec 64) (n : Nat) : rotl (x ^^^ y) n = rotl x n ^^^ rotl y n := by
  unfold rotl
  apply BitVec.eq_of_getLsbD_eq
  intro i hi
  simp only [BitVec.getLsbD_or, BitVec.getLsbD_xor, BitVec.getLsbD_shiftLeft, BitVec.getLsbD_ushiftRight]
  by_cases h : i < n
  · simp [h, hi]
  · rw [BitVec.getLsbD_of_ge x (64 - n + i) (by omega), BitVec.getLsbD_of_ge y (64 - n + i) (by omega)]
    simp [h, hi]
theorem each_range (f : Nat → BitVec 64) : each f = (List.range 25).map f := rfl
theorem lane_each (f : Nat → BitVec 64) {i : Nat} (h : i < 25) : lane (each f) i = f i := by
  rw [each_range]
  unfold lane
  rw [List.getD_eq_getElem?_getD, List.getElem?_map, List.getElem?_range h]
  rfl
theorem each_len (f : Nat → BitVec 64) : (each f).length = 25 := rfl
theorem pk_each (l : List (BitVec 64)) : pk l = each (lane l) := rfl
theorem lanes_ext {l l' : List (BitVec 64)} (h : l.length = 25) (h' : l'.length = 25) (hl : ∀ i, i < 25 → lane l i = lane l' i) : l = l' := by
  apply List.ext_getElem?
  intro i
  by_cases hi : i < 25
  · have := hl i hi
    unfold lane at this
    rw [List.getD_eq_getElem?_getD, List.getD_eq_getElem?_getD] at this
    rw [List.getElem?_eq_getElem (by omega), List.getElem?_eq_getElem (by omega)] at this ⊢
    simpa using this
  · rw [List.getElem?_eq_none (by omega), List.getElem?_eq_none (by omega)]
theorem par_each (f : Nat → BitVec 64) {j : Nat} (h : j < 5) : par (each f) j = ((((0#64 ^^^ f j) ^^^ f (j + 5)) ^^^ f (j + 10)) ^^^ f (j + 15)) ^^^ f (j + 20) := by
  unfold par
  rw [lane_each f (by omega), lane_each f (by omega), lane_each f (by omega), lane_each f (by omega), lane_each f (by omega)]
theorem colA_eq (l : List (BitVec 64)) (i : Nat) : colA l i = lane l i ^^^ (par l ((i % 5 + 4) % 5) ^^^ rotl (par l ((i % 5 + 1) % 5)) 1) := by
  unfold colA
  rw [show (i % 5 + 4) % 5 = (i + 4) % 5 by omega, show (i % 5 + 1) % 5 = (i + 1) % 5 by omega]
theorem xor_five (a b c d e D : BitVec 64) : ((((0#64 ^^^ (a ^^^ D)) ^^^ (b ^^^ D)) ^^^ (c ^^^ D)) ^^^ (d ^^^ D)) ^^^ (e ^^^ D) = (((((0#64 ^^^ a) ^^^ b) ^^^ c) ^^^ d) ^^^ e) ^^^ D := by
  apply BitVec.eq_of_getLsbD_eq
  intro i hi
  simp only [BitVec.getLsbD_xor, BitVec.getLsbD_zero]
  generalize a.getLsbD i = a
  generalize b.getLsbD i = b
  generalize c.getLsbD i = c
  generalize d.getLsbD i = d
  generalize e.getLsbD i = e
  generalize D.getLsbD i = D
  revert a b c d e D
  decide
theorem par_col (l : List (BitVec 64)) {j : Nat} (h : j < 5) : par (colS l) j = par l j ^^^ (par l ((j + 4) % 5) ^^^ rotl (par l ((j + 1) % 5)) 1) := by
  unfold colS
  rw [par_each _ h]
  rw [colA_eq, colA_eq, colA_eq, colA_eq, colA_eq, show (j + 5) % 5 = j by omega, show (j + 10) % 5 = j by omega, show (j + 15) % 5 = j by omega, show (j + 20) % 5 = j by omega, show j % 5 = j by omega]
  exact xor_five _ _ _ _ _ _
theorem xor_nought {x y : BitVec 64} (h : x ^^^ y = 0#64) : x = y := by
  have : x ^^^ y ^^^ y = 0#64 ^^^ y := by rw [h]
  rwa [BitVec.xor_assoc, BitVec.xor_self, BitVec.xor_zero, BitVec.zero_xor] at this
theorem col_inj {l l' : List (BitVec 64)} (h : l.length = 25) (h' : l'.length = 25) (he : colS l = colS l') : l = l' := by
  have hd : ∀ j, j < 5 → par l j = par l' j := by
    intro j hj
    apply xor_nought
    refine theta_nought (d := fun j => par l j ^^^ par l' j) (fun j hj => ?_) j hj
    have hp : par (colS l) j = par (colS l') j := by rw [he]
    rw [par_col l hj, par_col l' hj] at hp
    simp only [rotl_xor]
    revert hp
    generalize par l j = a
    generalize par l' j = a'
    generalize par l ((j + 4) % 5) = b
    generalize par l' ((j + 4) % 5) = b'
    generalize rotl (par l ((j + 1) % 5)) 1 = c
    generalize rotl (par l' ((j + 1) % 5)) 1 = c'
    intro hp
    rw [show a ^^^ a' ^^^ (b ^^^ b') ^^^ (c ^^^ c') = (a ^^^ (b ^^^ c)) ^^^ (a' ^^^ (b' ^^^ c')) by ac_rfl, hp, BitVec.xor_self]
  refine lanes_ext h h' fun i hi => ?_
  have hl : lane (colS l) i = lane (colS l') i := by rw [he]
  unfold colS at hl
  rw [lane_each _ hi, lane_each _ hi] at hl
  unfold colA at hl
  rw [hd _ (by omega), hd _ (by omega)] at hl
  have := congrArg (· ^^^ (par l' ((i + 4) % 5) ^^^ rotl (par l' ((i + 1) % 5)) 1)) hl
  simpa [BitVec.xor_assoc] using this
theorem row_inj {l l' : List (BitVec 64)} (h : l.length = 25) (h' : l'.length = 25) (he : rowS l = rowS l') : l = l' := by
  have hr : ∀ i, i < 25 → rowA l i = rowA l' i := by
    intro i hi
    have hl : lane (rowS l) i = lane (rowS l') i := by rw [he]
    unfold rowS at hl
    rwa [lane_each _ hi, lane_each _ hi] at hl
  have h5 : ∀ r, r < 5 → lane l (5 * r) = lane l' (5 * r) ∧ lane l (5 * r + 1) = lane l' (5 * r + 1) ∧ lane l (5 * r + 2) = lane l' (5 * r + 2) ∧ lane l (5 * r + 3) = lane l' (5 * r + 3) ∧ lane l (5 * r + 4) = lane l' (5 * r + 4) := by
    intro r hr5
    have g0 := hr (5 * r) (by omega)
    have g1 := hr (5 * r + 1) (by omega)
    have g2 := hr (5 * r + 2) (by omega)
    have g3 := hr (5 * r + 3) (by omega)
    have g4 := hr (5 * r + 4) (by omega)
    unfold rowA at g0 g1 g2 g3 g4
    rw [show 5 * r - 5 * r % 5 + (5 * r + 1) % 5 = 5 * r + 1 by omega, show 5 * r - 5 * r % 5 + (5 * r + 2) % 5 = 5 * r + 2 by omega] at g0
    rw [show 5 * r + 1 - (5 * r + 1) % 5 + (5 * r + 1 + 1) % 5 = 5 * r + 2 by omega, show 5 * r + 1 - (5 * r + 1) % 5 + (5 * r + 1 + 2) % 5 = 5 * r + 3 by omega] at g1
    rw [show 5 * r + 2 - (5 * r + 2) % 5 + (5 * r + 2 + 1) % 5 = 5 * r + 3 by omega, show 5 * r + 2 - (5 * r + 2) % 5 + (5 * r + 2 + 2) % 5 = 5 * r + 4 by omega] at g2
    rw [show 5 * r + 3 - (5 * r + 3) % 5 + (5 * r + 3 + 1) % 5 = 5 * r + 4 by omega, show 5 * r + 3 - (5 * r + 3) % 5 + (5 * r + 3 + 2) % 5 = 5 * r by omega] at g3
    rw [show 5 * r + 4 - (5 * r + 4) % 5 + (5 * r + 4 + 1) % 5 = 5 * r by omega, show 5 * r + 4 - (5 * r + 4) % 5 + (5 * r + 4 + 2) % 5 = 5 * r + 1 by omega] at g4
    exact chi_inj g0 g1 g2 g3 g4
  refine lanes_ext h h' fun i hi => ?_
  have hi5 := h5 (i / 5) (by omega)
  rcases (by omega : i = 5 * (i / 5) ∨ i = 5 * (i / 5) + 1 ∨ i = 5 * (i / 5) + 2 ∨ i = 5 * (i / 5) + 3 ∨ i = 5 * (i / 5) + 4) with e | e | e | e | e <;> rw [e]
  · exact hi5.1
  · exact hi5.2.1
  · exact hi5.2.2.1
  · exact hi5.2.2.2.1
  · exact hi5.2.2.2.2
theorem pk_inj {l l' : List (BitVec 64)} (h : l.length = 25) (h' : l'.length = 25) (he : pk l = pk l') : l = l' := by
  refine lanes_ext h h' fun i hi => ?_
  have hl : lane (pk l) i = lane (pk l') i := by rw [he]
  rw [pk_each, pk_each] at hl
  rwa [lane_each _ hi, lane_each _ hi] at hl
theorem pla_inj {l l' : List (BitVec 64)} (h : l.length = 25) (h' : l'.length = 25) (he : plaS l = plaS l') : l = l' := by
  unfold plaS at he
  simp only [List.cons.injEq, and_true] at he
  obtain ⟨h0, h1, h2, h3, h4, h5, h6, h7, h8, h9, h10, h11, h12, h13, h14, h15, h16, h17, h18, h19, h20, h21, h22, h23, h24⟩ := he
  refine lanes_ext h h' fun i hi => ?_
  rcases (by omega : i = 0 ∨ i = 1 ∨ i = 2 ∨ i = 3 ∨ i = 4 ∨ i = 5 ∨ i = 6 ∨ i = 7 ∨ i = 8 ∨ i = 9 ∨ i = 10 ∨ i = 11 ∨ i = 12 ∨ i = 13 ∨ i = 14 ∨ i = 15 ∨ i = 16 ∨ i = 17 ∨ i = 18 ∨ i = 19 ∨ i = 20 ∨ i = 21 ∨ i = 22 ∨ i = 23 ∨ i = 24) with rfl | rfl | rfl | rfl | rfl | rfl | rfl | rfl | rfl | rfl | rfl | rfl | rfl | rfl | rfl | rfl | rfl | rfl | rfl | rfl | rfl | rfl | rfl | rfl | rfl
  · exact h0
  · exact rotl_inj (by decide) h10
  · exact rotl_inj (by decide) h20
  · exact rotl_inj (by decide) h5
  · exact rotl_inj (by decide) h15
  · exact rotl_inj (by decide) h16
  · exact rotl_inj (by decide) h1
  · exact rotl_inj (by decide) h11
  · exact rotl_inj (by decide) h21
  · exact rotl_inj (by decide) h6
  · exact rotl_inj (by decide) h7
  · exact rotl_inj (by decide) h17
  · exact rotl_inj (by decide) h2
  · exact rotl_inj (by decide) h12
  · exact rotl_inj (by decide) h22
  · exact rotl_inj (by decide) h23
  · exact rotl_inj (by decide) h8
  · exact rotl_inj (by decide) h18
  · exact rotl_inj (by decide) h3
  · exact rotl_inj (by decide) h13
  · exact rotl_inj (by decide) h14
  · exact rotl_inj (by decide) h24
  · exact rotl_inj (by decide) h9
  · exact rotl_inj (by decide) h19
  · exact rotl_inj (by decide) h4
theorem xr_inj {l l' : List (BitVec 64)} {c : BitVec 64} (h : l.length = 25) (h' : l'.length = 25) (he : xr l c = xr l' c) : l = l' := by
  unfold xr at he
  simp only [List.cons.injEq, and_true] at he
  obtain ⟨h0, h1, h2, h3, h4, h5, h6, h7, h8, h9, h10, h11, h12, h13, h14, h15, h16, h17, h18, h19, h20, h21, h22, h23, h24⟩ := he
  refine lanes_ext h h' fun i hi => ?_
  rcases (by omega : i = 0 ∨ i = 1 ∨ i = 2 ∨ i = 3 ∨ i = 4 ∨ i = 5 ∨ i = 6 ∨ i = 7 ∨ i = 8 ∨ i = 9 ∨ i = 10 ∨ i = 11 ∨ i = 12 ∨ i = 13 ∨ i = 14 ∨ i = 15 ∨ i = 16 ∨ i = 17 ∨ i = 18 ∨ i = 19 ∨ i = 20 ∨ i = 21 ∨ i = 22 ∨ i = 23 ∨ i = 24) with rfl | rfl | rfl | rfl | rfl | rfl | rfl | rfl | rfl | rfl | rfl | rfl | rfl | rfl | rfl | rfl | rfl | rfl | rfl | rfl | rfl | rfl | rfl | rfl | rfl
  · have := congrArg (· ^^^ c) h0
    simpa [BitVec.xor_assoc] using this
  · exact h1
  · exact h2
  · exact h3
  · exact h4
  · exact h5
  · exact h6
  · exact h7
  · exact h8
  · exact h9
  · exact h10
  · exact h11
  · exact h12
  · exact h13
  · exact h14
  · exact h15
  · exact h16
  · exact h17
  · exact h18
  · exact h19
  · exact h20
  · exact h21
  · exact h22
  · exact h23
  · exact h24
theorem rnd_len (l : List (BitVec 64)) (n : Int) : (rnd l n).length = 25 := rfl
theorem rnd_inj {l l' : List (BitVec 64)} {n : Int} (h : l.length = 25) (h' : l'.length = 25) (he : rnd l n = rnd l' n) : l = l' := by
  unfold rnd at he
  exact col_inj h h' (pk_inj rfl rfl (pla_inj rfl rfl (pk_inj rfl rfl (row_inj rfl rfl (xr_inj rfl rfl he)))))
theorem rnds_inj : ∀ (cs : List Int) {l l' : List (BitVec 64)}, l.length = 25 → l'.length = 25 → cs.foldl rnd l = cs.foldl rnd l' → l = l'
  | [], _, _, _, _, h => h
  | c :: cs, l, l', h1, h2, h => rnd_inj h1 h2 (rnds_inj cs (rnd_len l c) (rnd_len l' c) h)
/-- Unlike states are turned over to unlike ones. -/
theorem turnS_inj {l l' : List (BitVec 64)} (h : l.length = 25) (h' : l'.length = 25) (he : turnS l = turnS l') : l = l' := rnds_inj consts h h' he
end Go.Proofs.Ytojmifniidddpaa
