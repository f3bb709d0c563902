/- Lists of values. No program of its own. No condition. -/
import Derived.Test.YtcfomhnfhalmaaaStackC
import Derived.Test.YtcfomhnfhalmaaaEyWk
set_option linter.unusedVariables false
set_option linter.unusedSimpArgs false
set_option maxRecDepth 100000
namespace Go.Proofs.Ytcfomhnfhalmaaa
open Go.RowKit

theorem putR_up {s m o : Nat} {F : Nat → List AV} {vs : List AV} (ho : o + vs.length ≤ s) (hF : (F m).length = s) (j : Nat) : putR s F m o vs j = if j = m then setsA (F j) o vs else F j := by
  rw [putR_eq ho hF]
  show (bif Nat.beq j m then setsA (F j) o vs else F j) = _
  cases h : Nat.beq j m
  · simp [Nat.ne_of_beq_eq_false h]
  · simp [Nat.eq_of_beq_eq_true h]
theorem v5_len (x : V5) : (v5 x).length = 5 := rfl
theorem F5_len (L : List V5) (i : Nat) : (F5 L i).length = 5 := rfl
/-- A list, told place by place. -/
def mapN (n : Nat) (g : Nat → V5) : List V5 := (List.range n).map g
theorem mapN_len (n : Nat) (g : Nat → V5) : (mapN n g).length = n := by simp [mapN]
theorem mapN_get {n : Nat} {g : Nat → V5} {i : Nat} (h : i < n) : (mapN n g).getD i z5 = g i := by
  simp [mapN, List.getD_eq_getElem?_getD, h]
theorem F5_mapN {n : Nat} {g : Nat → V5} {i : Nat} (h : i < n) : F5 (mapN n g) i = v5 (g i) := by unfold F5; rw [mapN_get h]
theorem list_get (L : List V5) : mapN L.length (fun i => L.getD i z5) = L := by
  apply List.ext_getElem
  · simp [mapN]
  · intro i h1 h2
    simp [mapN, List.getD_eq_getElem?_getD, List.getElem?_eq_getElem h2]
theorem mapN_ext {n : Nat} {g h : Nat → V5} (H : ∀ i, i < n → g i = h i) : mapN n g = mapN n h := by
  unfold mapN
  exact List.map_congr_left fun i hi => H i (List.mem_range.1 hi)
theorem ext5 {L M : List V5} (hl : L.length = M.length) (h : ∀ i, i < L.length → L.getD i z5 = M.getD i z5) : L = M := by
  rw [← list_get L, ← list_get M, ← hl]; exact mapN_ext h
/-- Two labels joined, as the program does it. -/
def jn (x y : BitVec 64) : BitVec 64 := BitVec.ofInt 64 0 ||| x ||| y
theorem jn_eq (x y : BitVec 64) : jn x y = x ||| y := by simp [jn]
def joinTo (L : List V5) (at' : Nat) : Nat → BitVec 64
  | 0 => 0#64
  | k + 1 => jn (joinTo L at' k) (L.getD (at' + k) z5).l
def upLab (a : BitVec 64) (v : V5) : V5 := ⟨v.a, v.b, v.c, v.d, BitVec.ofInt 64 0 ||| v.l ||| a⟩
def raiseTo (L : List V5) (at' e : Nat) (a : BitVec 64) : List V5 := mapN L.length fun i => if at' ≤ i ∧ i < e then upLab a (L.getD i z5) else L.getD i z5
def revTo (L : List V5) (k : Nat) : List V5 := mapN L.length fun i => if i < k ∨ L.length - 1 - i < k then L.getD (L.length - 1 - i) z5 else L.getD i z5
def rev5 (L : List V5) : List V5 := mapN L.length fun i => L.getD (L.length - 1 - i) z5
open Classical in
/-- A row's elements are these values. -/
noncomputable def rowIs (F : Nat → List AV) (n : Nat) (L : List V5) : Bool := decide (L.length = n ∧ ∀ i, i < n → AV.vals? (F i) = AV.vals? (F5 L i))
theorem rowIs_spec {F : Nat → List AV} {n : Nat} {L : List V5} (h : rowIs F n L = true) : L.length = n ∧ ∀ i, i < n → AV.vals? (F i) = AV.vals? (F5 L i) := by
  simpa [rowIs] using h
theorem rowIs_self (L : List V5) : rowIs (F5 L) L.length L = true := by simp [rowIs]
theorem raise_next {L : List V5} {at' k : Nat} {a : BitVec 64} (hk : at' + k < L.length) (i : Nat) (hi : i < L.length) : putR 5 (F5 (raiseTo L at' (at' + k) a)) (at' + k) 4 [.bv .u64 (BitVec.ofInt 64 0 ||| V5.l (List.getD (raiseTo L at' (at' + k) a) (at' + k) z5) ||| a)] i = F5 (raiseTo L at' (at' + (k + 1)) a) i := by
  have g : ∀ j, j < L.length → (raiseTo L at' (at' + k) a).getD j z5 = if at' ≤ j ∧ j < at' + k then upLab a (L.getD j z5) else L.getD j z5 := fun j hj => mapN_get hj
  have f : F5 (raiseTo L at' (at' + k) a) i = v5 (if at' ≤ i ∧ i < at' + k then upLab a (L.getD i z5) else L.getD i z5) := F5_mapN hi
  have f' : F5 (raiseTo L at' (at' + (k + 1)) a) i = v5 (if at' ≤ i ∧ i < at' + (k + 1) then upLab a (L.getD i z5) else L.getD i z5) := F5_mapN hi
  rw [putR_up (s := 5) (show 4 + 1 ≤ 5 by omega) (F5_len _ _), f, f', g _ hk]
  by_cases h : i = at' + k
  · rw [if_pos h, if_neg (show ¬ (at' ≤ i ∧ i < at' + k) by omega), if_neg (show ¬ (at' ≤ at' + k ∧ at' + k < at' + k) by omega), if_pos (show at' ≤ i ∧ i < at' + (k + 1) by omega), h]
    rfl
  · rw [if_neg h]
    by_cases h2 : at' ≤ i ∧ i < at' + k
    · rw [if_pos h2, if_pos (show at' ≤ i ∧ i < at' + (k + 1) by omega)]
    · rw [if_neg h2, if_neg (show ¬ (at' ≤ i ∧ i < at' + (k + 1)) by omega)]
theorem raise_zero (L : List V5) (at' : Nat) (a : BitVec 64) : raiseTo L at' at' a = L := by
  refine ext5 (mapN_len _ _) fun i hi => ?_
  unfold raiseTo at hi ⊢
  rw [mapN_len] at hi
  rw [mapN_get hi, if_neg (by omega)]
theorem raise_len (L : List V5) (at' e : Nat) (a : BitVec 64) : (raiseTo L at' e a).length = L.length := mapN_len _ _
theorem rev_len (L : List V5) (k : Nat) : (revTo L k).length = L.length := mapN_len _ _
theorem rev_zero (L : List V5) : revTo L 0 = L := by
  refine ext5 (mapN_len _ _) fun i hi => ?_
  unfold revTo at hi ⊢
  rw [mapN_len] at hi
  rw [mapN_get hi, if_neg (by omega)]
theorem rev_last (L : List V5) : revTo L (L.length / 2) = rev5 L := by
  unfold revTo rev5
  refine mapN_ext fun i hi => ?_
  by_cases h : i < L.length / 2 ∨ L.length - 1 - i < L.length / 2
  · rw [if_pos h]
  · rw [if_neg h, show L.length - 1 - i = i by omega]
theorem rev_next {L : List V5} {k : Nat} (hk : k < L.length / 2) (i : Nat) (hi : i < L.length) : putR 5 (putR 5 (F5 (revTo L k)) k 0 (List.take 5 (F5 (revTo L k) (L.length - 1 - k)))) (L.length - 1 - k) 0 (List.take 5 (F5 (revTo L k) k)) i = F5 (revTo L (k + 1)) i := by
  have e : ∀ j, List.take 5 (F5 (revTo L k) j) = F5 (revTo L k) j := fun j => rfl
  rw [e, e]
  have q : ∀ (X : V5) (Y : V5), setsA (v5 Y) 0 (v5 X) = v5 X := fun X Y => rfl
  have hF : putR 5 (F5 (revTo L k)) k 0 (F5 (revTo L k) (L.length - 1 - k)) = fun j => if j = k then F5 (revTo L k) (L.length - 1 - k) else F5 (revTo L k) j := by
    funext j
    rw [putR_up (s := 5) (by rw [F5_len]; decide) (F5_len _ _)]
    by_cases h : j = k
    · rw [if_pos h, if_pos h]; rfl
    · rw [if_neg h, if_neg h]
  rw [hF, putR_up (s := 5) (by rw [F5_len]; decide) (by split <;> rfl)]
  have g : ∀ j, j < L.length → F5 (revTo L k) j = v5 (if j < k ∨ L.length - 1 - j < k then L.getD (L.length - 1 - j) z5 else L.getD j z5) := fun j hj => F5_mapN hj
  rw [show F5 (revTo L (k + 1)) i = v5 (if i < k + 1 ∨ L.length - 1 - i < k + 1 then L.getD (L.length - 1 - i) z5 else L.getD i z5) from F5_mapN hi]
  by_cases h1 : i = L.length - 1 - k
  · rw [if_pos h1, if_neg (by omega), g k (by omega), if_neg (by omega), if_pos (by omega), show L.length - 1 - i = k by omega]
    rfl
  · rw [if_neg h1]
    by_cases h2 : i = k
    · rw [if_pos h2, g _ (by omega), if_neg (by omega), if_pos (by omega), h2]
    · rw [if_neg h2, g i hi]
      by_cases h3 : i < k ∨ L.length - 1 - i < k
      · rw [if_pos h3, if_pos (by omega)]
      · rw [if_neg h3, if_neg (by omega)]
end Go.Proofs.Ytcfomhnfhalmaaa
